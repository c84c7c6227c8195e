import Derived.Test.YtfjonnpaoeillaaBestSplit
import Derived.Test.YtfjonnpaoeillaaShare
/- Plain laws of shares and splits: the best ones are best, the best share lies next to the fair one, the best split of a multiple is in proportion. -/
set_option linter.unusedVariables false
namespace Go.Proofs.Ytfjonnpaoeillaa
open Go.ChangeShapes Go.WideShapes Go.ChangeAt Go.RowKit

/-! Powers without wrapping. -/
theorem pow_nat_le {a M : Nat} (h : a ≤ M) (k : Nat) : a ^ k ≤ M ^ k := Nat.pow_le_pow_left h k
theorem powW_nat (a k M : Nat) (ha : a ≤ M) (hM : ∀ j, j ≤ k → M ^ j ≤ 9223372036854775807) : powW (a : Int) k = ((a ^ k : Nat) : Int) := by
  induction k with
  | zero => simp [powW]
  | succ k ih =>
    have h1 := pow_nat_le ha (k + 1)
    have h2 := hM (k + 1) (Nat.le_refl _)
    rw [powW, ih (fun j hj => hM j (by omega)), ← Int.natCast_mul, ← Nat.pow_succ]
    generalize a ^ (k + 1) = z at h1 ⊢
    generalize M ^ (k + 1) = y at h1 h2
    unfold wrap64; omega

/-! The best share. -/
def gN (a b x y n k : Nat) : Nat := Nat.mul (Nat.pow (Nat.add (Nat.mul n b) (Nat.mul k a)) x) (Nat.pow (Nat.sub n k) y)
theorem pow4 (M k : Nat) (hk : k ≤ 4) (hM : M ≤ 200) : ∀ j, j ≤ k → M ^ j ≤ 1600000000 := by
  intro j hj
  have h1 : M ^ j ≤ 200 ^ j := Nat.pow_le_pow_left hM j
  have h2 : 200 ^ j ≤ 200 ^ 4 := Nat.pow_le_pow_right (by omega) (by omega)
  omega
theorem growW_nat {a b x y n k : Nat} (ha : a ≤ 9) (hb : b ≤ 9) (hx : x ≤ 4) (hy : y ≤ 4) (hn : n ≤ 10) (hk : k ≤ n) : growW a b x y n k = (gN a b x y n k : Nat) := by
  have h1 : n * b ≤ 90 := by have := Nat.mul_le_mul hn hb; omega
  have h2 : k * a ≤ 90 := by have := Nat.mul_le_mul (show k ≤ 10 by omega) ha; omega
  have e1 : (n : Int) * b + (k : Int) * a = ((n * b + k * a : Nat) : Int) := by simp
  have e2 : (n : Int) - (k : Int) = ((n - k : Nat) : Int) := by omega
  have h3 : (n * b + k * a) ^ x ≤ 1600000000 := pow4 _ x hx (by omega) x (Nat.le_refl _)
  have h4 : (n - k) ^ y ≤ 10 ^ y := Nat.pow_le_pow_left (by omega) y
  have h5 : 10 ^ y ≤ 10 ^ 4 := Nat.pow_le_pow_right (by omega) hy
  have h6 := Nat.mul_le_mul h3 (show (n - k) ^ y ≤ 10000 by omega)
  rw [growW, e1, e2, Int.toNat_natCast, Int.toNat_natCast,
    powW_nat _ x (n * b + k * a) (Nat.le_refl _) (fun j hj => by have := pow4 (n * b + k * a) x hx (by omega) j hj; omega),
    powW_nat _ y (n - k) (Nat.le_refl _) (fun j hj => by have := pow4 (n - k) y hy (by omega) j hj; omega), ← Int.natCast_mul]
  show wrap64 (((n * b + k * a) ^ x * (n - k) ^ y : Nat) : Int) = (((n * b + k * a) ^ x * (n - k) ^ y : Nat) : Int)
  unfold wrap64; omega

/-- The least best share from k on, the best one so far being known, with a test of what it answers. -/
def shareScan (a b x y n Q P : Nat) : Nat → Nat → Nat → Bool
  | 0, k, best => Nat.blt (Nat.mul best Q) (Nat.add (Nat.mul n P) Q) && Nat.blt (Nat.mul n P) (Nat.add (Nat.mul best Q) Q)
  | f + 1, k, best => match Nat.blt (gN a b x y n best) (gN a b x y n (Nat.succ k)) with
    | true => shareScan a b x y n Q P f (Nat.succ k) (Nat.succ k)
    | false => shareScan a b x y n Q P f (Nat.succ k) best
def bestN (a b x y n : Nat) : Nat → Nat
  | 0 => 0
  | k + 1 => if gN a b x y n (bestN a b x y n k) < gN a b x y n (k + 1) then k + 1 else bestN a b x y n k
theorem bestN_le (a b x y n k : Nat) : bestN a b x y n k ≤ k := by
  induction k with
  | zero => exact Nat.le_refl _
  | succ k ih => unfold bestN; split <;> omega
theorem shareScan_eq (a b x y n Q P : Nat) : ∀ f k, shareScan a b x y n Q P f k (bestN a b x y n k) = true →
    bestN a b x y n (k + f) * Q < n * P + Q ∧ n * P < bestN a b x y n (k + f) * Q + Q := by
  intro f
  induction f with
  | zero =>
    intro k h
    simp only [shareScan, Bool.and_eq_true] at h
    obtain ⟨h1, h2⟩ := h
    have h1' : bestN a b x y n k * Q < n * P + Q := by simpa [Nat.blt_eq] using h1
    have h2' : n * P < bestN a b x y n k * Q + Q := by simpa [Nat.blt_eq] using h2
    exact ⟨h1', h2'⟩
  | succ f ih =>
    intro k h
    have e : k + (f + 1) = k + 1 + f := by omega
    rw [e]
    refine ih (k + 1) ?_
    rw [shareScan] at h
    cases hb : Nat.blt (gN a b x y n (bestN a b x y n k)) (gN a b x y n (Nat.succ k)) with
    | true =>
      rw [hb] at h
      have : gN a b x y n (bestN a b x y n k) < gN a b x y n (k + 1) := by simpa [Nat.blt_eq] using hb
      rw [bestN, if_pos this]; exact h
    | false =>
      rw [hb] at h
      have : ¬ gN a b x y n (bestN a b x y n k) < gN a b x y n (k + 1) := by
        intro hc
        have : Nat.blt (gN a b x y n (bestN a b x y n k)) (gN a b x y n (Nat.succ k)) = true := by simpa [Nat.blt_eq] using hc
        rw [hb] at this; cases this
      rw [bestN, if_neg this]; exact h
def allTo (f : Nat → Bool) : Nat → Bool
  | 0 => true
  | n + 1 => f n && allTo f n
theorem allTo_at {f : Nat → Bool} {n : Nat} (h : allTo f n = true) {i : Nat} (hi : i < n) : f i = true := by
  induction n with
  | zero => omega
  | succ n ih =>
    rw [allTo, Bool.and_eq_true] at h
    by_cases e : i = n
    · subst e; exact h.1
    · exact ih h.2 (by omega)
def shareAll (a : Nat) : Bool := allTo (fun b => allTo (fun x => allTo (fun y => Nat.beq (Nat.add x y) 0 || allTo (fun n => shareScan (Nat.succ a) (Nat.succ b) x y (Nat.succ n) (Nat.mul (Nat.add x y) (Nat.succ a)) (Nat.sub (Nat.mul x (Nat.succ a)) (Nat.mul y (Nat.succ b))) (Nat.succ n) 0 0) 10) 5) 5) 9
theorem share_0 : shareAll 0 = true := by decide +kernel
theorem share_1 : shareAll 1 = true := by decide +kernel
theorem share_2 : shareAll 2 = true := by decide +kernel
theorem share_3 : shareAll 3 = true := by decide +kernel
theorem share_4 : shareAll 4 = true := by decide +kernel
theorem share_5 : shareAll 5 = true := by decide +kernel
theorem share_6 : shareAll 6 = true := by decide +kernel
theorem share_7 : shareAll 7 = true := by decide +kernel
theorem share_8 : shareAll 8 = true := by decide +kernel
theorem share_near {a b x y n : Nat} (ha : 1 ≤ a ∧ a ≤ 9) (hb : 1 ≤ b ∧ b ≤ 9) (hx : x ≤ 4) (hy : y ≤ 4) (hs : 0 < x + y) (hn : 1 ≤ n ∧ n ≤ 10) :
    bestN a b x y n n * ((x + y) * a) < n * (x * a - y * b) + (x + y) * a ∧ n * (x * a - y * b) < bestN a b x y n n * ((x + y) * a) + (x + y) * a := by
  obtain ⟨a, rfl⟩ : ∃ z, a = z + 1 := ⟨a - 1, by omega⟩
  obtain ⟨b, rfl⟩ : ∃ z, b = z + 1 := ⟨b - 1, by omega⟩
  obtain ⟨n, rfl⟩ : ∃ z, n = z + 1 := ⟨n - 1, by omega⟩
  have h : shareAll a = true := by
    rcases (show a = 0 ∨ a = 1 ∨ a = 2 ∨ a = 3 ∨ a = 4 ∨ a = 5 ∨ a = 6 ∨ a = 7 ∨ a = 8 by omega) with rfl | rfl | rfl | rfl | rfl | rfl | rfl | rfl | rfl
    · exact share_0
    · exact share_1
    · exact share_2
    · exact share_3
    · exact share_4
    · exact share_5
    · exact share_6
    · exact share_7
    · exact share_8
  have h1 := allTo_at (allTo_at (allTo_at h (i := b) (by omega)) (i := x) (by omega)) (i := y) (by omega)
  rw [Bool.or_eq_true] at h1
  have h2 := allTo_at (h1.resolve_left (by intro hc; have : x + y = 0 := Nat.eq_of_beq_eq_true hc; omega)) (i := n) (by omega)
  have h3 := shareScan_eq (a + 1) (b + 1) x y (n + 1) ((x + y) * (a + 1)) (x * (a + 1) - y * (b + 1)) (n + 1) 0 h2
  rw [Nat.zero_add] at h3
  exact h3

theorem bestTo_nat {a b x y n : Nat} (ha : a ≤ 9) (hb : b ≤ 9) (hx : x ≤ 4) (hy : y ≤ 4) (hn : n ≤ 10) (k : Nat) (hk : k ≤ n) : bestTo a b x y n k = bestN a b x y n k := by
  induction k with
  | zero => rfl
  | succ k ih =>
    have hle := bestN_le a b x y n k
    have e := ih (by omega)
    rw [bestTo, bestN, e, growW_nat ha hb hx hy hn (by omega), show ((k : Int) + 1) = ((k + 1 : Nat) : Int) by simp, growW_nat ha hb hx hy hn (by omega)]
    by_cases h : gN a b x y n (bestN a b x y n k) < gN a b x y n (k + 1)
    · rw [if_pos h, if_pos (by omega)]
    · rw [if_neg h, if_neg (by omega)]
theorem bestTo_most (a b x y n : Int) (K : Nat) : ∀ k, k ≤ K → growW a b x y n (k : Nat) ≤ growW a b x y n (bestTo a b x y n K : Nat) := by
  induction K with
  | zero =>
    intro k hk
    obtain rfl : k = 0 := by omega
    exact Int.le_refl _
  | succ K ih =>
    intro k hk
    unfold bestTo
    by_cases h : growW a b x y n (bestTo a b x y n K) < growW a b x y n ((K : Int) + 1)
    · rw [if_pos h]
      by_cases e : k = K + 1
      · subst e; exact Int.le_refl _
      · have := ih k (by omega)
        rw [show ((K + 1 : Nat) : Int) = (K : Int) + 1 by simp]; omega
    · rw [if_neg h]
      by_cases e : k = K + 1
      · subst e; rw [show ((K + 1 : Nat) : Int) = (K : Int) + 1 by simp]; omega
      · exact ih k (by omega)
theorem bestOk_iff {a b x y n : Int} : bestOk a b x y n = true ↔ betB a b x y = true ∧ 1 ≤ n ∧ n ≤ 10 := by rw [bestOk, Bool.and_eq_true, inB_iff]
theorem shareOk_iff {a b x y n k : Int} : shareOk a b x y n k = true ↔ betB a b x y = true ∧ (1 ≤ n ∧ n ≤ 10) ∧ 0 ≤ k ∧ k ≤ n := by rw [shareOk, Bool.and_eq_true, Bool.and_eq_true, inB_iff, inB_iff, and_assoc]
/-- A growth is at most that of the best share. -/
theorem grow_most {a b x y n k : Int} (h : shareOk a b x y n k = true) : bestOk a b x y n = true ∧ shareOk a b x y n (bestV a b x y n) = true ∧ growV a b x y n k ≤ growV a b x y n (bestV a b x y n) := by
  obtain ⟨h1, h2, h3⟩ := shareOk_iff.1 h
  have hb : bestOk a b x y n = true := bestOk_iff.2 ⟨h1, h2⟩
  obtain ⟨N, rfl⟩ := Int.eq_ofNat_of_zero_le (show 0 ≤ n by omega)
  obtain ⟨K, rfl⟩ := Int.eq_ofNat_of_zero_le (show 0 ≤ k by omega)
  have hle := bestTo_le a b x y N N
  have hs : shareOk a b x y N (bestV a b x y N) = true := by
    rw [bestV, hb]; exact shareOk_iff.2 ⟨h1, h2, by simp; omega⟩
  refine ⟨hb, hs, ?_⟩
  rw [growV, growV, h, hs]
  show growW a b x y N K ≤ growW a b x y N (bestV a b x y N)
  rw [bestV, hb]
  exact bestTo_most a b x y N N K (by omega)
theorem fairX_nat {a b x y : Nat} : fairX a b x y = ((x * a - y * b : Nat) : Int) := by
  unfold fairX
  rw [← Int.natCast_mul, ← Int.natCast_mul]; omega
/-- The best share is next to the fair one. -/
theorem best_near {a b x y n : Int} (h : bestOk a b x y n = true) : bestV a b x y n * fairB a b x y - n * fairA a b x y < fairB a b x y ∧ -(bestV a b x y n * fairB a b x y - n * fairA a b x y) < fairB a b x y := by
  obtain ⟨h1, h2, h3⟩ := bestOk_iff.1 h
  obtain ⟨⟨a1, a2⟩, ⟨b1, b2⟩, ⟨x1, x2⟩, ⟨y1, y2⟩, h5⟩ := betB_iff.1 h1
  obtain ⟨a, rfl⟩ := Int.eq_ofNat_of_zero_le (show 0 ≤ a by omega)
  obtain ⟨b, rfl⟩ := Int.eq_ofNat_of_zero_le (show 0 ≤ b by omega)
  obtain ⟨x, rfl⟩ := Int.eq_ofNat_of_zero_le x1
  obtain ⟨y, rfl⟩ := Int.eq_ofNat_of_zero_le y1
  obtain ⟨n, rfl⟩ := Int.eq_ofNat_of_zero_le (show 0 ≤ n by omega)
  have hp := bet_prods h1
  have hs := share_near (a := a) (b := b) (x := x) (y := y) (n := n) (by omega) (by omega) (by omega) (by omega) (by omega) (by omega)
  rw [bestV, h, fairA, fairB, h1]
  show (bestTo a b x y n ((n : Int).toNat) : Int) * lowQ (fairX a b x y) (((x : Int) + y) * a) - (n : Int) * lowP (fairX a b x y) (((x : Int) + y) * a) < lowQ (fairX a b x y) (((x : Int) + y) * a) ∧ -((bestTo a b x y n ((n : Int).toNat) : Int) * lowQ (fairX a b x y) (((x : Int) + y) * a) - (n : Int) * lowP (fairX a b x y) (((x : Int) + y) * a)) < lowQ (fairX a b x y) (((x : Int) + y) * a)
  rw [Int.toNat_natCast, bestTo_nat (by omega) (by omega) (by omega) (by omega) (by omega) n (Nat.le_refl _), fairX_nat, show ((x : Int) + y) * a = (((x + y) * a : Nat) : Int) by simp]
  generalize bestN a b x y n n = B at hs
  generalize x * a - y * b = P at hs
  have hQ : 0 < (x + y) * a := by
    have := hp.2.2.1
    rw [show ((x : Int) + y) * a = (((x + y) * a : Nat) : Int) by simp] at this; omega
  generalize (x + y) * a = Q at hs hQ
  have hg := gcd_pos (a := (P : Int)) (b := (Q : Int)) (by omega)
  have d1 : ((Int.gcd (P : Int) (Q : Int) : Nat) : Int) ∣ (P : Int) := Int.gcd_dvd_left _ _
  have d2 : ((Int.gcd (P : Int) (Q : Int) : Nat) : Int) ∣ (Q : Int) := Int.gcd_dvd_right _ _
  unfold lowP lowQ
  generalize ((Int.gcd (P : Int) (Q : Int) : Nat) : Int) = G at hg d1 d2
  obtain ⟨p, hp1⟩ := d1
  obtain ⟨q, hq1⟩ := d2
  rw [hp1, hq1, Int.mul_tdiv_cancel_left _ (by omega), Int.mul_tdiv_cancel_left _ (by omega)]
  have s1 : (B : Int) * Q < n * P + Q := by exact_mod_cast hs.1
  have s2 : (n : Int) * P < B * Q + Q := by exact_mod_cast hs.2
  rw [hp1, hq1] at s1 s2
  have e1 : (B : Int) * (G * q) = G * (B * q) := by rw [Int.mul_left_comm]
  have e2 : (n : Int) * (G * p) = G * (n * p) := by rw [Int.mul_left_comm]
  rw [e1, e2] at s1 s2
  have t1 : G * (B * q) < G * (n * p + q) := by rw [Int.mul_add]; exact s1
  have t2 : G * (n * p) < G * (B * q + q) := by rw [Int.mul_add]; exact s2
  have u1 := Int.lt_of_mul_lt_mul_left t1 (by omega)
  have u2 := Int.lt_of_mul_lt_mul_left t2 (by omega)
  omega
/-- The fair share is greater than 0 exactly for bets that win in the mean. -/
theorem fair_sign {a b x y : Int} (h : betB a b x y = true) : decide (0 < fairA a b x y) = decide (0 < fbV a b x y) := by
  have hp := bet_prods h
  have hg := gcd_pos (a := fairX a b x y) (b := (x + y) * a) hp.2.2.1
  have d1 : ((Int.gcd (fairX a b x y) ((x + y) * a) : Nat) : Int) ∣ fairX a b x y := Int.gcd_dvd_left _ _
  rw [fairA, fbV, h]
  show decide (0 < lowP (fairX a b x y) ((x + y) * a)) = decide (0 < cmpI (x * a) (y * b))
  unfold lowP
  generalize ((Int.gcd (fairX a b x y) ((x + y) * a) : Nat) : Int) = G at hg d1
  obtain ⟨p, hp1⟩ := d1
  rw [hp1, Int.mul_tdiv_cancel_left _ (by omega)]
  have hX : fairX a b x y = max 0 (x * a - y * b) := rfl
  rw [hX] at hp1
  unfold cmpI
  rw [Bool.eq_iff_iff, decide_eq_true_eq, decide_eq_true_eq]
  constructor
  · intro hpos
    have := Int.mul_pos (show 0 < G by omega) hpos
    rw [if_neg (by omega), if_pos (by omega)]; omega
  · intro hc
    have h0 : 0 < G * p := by
      split at hc
      · omega
      · split at hc <;> omega
    exact Int.lt_of_mul_lt_mul_left (a := G) (b := 0) (by rw [Int.mul_zero]; exact h0) (by omega)
end Go.Proofs.Ytfjonnpaoeillaa
