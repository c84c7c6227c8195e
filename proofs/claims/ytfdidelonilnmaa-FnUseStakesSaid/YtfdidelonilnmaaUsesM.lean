import Derived.Test.YtfdidelonilnmaaOrdM
import Derived.Test.YtfdidelonilnmaaMean
import Derived.Test.YtfdidelonilnmaaLoss
import Derived.Test.YtfdidelonilnmaaPlan11
import Derived.Test.YtfdidelonilnmaaPurse
import Derived.Test.YtfdidelonilnmaaAbove
/- Plain laws of uses and of stakes with uses. No program. -/
set_option linter.unusedVariables false
namespace Go.Proofs.Ytfdidelonilnmaa
open Go.ChangeShapes Go.WideShapes Go.ChangeAt Go.RowKit

theorem dot_mu (p u : List Int) (k : Nat) : dotN (nth p) (nth u) k = muTo p u k := by
  induction k with
  | zero => rfl
  | succ k ih => rw [dotN, muTo, ih]
theorem ris_of {xs : List Int} (h : risB xs = true) : Ris xs.length (nth xs) := by
  have h := of_decide_eq_true h
  intro i hi
  have := h (i + 1) hi (by omega)
  simpa using this
theorem con_of {xs : List Int} (h : conB xs = true) : Con xs.length (nth xs) := by
  have h := of_decide_eq_true h
  intro i hi
  have := h (i + 2) hi (by omega)
  simpa using this
theorem momTo_nn {p : List Int} (h : ∀ i, 0 ≤ nth p i) (k : Nat) : 0 ≤ momTo p k := by
  induction k with
  | zero => exact Int.le_refl _
  | succ k ih => have := Int.mul_nonneg (h k) (show (0 : Int) ≤ (k : Int) by omega); rw [momTo]; omega
theorem leastI_first {P : Nat → Bool} {n : Nat} (h : ∃ i, i < n ∧ P i = true ∧ ∀ j, j < i → P j = false) : leastI P n < n ∧ P (leastI P n) = true ∧ ∀ j, j < leastI P n → P j = false := by
  obtain ⟨i, h1, h2, h3⟩ := h
  rw [leastI_eq h1 h2 h3]; exact ⟨h1, h2, h3⟩
/-- What is known of the least number of coins that are as good as a spread. -/
theorem sure_laws {p u : List Int} (h : bothB p u = true) : sureI p u < u.length ∧ muTo p u p.length ≤ nth u (sureI p u) * wsum p ∧ (∀ k, k < sureI p u → nth u k * wsum p < muTo p u p.length) ∧
    (risB u = true → conB u = true → (sureI p u : Int) * wsum p < momTo p p.length + wsum p) := by
  obtain ⟨hp, hu, hl⟩ := bothB_iff.1 h
  obtain ⟨h1, h2, h3⟩ := leastI_first (sure_ex h)
  have hlt : ∀ k, k < sureI p u → nth u k * wsum p < muTo p u p.length := fun k hk => by
    have := h3 k hk
    rw [sureOk, decide_eq_false_iff_not] at this
    omega
  refine ⟨h1, of_decide_eq_true h2, hlt, fun hr hc => ?_⟩
  have hS := (spreadB_iffM.1 hp).2.2.2.1
  have hsum := spread_sum hp
  have hm := momTo_nn (fun i => (spreadB_nth hp i).1) p.length
  by_cases h0 : sureI p u = 0
  · rw [h0]; simp; omega
  · obtain ⟨j, hj⟩ : ∃ j, sureI p u = j + 1 := ⟨sureI p u - 1, by omega⟩
    rw [hj]
    have hjl : j < u.length := by change sureI p u < u.length at h1; omega
    have h4 := hlt j (by omega)
    obtain ⟨d, hd, hline⟩ := (con_of hc).line hjl
    have h5 := dot_line (p := nth p) (u := nth u) (A := nth u j) (d := d) (j := j) u.length (fun i => (spreadB_nth hp i).1) hline u.length (Nat.le_refl _)
    rw [dot_mu, dot_sum, dot_mom, ← hl, ← hsum] at h5
    rw [Int.natCast_add, Int.add_mul]
    by_cases hge : (j : Int) * wsum p < momTo p p.length
    · simp; omega
    · exfalso
      have h6 : d * (momTo p p.length - (j : Int) * wsum p) ≤ 0 := by
        by_cases j0 : j = 0
        · subst j0
          have : momTo p p.length - ((0 : Nat) : Int) * wsum p = 0 := by simp at hge ⊢; omega
          rw [this]; simp
        · exact Int.mul_nonpos_of_nonneg_of_nonpos (hd (ris_of hr) (by omega)) (by omega)
      omega
theorem use_take {u : List Int} (h : useB u = true) {n : Nat} (h1 : 1 ≤ n) (h2 : n ≤ u.length) : useB (u.take n) = true := by
  obtain ⟨a, b, c⟩ := useB_iff.1 h
  refine useB_iff.2 ⟨by simp; omega, by simp; omega, fun x hx => c x (List.mem_of_mem_take hx)⟩
theorem alike_sums {p q : List Int} (h : alikeB p q = true) : spreadB p = true ∧ spreadB q = true ∧ p.length = q.length ∧ sumTo p p.length = sumTo q p.length := by
  obtain ⟨h1, h2, h3, h4⟩ := alikeB_iff.1 h
  refine ⟨h1, h2, h3, ?_⟩
  rw [← spread_sum h1, h4, spread_sum h2, h3]
theorem both_of {p u : List Int} (hp : spreadB p = true) (hu : useB u = true) (hl : p.length = u.length) : bothB p u = true := bothB_iff.2 ⟨hp, hu, hl⟩
/-- Rising uses: the spread above has the greater mean use. -/
theorem mean_above {p q u : List Int} (h : aboV p q = true) (hu : useB u = true) (hl : p.length = u.length) (hr : risB u = true) : meanV q u ≤ meanV p u := by
  rw [aboV, Bool.and_eq_true] at h
  obtain ⟨s1, s2, s3, s4⟩ := alike_sums h.1
  rw [meanV, meanV, both_of s1 hu hl, both_of s2 hu (by omega)]
  show muTo q u q.length ≤ muTo p u p.length
  rw [← dot_mu, ← dot_mu, ← s3]
  refine dot_above (n := p.length) (by rw [hl]; exact ris_of hr) (fun s hs => ?_) (by rw [dot_sum, dot_sum, s4])
  rw [dot_sum, dot_sum]
  cases s with
  | zero => exact Int.le_refl _
  | succ s => exact aboB_iff.1 h.2 s (by omega)
/-- Concave uses: the wider spread has the lesser mean use. -/
theorem mean_wider {p q u : List Int} (h : wideV p q = true) (hu : useB u = true) (hl : p.length = u.length) (hc : conB u = true) : meanV p u ≤ meanV q u := by
  rw [wideV, Bool.and_eq_true] at h
  obtain ⟨s1, s2, s3, s4⟩ := alike_sums h.1
  have h2 := h.2
  rw [widerB, Bool.and_eq_true, momB, beq_iff_eq] at h2
  rw [meanV, meanV, both_of s1 hu hl, both_of s2 hu (by omega)]
  show muTo p u p.length ≤ muTo q u q.length
  rw [← dot_mu, ← dot_mu, ← s3]
  refine dot_wider (n := p.length) (by rw [hl]; exact con_of hc) (fun s hs => ?_) (by rw [dot_sum, dot_sum, s4]) (by rw [dot_mom, dot_mom, h2.1, s3])
  rw [bel_eq, bel_eq]
  exact belB_iff.1 h2.2 s hs

/-! Stakes. -/
theorem bMax_ge (x y : Int) (l : List Int) (c : Nat) (k : Nat) : ∀ s, s < k → stk x y l c s ≤ bMax x y l c k := by
  induction k with
  | zero => intro s hs; omega
  | succ k ih =>
    intro s hs
    rw [bMax]
    by_cases e : s = k
    · subst e; omega
    · have := ih s (by omega); omega
theorem bArg_most (x y : Int) (l : List Int) (c : Nat) (k : Nat) : ∀ s, s < k → stk x y l c s ≤ stk x y l c (bArg x y l c k) := by
  induction k with
  | zero => intro s hs; omega
  | succ k ih =>
    intro s hs
    rw [bArg]
    by_cases h : stk x y l c (bArg x y l c k) < stk x y l c k
    · rw [if_pos h]
      by_cases e : s = k
      · subst e; omega
      · have := ih s (by omega); omega
    · rw [if_neg h]
      by_cases e : s = k
      · subst e; omega
      · exact ih s (by omega)
theorem bArg_first (x y : Int) (l : List Int) (c : Nat) (k : Nat) : ∀ s, s < bArg x y l c k → stk x y l c s < stk x y l c (bArg x y l c k) := by
  induction k with
  | zero => intro s hs; rw [bArg] at hs; omega
  | succ k ih =>
    intro s
    rw [bArg]
    by_cases h : stk x y l c (bArg x y l c k) < stk x y l c k
    · rw [if_pos h]
      intro hs
      have := bArg_most x y l c k s hs
      omega
    · rw [if_neg h]
      exact ih s
theorem lossB_iff {u : List Int} {x y r c s : Int} : lossB u x y r c s = true ↔ coinsB u x y r c = true ∧ 0 ≤ s ∧ s ≤ (mS u.length c.toNat : Nat) := by rw [lossB, Bool.and_eq_true, inB_iff]
theorem worth_at {u : List Int} {x y r c : Int} (h : coinsB u x y r c = true) : nth (worthsTo u x y r.toNat) c.toNat = bMax x y (worthsTo u x y (r.toNat - 1)) c.toNat (mS u.length c.toNat + 1) := by
  obtain ⟨hu, hL, hr, hc⟩ := coinsB_iff.1 h
  obtain ⟨k, hk⟩ : ∃ k, r.toNat = k + 1 := ⟨r.toNat - 1, by omega⟩
  rw [hk, worthsTo, rowW_nth _ _ _ _ _ (by omega)]
  rfl
/-- No stake loses less than nothing. -/
theorem loss_nn (u : List Int) (x y r c s : Int) : 0 ≤ lossV u x y r c s := by
  unfold lossV
  cases h : lossB u x y r c s with
  | false => exact Int.le_refl _
  | true =>
    obtain ⟨h1, h2, h3⟩ := lossB_iff.1 h
    have := bMax_ge x y (worthsTo u x y (r.toNat - 1)) c.toNat (mS u.length c.toNat + 1) s.toNat (by omega)
    show 0 ≤ nth (worthsTo u x y r.toNat) c.toNat - stk x y (worthsTo u x y (r.toNat - 1)) c.toNat s.toNat
    rw [worth_at h1]
    omega
theorem luck_bd {x y : Int} (h : luckB x y = true) : (0 ≤ x ∧ x ≤ 4) ∧ (0 ≤ y ∧ y ≤ 4) ∧ 0 < x + y := luckB_iff.1 h
/-- The best stake loses nothing, and a lesser one loses something. -/
theorem loss_best {u : List Int} {x y r c : Int} (h : coinsB u x y r c = true) : lossB u x y r c (stakeV u x y r c) = true ∧ lossV u x y r c (stakeV u x y r c) = 0 ∧ ∀ s, lossB u x y r c s = true → s < stakeV u x y r c → lossV u x y r c s ≠ 0 := by
  obtain ⟨hu, hL, hr, hc⟩ := coinsB_iff.1 h
  obtain ⟨b1, b2, b3⟩ := luck_bd hL
  have hM := worths_bd hu b1 b2 (r.toNat - 1)
  have harg := bMax_arg b1 b2 hM c.toNat (mS u.length c.toNat)
  have hle := bArg_le x y (worthsTo u x y (r.toNat - 1)) c.toNat (mS u.length c.toNat + 1)
  have hsv : stakeV u x y r c = (bArg x y (worthsTo u x y (r.toNat - 1)) c.toNat (mS u.length c.toNat + 1) : Nat) := by rw [stakeV, h]; rfl
  have h1 : lossB u x y r c (stakeV u x y r c) = true := lossB_iff.2 ⟨h, by rw [hsv]; omega, by rw [hsv]; omega⟩
  refine ⟨h1, ?_, fun s hs hlt => ?_⟩
  · rw [lossV, h1]
    show nth (worthsTo u x y r.toNat) c.toNat - stk x y (worthsTo u x y (r.toNat - 1)) c.toNat (stakeV u x y r c).toNat = 0
    rw [worth_at h, harg, hsv, Int.toNat_natCast]; omega
  · rw [lossV, hs]
    show nth (worthsTo u x y r.toNat) c.toNat - stk x y (worthsTo u x y (r.toNat - 1)) c.toNat s.toNat ≠ 0
    rw [hsv] at hlt
    have h0 := (lossB_iff.1 hs).2.1
    have := bArg_first x y (worthsTo u x y (r.toNat - 1)) c.toNat (mS u.length c.toNat + 1) s.toNat (by omega)
    rw [worth_at h, harg]; omega
/-- A round more: at least as much as the weights tell. -/
theorem worth_grow {u : List Int} {x y : Int} (r c : Nat) (hc : c < u.length) : (x + y) * nth (worthsTo u x y r) c ≤ nth (worthsTo u x y (r + 1)) c := by
  rw [worthsTo, rowW_nth _ _ _ _ _ hc]
  have := bMax_ge x y (worthsTo u x y r) c (mS u.length c + 1) 0 (by omega)
  rw [stk, Nat.add_zero, Nat.sub_zero] at this
  rw [Int.add_mul]; exact this
theorem flat_step {x y : Int} {n : Nat} {l : List Int} (hx : 0 ≤ x) (hxy : x ≤ y) (hr : Ris n (nth l)) (hc : Con n (nth l)) {c s : Nat} (hcn : c < n) (hs : s ≤ mS n c) : stk x y l c s ≤ stk x y l c 0 := by
  unfold mS at hs
  cases s with
  | zero => exact Int.le_refl _
  | succ s =>
    obtain ⟨j, rfl⟩ : ∃ j, c = j + 1 := ⟨c - 1, by omega⟩
    have h1 := hc.up j (s + 1) (by omega)
    have h2 := hc.down j hcn (s + 1) (by omega)
    have h3 := hr.mono (i := j + 1 - (s + 1)) (j := j + 1) (by omega) hcn
    have h4 : nth l (j + 1 + (s + 1)) - nth l (j + 1) ≤ nth l (j + 1) - nth l (j + 1 - (s + 1)) := by omega
    have h5 := Int.mul_le_mul_of_nonneg_left h4 hx
    have h6 := Int.mul_le_mul_of_nonneg_right hxy (show 0 ≤ nth l (j + 1) - nth l (j + 1 - (s + 1)) by omega)
    have e1 : stk x y l (j + 1) (s + 1) = x * nth l (j + 1 + (s + 1)) + y * nth l (j + 1 - (s + 1)) := rfl
    have e2 : stk x y l (j + 1) 0 = x * nth l (j + 1) + y * nth l (j + 1) := rfl
    rw [Int.mul_sub, Int.mul_sub] at h5
    rw [Int.mul_sub, Int.mul_sub] at h6
    rw [e1, e2]
    omega
theorem flat_arg {x y : Int} {n : Nat} {l : List Int} (hx : 0 ≤ x) (hxy : x ≤ y) (hr : Ris n (nth l)) (hc : Con n (nth l)) {c : Nat} (hcn : c < n) : ∀ k, k ≤ mS n c + 1 → bArg x y l c k = 0 := by
  intro k
  induction k with
  | zero => intro _; rfl
  | succ k ih =>
    intro hk
    rw [bArg, ih (by omega), if_neg (by have := flat_step hx hxy hr hc hcn (s := k) (by omega); omega)]
theorem stk_zero (x y : Int) (l : List Int) (c : Nat) : stk x y l c 0 = (x + y) * nth l c := by rw [stk, Nat.add_zero, Nat.sub_zero, Int.add_mul]
theorem flat_row {x y : Int} {l : List Int} {u : List Int} (hx : 0 ≤ x ∧ x ≤ 4) (hy : 0 ≤ y ∧ y ≤ 4) (hxy : x ≤ y) {M : Int} (hM : ∀ i, 0 ≤ nth l i ∧ nth l i ≤ M) {n : Nat} (hr : Ris n (nth l)) (hc : Con n (nth l)) {c : Nat} (hcn : c < n) :
    nth (rowW x y l n) c = (x + y) * nth l c := by
  rw [rowW_nth _ _ _ _ _ hcn, bMax_arg hx hy hM, flat_arg hx.1 hxy hr hc hcn _ (Nat.le_refl _), stk_zero]
/-- Rising and concave uses without an advantage: nothing is staked. -/
theorem flat_worths {u : List Int} {x y : Int} (hu : useB u = true) (hL : luckB x y = true) (hxy : x ≤ y) (hr : risB u = true) (hc : conB u = true) (r : Nat) :
    Ris u.length (nth (worthsTo u x y r)) ∧ Con u.length (nth (worthsTo u x y r)) := by
  obtain ⟨b1, b2, b3⟩ := luck_bd hL
  induction r with
  | zero => exact ⟨ris_of hr, con_of hc⟩
  | succ r ih =>
    obtain ⟨h1, h2⟩ := ih
    have hM := worths_bd hu b1 b2 r
    have hrow : ∀ c, c < u.length → nth (worthsTo u x y (r + 1)) c = (x + y) * nth (worthsTo u x y r) c := fun c hcn => flat_row (u := u) b1 b2 hxy hM h1 h2 hcn
    refine ⟨fun i hi => ?_, fun i hi => ?_⟩
    · rw [hrow _ (by omega), hrow _ hi]
      exact Int.mul_le_mul_of_nonneg_left (h1 i hi) (by omega)
    · rw [hrow _ hi, hrow _ (by omega), hrow _ (by omega)]
      have := Int.mul_le_mul_of_nonneg_left (h2 i hi) (show 0 ≤ x + y by omega)
      rw [Int.mul_sub, Int.mul_sub] at this
      exact this
theorem flat_plan {u : List Int} {x y : Int} (hu : useB u = true) (hL : luckB x y = true) (hxy : x ≤ y) (hr : risB u = true) (hc : conB u = true) (r c : Nat) (hcn : c < u.length) :
    nth (planRow u x y r) c = 0 ∧ nth (worthsTo u x y (r + 1)) c = (x + y) * nth (worthsTo u x y r) c := by
  obtain ⟨b1, b2, b3⟩ := luck_bd hL
  obtain ⟨h1, h2⟩ := flat_worths hu hL hxy hr hc r
  refine ⟨?_, flat_row (u := u) b1 b2 hxy (worths_bd hu b1 b2 r) h1 h2 hcn⟩
  rw [planRow_nth _ _ _ _ _ hcn, flat_arg b1.1 hxy h1 h2 hcn _ (Nat.le_refl _)]; rfl

/-! The spread of a purse: its sum and its moment. -/
theorem sumTo_rep (n k : Nat) : sumTo (List.replicate n (0 : Int)) k = 0 := by
  induction k with
  | zero => rfl
  | succ k ih =>
    rw [sumTo, ih]
    by_cases h : k < n
    · rw [nth_eq (by simpa using h)]; simp
    · rw [nth_out (by simp; omega)]; rfl
theorem momTo_rep (n k : Nat) : momTo (List.replicate n (0 : Int)) k = 0 := by
  induction k with
  | zero => rfl
  | succ k ih =>
    rw [momTo, ih]
    by_cases h : k < n
    · rw [nth_eq (by simpa using h)]; simp
    · rw [nth_out (by simp; omega)]; simp
theorem nth_put_same {xs : List Int} {i : Nat} (h : i < xs.length) (x : Int) : nth (xs.set i x) i = x := by simp [nth, h]
theorem nth_put_ne {xs : List Int} {i j : Nat} (h : i ≠ j) (x : Int) : nth (xs.set i x) j = nth xs j := by simp [nth, h]
theorem sumTo_set (xs : List Int) (i : Nat) (v : Int) (hi : i < xs.length) (k : Nat) : sumTo (xs.set i v) k = sumTo xs k + (if i < k then v - nth xs i else 0) := by
  induction k with
  | zero => simp [sumTo]
  | succ k ih =>
    rw [sumTo, sumTo, ih]
    by_cases e : i = k
    · subst e; rw [nth_put_same hi, if_neg (by omega), if_pos (by omega)]; omega
    · rw [nth_put_ne e]
      by_cases h : i < k
      · rw [if_pos h, if_pos (by omega)]; omega
      · rw [if_neg h, if_neg (by omega)]; omega
theorem momTo_set (xs : List Int) (i : Nat) (v : Int) (hi : i < xs.length) (k : Nat) : momTo (xs.set i v) k = momTo xs k + (if i < k then (v - nth xs i) * i else 0) := by
  induction k with
  | zero => simp [momTo]
  | succ k ih =>
    rw [momTo, momTo, ih]
    by_cases e : i = k
    · subst e; rw [nth_put_same hi, if_neg (by omega), if_pos (by omega), Int.sub_mul]; omega
    · rw [nth_put_ne e]
      by_cases h : i < k
      · rw [if_pos h, if_pos (by omega)]; omega
      · rw [if_neg h, if_neg (by omega)]; omega
theorem sumTo_nn {xs : List Int} (h : ∀ i, 0 ≤ nth xs i) (k : Nat) : 0 ≤ sumTo xs k := by
  induction k with
  | zero => exact Int.le_refl _
  | succ k ih => have := h k; rw [sumTo]; omega
theorem sumTo_le {xs : List Int} (h : ∀ i, 0 ≤ nth xs i) {j k : Nat} (hjk : j ≤ k) : sumTo xs j ≤ sumTo xs k := by
  induction k with
  | zero => obtain rfl : j = 0 := (by omega); exact Int.le_refl _
  | succ k ih =>
    by_cases e : j = k + 1
    · subst e; exact Int.le_refl _
    · have := ih (by omega); have := h k; rw [sumTo]; omega
theorem nth_le_sum {xs : List Int} (h : ∀ i, 0 ≤ nth xs i) {i k : Nat} (hi : i < k) : nth xs i ≤ sumTo xs k := by
  have h1 := sumTo_le h (show i + 1 ≤ k by omega)
  have h2 := sumTo_nn h i
  rw [sumTo] at h1; omega
theorem nn_set {xs : List Int} (h : ∀ i, 0 ≤ nth xs i) {j : Nat} {v : Int} (hv : 0 ≤ v) : ∀ i, 0 ≤ nth (xs.set j v) i := by
  intro i
  by_cases e : j = i
  · subst e
    by_cases hj : j < xs.length
    · rw [nth_put_same hj]; exact hv
    · rw [nth_out (by simp; omega)]; exact Int.le_refl _
  · rw [nth_put_ne e]; exact h i
/-- One round of a purse: the sum and the moment behind the first k purses. -/
theorem step_laws {x y : Int} {most top : Nat} {L : List Int} (hx : 0 ≤ x ∧ x ≤ 4) (hy : 0 ≤ y ∧ y ≤ 4) (hL : ∀ i, 0 ≤ nth L i) (hS : sumTo L (top + 1) ≤ 1000000) : ∀ k, k ≤ top + 1 →
    (∀ i, 0 ≤ nth (stepP x y most top L k) i) ∧ sumTo (stepP x y most top L k) (top + 1) = (x + y) * sumTo L k ∧
    momTo (stepP x y most top L k) (top + 1) = (x + y) * momTo L k + (x - y) * dotN (nth L) (fun i => (purseS most top i : Int)) k := by
  intro k
  induction k with
  | zero =>
    intro _
    refine ⟨fun i => ?_, ?_, ?_⟩
    · rw [stepP]
      by_cases h : i < top + 1
      · rw [nth_eq (by simpa using h)]; simp
      · rw [nth_out (by simp; omega)]; exact Int.le_refl _
    · rw [stepP, sumTo_rep]; simp [sumTo]
    · rw [stepP, momTo_rep]; simp [momTo, dotN]
  | succ k ih =>
    intro hk
    obtain ⟨h1, h2, h3⟩ := ih (by omega)
    have hl := stepP_len x y most top L k
    have hs := purseS_le most top k
    have a1 := hL k
    have a2 := nth_le_sum hL (show k < top + 1 by omega)
    have a3 := sumTo_le hL (show k ≤ top + 1 by omega)
    have a4 := sumTo_nn hL k
    have m1 := mul_bd hx (show 0 ≤ nth L k ∧ nth L k ≤ 1000000 by omega)
    have m2 := mul_bd hy (show 0 ≤ nth L k ∧ nth L k ≤ 1000000 by omega)
    have m3 := mul_bd (show 0 ≤ x + y ∧ x + y ≤ 8 by omega) (show 0 ≤ sumTo L k ∧ sumTo L k ≤ 1000000 by omega)
    rw [stepP]
    generalize stepP x y most top L k = N at *
    obtain ⟨s, hsd⟩ : ∃ s, s = purseS most top k := ⟨_, rfl⟩
    rw [← hsd] at hs ⊢
    have b1 := nth_le_sum h1 (show k + s < top + 1 by omega)
    have b0 := h1 (k + s)
    have w1 : wrap64 (nth N (k + s) + wrap64 (x * nth L k)) = nth N (k + s) + x * nth L k := by unfold wrap64; omega
    have h4 : ∀ i, 0 ≤ nth (N.set (k + s) (nth N (k + s) + x * nth L k)) i := nn_set h1 (by omega)
    have h5 : sumTo (N.set (k + s) (nth N (k + s) + x * nth L k)) (top + 1) = (x + y) * sumTo L k + x * nth L k := by
      rw [sumTo_set _ _ _ (by omega), h2, if_pos (by omega)]; omega
    have h6 : momTo (N.set (k + s) (nth N (k + s) + x * nth L k)) (top + 1) = momTo N (top + 1) + x * nth L k * ((k + s : Nat) : Int) := by
      rw [momTo_set _ _ _ (by omega), if_pos (by omega), show nth N (k + s) + x * nth L k - nth N (k + s) = x * nth L k by omega]
    have hl2 : (N.set (k + s) (nth N (k + s) + x * nth L k)).length = top + 1 := by rw [List.length_set, hl]
    try dsimp only
    rw [w1]
    generalize N.set (k + s) (nth N (k + s) + x * nth L k) = N1 at h4 h5 h6 hl2 ⊢
    have b2 := nth_le_sum h4 (show k - s < top + 1 by omega)
    have b3 := h4 (k - s)
    have w2 : wrap64 (nth N1 (k - s) + wrap64 (y * nth L k)) = nth N1 (k - s) + y * nth L k := by unfold wrap64; omega
    rw [w2]
    refine ⟨nn_set h4 (by omega), ?_, ?_⟩
    · rw [sumTo_set _ _ _ (by omega), h5, if_pos (by omega), sumTo, Int.mul_add, Int.add_mul x y (nth L k)]; omega
    · rw [momTo_set _ _ _ (by omega), if_pos (by omega), h6, h3, show nth N1 (k - s) + y * nth L k - nth N1 (k - s) = y * nth L k by omega, momTo, dotN]
      try dsimp only
      rw [← hsd]
      rw [show ((k - s : Nat) : Int) = (k : Int) - (s : Int) by omega, show ((k + s : Nat) : Int) = (k : Int) + (s : Int) by omega]
      grind
theorem dot_nn {p q : Nat → Int} (hp : ∀ i, 0 ≤ p i) (hq : ∀ i, 0 ≤ q i) (k : Nat) : 0 ≤ dotN p q k := by
  induction k with
  | zero => exact Int.le_refl _
  | succ k ih => have := Int.mul_nonneg (hp k) (hq k); rw [dotN]; omega
theorem pow_bd {z : Int} (h0 : 0 < z) (h8 : z ≤ 8) (r : Nat) (hr : r ≤ 5) : 0 < z ^ r ∧ z ^ r ≤ 32768 := by
  have key : ∀ r : Nat, 0 < z ^ r ∧ z ^ r ≤ 8 ^ r := by
    intro r
    induction r with
    | zero => simp
    | succ r ih =>
      rw [Int.pow_succ, Int.pow_succ]
      exact ⟨Int.mul_pos ih.1 h0, Int.mul_le_mul ih.2 h8 (by omega) (by have := ih.1; have := ih.2; omega)⟩
  have h1 := key r
  have h2 : (8 : Int) ^ r ≤ 32768 := by
    rcases (show r = 0 ∨ r = 1 ∨ r = 2 ∨ r = 3 ∨ r = 4 ∨ r = 5 by omega) with rfl | rfl | rfl | rfl | rfl | rfl <;> decide
  omega
/-- The spread of a purse: its sum is a power of the weights' sum, its moment goes where the weights tell. -/
theorem purse_laws {x y : Int} {M T C : Nat} (hL : luckB x y = true) (hC : C ≤ T) (r : Nat) (hr : r ≤ 5) :
    (∀ i, 0 ≤ nth (purseTo x y M T C r) i) ∧ sumTo (purseTo x y M T C r) (T + 1) = (x + y) ^ r ∧
    (x = y → momTo (purseTo x y M T C r) (T + 1) = C * (x + y) ^ r) ∧ (y < x → C * (x + y) ^ r ≤ momTo (purseTo x y M T C r) (T + 1)) ∧ (x < y → momTo (purseTo x y M T C r) (T + 1) ≤ C * (x + y) ^ r) := by
  obtain ⟨b1, b2, b3⟩ := luck_bd hL
  induction r with
  | zero =>
    have hl : (List.replicate (T + 1) (0 : Int)).length = T + 1 := by simp
    have hz : nth (List.replicate (T + 1) (0 : Int)) C = 0 := by rw [nth_eq (by omega)]; simp
    have e1 : sumTo (purseTo x y M T C 0) (T + 1) = 1 := by rw [purseTo, sumTo_set _ _ _ (by omega), sumTo_rep, if_pos (by omega), hz]; rfl
    have e2 : momTo (purseTo x y M T C 0) (T + 1) = C := by rw [purseTo, momTo_set _ _ _ (by omega), momTo_rep, if_pos (by omega), hz]; simp
    refine ⟨nn_set (fun i => ?_) (by omega), by rw [e1]; simp, ?_⟩
    · by_cases h : i < T + 1
      · rw [nth_eq (by simpa using h)]; simp
      · rw [nth_out (by simp; omega)]; exact Int.le_refl _
    · rw [e2, Int.pow_zero, Int.mul_one]
      exact ⟨fun _ => rfl, fun _ => Int.le_refl _, fun _ => Int.le_refl _⟩
  | succ r ih =>
    obtain ⟨h1, h2, h3, h4, h5⟩ := ih (by omega)
    have hp := pow_bd b3 (by omega) r (by omega)
    obtain ⟨s1, s2, s3⟩ := step_laws (most := M) b1 b2 h1 (by omega) (T + 1) (Nat.le_refl _)
    have hd := dot_nn h1 (q := fun i => (purseS M T i : Int)) (fun i => by omega) (T + 1)
    have e1 : purseTo x y M T C (r + 1) = stepP x y M T (purseTo x y M T C r) (T + 1) := rfl
    rw [e1]
    generalize stepP x y M T (purseTo x y M T C r) (T + 1) = N at *
    generalize dotN (nth (purseTo x y M T C r)) (fun i => (purseS M T i : Int)) (T + 1) = D at *
    refine ⟨s1, by rw [s2, h2, Int.pow_succ, Int.mul_comm], fun e => ?_, fun e => ?_, fun e => ?_⟩
    · rw [s3, h3 e, e, Int.sub_self, Int.zero_mul, Int.pow_succ]; grind
    · have g1 := Int.mul_le_mul_of_nonneg_left (h4 e) (show 0 ≤ x + y by omega)
      have g2 := Int.mul_nonneg (show 0 ≤ x - y by omega) hd
      have g3 : C * (x + y) ^ (r + 1) = (x + y) * (C * (x + y) ^ r) := by rw [Int.pow_succ]; grind
      rw [s3, g3]; omega
    · have g1 := Int.mul_le_mul_of_nonneg_left (h5 e) (show 0 ≤ x + y by omega)
      have g2 := Int.mul_nonneg (show 0 ≤ y - x by omega) hd
      have g3 : C * (x + y) ^ (r + 1) = (x + y) * (C * (x + y) ^ r) := by rw [Int.pow_succ]; grind
      have g4 : (x - y) * D = -((y - x) * D) := by grind
      rw [s3, g3, g4]; omega
end Go.Proofs.Ytfdidelonilnmaa
