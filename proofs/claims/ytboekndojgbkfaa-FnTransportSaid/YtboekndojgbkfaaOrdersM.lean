import Derived.Test.YtboekndojgbkfaaFillN
import Derived.Test.YtboekndojgbkfaaPlan2
import Derived.Test.YtboekndojgbkfaaApart
/- Plain laws of plans, orders and distances of spreads. No program. -/
set_option linter.unusedVariables false
namespace Go.Proofs.Ytboekndojgbkfaa
open Go.ChangeShapes Go.WideShapes Go.ChangeAt Go.RowKit

/-- The sum of a function's values below n. -/
def sumF (f : Nat → Int) : Nat → Int
  | 0 => 0
  | n + 1 => sumF f n + f n
theorem sumF_congr {f g : Nat → Int} {n : Nat} (h : ∀ i, i < n → f i = g i) : sumF f n = sumF g n := by
  induction n with
  | zero => rfl
  | succ n ih => rw [sumF, sumF, ih (fun i hi => h i (by omega)), h n (by omega)]
theorem sumF_le {f g : Nat → Int} {n : Nat} (h : ∀ i, i < n → f i ≤ g i) : sumF f n ≤ sumF g n := by
  induction n with
  | zero => exact Int.le_refl _
  | succ n ih => have h1 := ih (fun i hi => h i (by omega)); have h2 := h n (by omega); rw [sumF, sumF]; omega
theorem sumF_add (f g : Nat → Int) (n : Nat) : sumF (fun i => f i + g i) n = sumF f n + sumF g n := by
  induction n with
  | zero => rfl
  | succ n ih => rw [sumF, sumF, sumF, ih]; omega
theorem sumF_mul (f : Nat → Int) (c : Int) (n : Nat) : sumF (fun i => f i * c) n = sumF f n * c := by
  induction n with
  | zero => simp [sumF]
  | succ n ih => rw [sumF, sumF, ih, Int.add_mul]
theorem sumF_cut {f : Nat → Int} {s n : Nat} (hs : s ≤ n) (h : ∀ i, s ≤ i → i < n → 0 ≤ f i) : sumF f s ≤ sumF f n := by
  induction n with
  | zero => obtain rfl : s = 0 := (by omega); exact Int.le_refl _
  | succ n ih =>
    by_cases e : s = n + 1
    · subst e; exact Int.le_refl _
    · have h1 := ih (by omega) (fun i a b => h i a (by omega))
      have h2 := h n (by omega) (by omega)
      rw [sumF]; omega
theorem sumF_cut0 {f : Nat → Int} {s n : Nat} (hs : s ≤ n) (h : ∀ i, s ≤ i → i < n → f i = 0) : sumF f n = sumF f s := by
  induction n with
  | zero => obtain rfl : s = 0 := (by omega); rfl
  | succ n ih =>
    by_cases e : s = n + 1
    · subst e; rfl
    · rw [sumF, ih (by omega) (fun i a b => h i a (by omega)), h n (by omega) (by omega)]; omega
theorem col_sumF (t : List (List Int)) (k n : Nat) : colTo t k n = sumF (fun i => cellT t i k) n := by
  induction n with
  | zero => rfl
  | succ n ih => rw [colTo, sumF, ih]
theorem nth_sumF (p : List Int) (n : Nat) : sumTo p n = sumF (nth p) n := by
  induction n with
  | zero => rfl
  | succ n ih => rw [sumTo, sumF, ih]

/-- A plan's facts. -/
structure PlanG (p q : List Int) (t : List (List Int)) : Prop where
  sp : spreadB p = true
  sq : spreadB q = true
  len : q.length = p.length
  sum : sumTo p p.length = sumTo q p.length
  tl : t.length = p.length
  row : ∀ i, i < p.length → sumTo (nthL t i) p.length = nth p i
  col : ∀ k, k < p.length → sumF (fun i => cellT t i k) p.length = nth q k
  rl : ∀ i, i < p.length → (nthL t i).length = p.length
  cell : ∀ i k, 0 ≤ cellT t i k ∧ cellT t i k ≤ 40
theorem PlanG.of {p q : List Int} {t : List (List Int)} (h : okB p q t = true) : PlanG p q t := by
  rw [okB, Bool.and_eq_true] at h
  obtain ⟨h1, h2⟩ := h
  obtain ⟨s1, s2, s3, s4⟩ := alikeB_iff.1 h1
  obtain ⟨p1, p2, p3⟩ := planB_iff.1 h2
  have e1 := spread_sumTo s1
  have e2 := spread_sumTo s2
  have l2 := (spreadB_iff.1 s1).1
  have hc := plan_cell h2
  refine ⟨s1, s2, s3.symm, by rw [← s3] at e2; omega, p1, fun i hi => ?_, fun k hk => ?_, fun i hi => ?_, hc⟩
  · obtain ⟨r1, r2, r3⟩ := rowOk_iff.1 (p2 i (by omega))
    rw [← r3, wsum_eq (M := 40) (by omega) r2 (by omega), r1, s3]
  · rw [← col_sumF, ← p3 k (by omega), p1]
  · have := (rowOk_iff.1 (p2 i (by omega))).1; omega
theorem alikeB_symm {p q : List Int} (h : alikeB p q = true) : alikeB q p = true := by
  obtain ⟨s1, s2, s3, s4⟩ := alikeB_iff.1 h
  exact alikeB_iff.2 ⟨s2, s1, s3.symm, s4.symm⟩

/-! Centred plans. -/
theorem belTo_rows {p q : List Int} {t : List (List Int)} (G : PlanG p q t) (s k : Nat) (hk : k ≤ p.length) : belTo q s k = sumF (fun i => belTo (nthL t i) s k) p.length := by
  induction k with
  | zero => 
    have : ∀ n, sumF (fun i => belTo (nthL t i) s 0) n = 0 := fun n => by
      induction n with
      | zero => rfl
      | succ n ih => rw [sumF, ih]; rfl
    rw [this]; rfl
  | succ k ih =>
    rw [belTo, ih (by omega), ← G.col k (by omega), ← sumF_mul, ← sumF_add]
    rfl
theorem momTo_rows {p q : List Int} {t : List (List Int)} (G : PlanG p q t) (k : Nat) (hk : k ≤ p.length) : momTo q k = sumF (fun i => momTo (nthL t i) k) p.length := by
  induction k with
  | zero => 
    have : ∀ n, sumF (fun i => momTo (nthL t i) 0) n = 0 := fun n => by
      induction n with
      | zero => rfl
      | succ n ih => rw [sumF, ih]; rfl
    rw [this]; rfl
  | succ k ih =>
    rw [momTo, ih (by omega), ← G.col k (by omega), ← sumF_mul, ← sumF_add]
    rfl
theorem belTo_nn {xs : List Int} (h : ∀ i, 0 ≤ nth xs i) (s k : Nat) (hk : k ≤ s) : 0 ≤ belTo xs s k := by
  induction k with
  | zero => exact Int.le_refl _
  | succ k ih =>
    have h1 := ih (by omega)
    have h2 := Int.mul_nonneg (h k) (show 0 ≤ (s : Int) - (k : Int) by omega)
    rw [belTo]; omega
theorem belTo_far {xs : List Int} (h : ∀ i, 0 ≤ nth xs i) (s k : Nat) (hk : s ≤ k) : belTo xs s k ≤ belTo xs s s := by
  induction k with
  | zero => obtain rfl : s = 0 := (by omega); exact Int.le_refl _
  | succ k ih =>
    by_cases e : s = k + 1
    · subst e; exact Int.le_refl _
    · have h1 := ih (by omega)
      have h2 := Int.mul_nonneg (h k) (show 0 ≤ (k : Int) - (s : Int) by omega)
      have h3 : nth xs k * ((s : Int) - (k : Int)) = -(nth xs k * ((k : Int) - (s : Int))) := by rw [← Int.mul_neg]; congr 1; omega
      rw [belTo, h3]; omega
theorem momTo_mulF (p : List Int) (k : Nat) : momTo p k = sumF (fun i => nth p i * (i : Int)) k := by
  induction k with
  | zero => rfl
  | succ k ih => rw [momTo, sumF, ih]
theorem belTo_mulF (p : List Int) (s k : Nat) : belTo p s k = sumF (fun i => nth p i * ((s : Int) - i)) k := by
  induction k with
  | zero => rfl
  | succ k ih => rw [belTo, sumF, ih]
/-- Where units move apart about their spots the second spread is wider. -/
theorem centred_wider {p q : List Int} {t : List (List Int)} (h : cenV p q t = true) : wideV q p = true := by
  rw [cenV, Bool.and_eq_true] at h
  have G := PlanG.of h.1
  have hal : alikeB p q = true := by have := h.1; rw [okB, Bool.and_eq_true] at this; exact this.1
  have hc : ∀ i, i < p.length → momTo (nthL t i) p.length = nth p i * i := fun i hi => by
    have h2 := h.2
    rw [cenB, List.all_eq_true] at h2
    have := h2 i (List.mem_range.2 (by rw [G.tl]; exact hi))
    rw [cenRow, beq_iff_eq, G.rl i hi] at this
    exact this
  have hrn : ∀ i k, 0 ≤ nth (nthL t i) k := fun i k => (G.cell i k).1
  rw [wideV, alikeB_symm hal, Bool.true_and, widerB, Bool.and_eq_true, momB, beq_iff_eq]
  constructor
  · rw [G.len, momTo_rows G _ (Nat.le_refl _), momTo_mulF p]
    exact sumF_congr hc
  · refine belB_iff.2 fun s hs => ?_
    rw [G.len] at hs
    rw [belTo_rows G s s (by omega), belTo_mulF]
    refine Int.le_trans ?_ (sumF_cut (show s ≤ p.length by omega) (fun i _ _ => belTo_nn (hrn i) s s (Nat.le_refl _)))
    refine sumF_le fun i hi => ?_
    have h1 := belTo_far (hrn i) s p.length (by omega)
    rw [belTo_eq, G.row i (by omega), hc i (by omega)] at h1
    have e : nth p i * ((s : Int) - (i : Int)) = (s : Int) * nth p i - nth p i * (i : Int) := by rw [Int.mul_sub, Int.mul_comm (nth p i)]
    rw [e]; exact h1
/-! Upward plans. -/
theorem sumTo_rows {p q : List Int} {t : List (List Int)} (G : PlanG p q t) (k : Nat) (hk : k ≤ p.length) : sumTo q k = sumF (fun i => sumTo (nthL t i) k) p.length := by
  induction k with
  | zero => 
    have : ∀ n, sumF (fun i => sumTo (nthL t i) 0) n = 0 := fun n => by
      induction n with
      | zero => rfl
      | succ n ih => rw [sumF, ih]; rfl
    rw [this]; rfl
  | succ k ih =>
    rw [sumTo, ih (by omega), ← G.col k (by omega), ← sumF_add]
    rfl
theorem upward_above {p q : List Int} {t : List (List Int)} (h : upV p q t = true) : aboV q p = true := by
  rw [upV, Bool.and_eq_true] at h
  have G := PlanG.of h.1
  have hal : alikeB p q = true := by have := h.1; rw [okB, Bool.and_eq_true] at this; exact this.1
  have hz : ∀ i k, k < i → i < p.length → cellT t i k = 0 := fun i k hk hi => by
    have h2 := h.2
    rw [upB, List.all_eq_true] at h2
    have h3 := h2 i (List.mem_range.2 (by rw [G.tl]; exact hi))
    rw [upRow, List.all_eq_true] at h3
    have h4 := of_decide_eq_true (h3 k (List.mem_range.2 hk))
    have := (G.cell i k).1
    omega
  rw [aboV, alikeB_symm hal, Bool.true_and]
  refine aboB_iff.2 fun s hs => ?_
  rw [G.len] at hs
  rw [sumTo_rows G _ (by omega), nth_sumF p]
  have e : sumF (fun i => sumTo (nthL t i) (s + 1)) p.length = sumF (fun i => sumTo (nthL t i) (s + 1)) (s + 1) := by
    refine sumF_cut0 (by omega) fun i h1 h2 => ?_
    have : ∀ k, k ≤ s + 1 → sumTo (nthL t i) k = 0 := fun k => by
      induction k with
      | zero => intro _; rfl
      | succ k ih =>
        intro hk
        have := hz i k (by omega) h2
        rw [cellT] at this
        rw [sumTo, ih (by omega), this]; rfl
    exact this _ (Nat.le_refl _)
  rw [e]
  refine sumF_le fun i hi => ?_
  rw [← G.row i (by omega)]
  exact sumTo_mono (fun k => (G.cell i k).1) (by omega)
theorem okB_sorted {p q : List Int} (h : alikeB p q = true) : okB p q (sortedM p q) = true := by rw [okB, h, (sorted_plan h).1]; rfl
theorem okB_keeping {p q : List Int} (h : alikeB p q = true) : okB p q (keepingM p q) = true := by rw [okB, h, (keeping_plan h).1]; rfl
/-- The sorted plan is upward exactly if the spread is above. -/
theorem sorted_up {p q : List Int} (h : alikeB p q = true) : upV q p (sortedV q p) = aboV p q := by
  have hq := alikeB_symm h
  have e : sortedV q p = sortedM q p := by rw [sortedV, hq]; rfl
  rw [e, Bool.eq_iff_iff]
  constructor
  · exact upward_above
  · intro ha
    rw [aboV, Bool.and_eq_true] at ha
    have G := PlanG.of (okB_sorted hq)
    rw [upV, okB_sorted hq, Bool.true_and, upB, List.all_eq_true]
    intro i hi
    rw [List.mem_range, G.tl] at hi
    rw [upRow, List.all_eq_true]
    intro k hk
    rw [List.mem_range] at hk
    rw [decide_eq_true_eq, (sorted_plan hq).2 ha.2 i k hk hi]
    exact Int.le_refl _

/-! Units that move apart. -/
theorem momTo_put (xs : List Int) (i : Nat) (v : Int) (hi : i < xs.length) (k : Nat) : momTo (xs.set i v) k = momTo xs k + (if i < k then (v - nth xs i) * i else 0) := by
  induction k with
  | zero => simp [momTo]
  | succ k ih =>
    rw [momTo, momTo, ih]
    by_cases e : i = k
    · subst e; rw [nth_set_same hi, if_neg (by omega), if_pos (by omega), Int.sub_mul]; omega
    · rw [nth_set_ne e]
      by_cases h : i < k
      · rw [if_pos h, if_pos (by omega)]; omega
      · rw [if_neg h, if_neg (by omega)]; omega
theorem apart_nth {p : List Int} {s : Nat} (h1 : 1 ≤ s) (h2 : s + 1 < p.length) (j : Nat) : nth (apartL p s) j = nth p j + (if j = s - 1 then 1 else if j = s then -2 else if j = s + 1 then 1 else 0) := by
  unfold apartL
  by_cases e1 : j = s + 1
  · subst e1; rw [nth_set_same (by simp; omega), if_neg (by omega), if_neg (by omega), if_pos rfl]
  · rw [nth_set_ne (by omega)]
    by_cases e2 : j = s
    · subst e2; rw [nth_set_same (by simp; omega), if_neg (by omega), if_pos rfl]; omega
    · rw [nth_set_ne (by omega)]
      by_cases e3 : j = s - 1
      · subst e3; rw [nth_set_same (by omega), if_pos rfl]
      · rw [nth_set_ne (by omega), if_neg e3, if_neg e2, if_neg e1]; omega
theorem apart_sums {p : List Int} {s : Nat} (h1 : 1 ≤ s) (h2 : s + 1 < p.length) (k : Nat) :
    sumTo (apartL p s) k = sumTo p k + (if k = s then 1 else if k = s + 1 then -1 else 0) ∧ momTo (apartL p s) k = momTo p k + (if k = s then (s : Int) - 1 else if k = s + 1 then -(s : Int) - 1 else 0) := by
  induction k with
  | zero => rw [if_neg (by omega), if_neg (by omega), if_neg (by omega), if_neg (by omega)]; exact ⟨rfl, rfl⟩
  | succ k ih =>
    obtain ⟨i1, i2⟩ := ih
    rw [sumTo, sumTo, momTo, momTo, i1, i2, apart_nth h1 h2]
    by_cases a1 : k = s - 1
    · subst a1
      rw [if_neg (show ¬ s - 1 = s by omega), if_neg (show ¬ s - 1 = s + 1 by omega), if_pos rfl, if_pos (show s - 1 + 1 = s by omega), if_neg (show ¬ s - 1 = s by omega), if_neg (show ¬ s - 1 = s + 1 by omega), if_pos (show s - 1 + 1 = s by omega), Int.add_mul]
      omega
    · by_cases a2 : k = s
      · subst a2
        rw [if_pos rfl, if_neg a1, if_pos rfl, if_neg (show ¬ k + 1 = k by omega), if_pos rfl, if_pos rfl, if_neg (show ¬ k + 1 = k by omega), if_pos rfl, Int.add_mul]
        omega
      · by_cases a3 : k = s + 1
        · subst a3
          rw [if_neg a2, if_pos rfl, if_neg a1, if_neg a2, if_pos rfl, if_neg (show ¬ s + 1 + 1 = s by omega), if_neg (show ¬ s + 1 + 1 = s + 1 by omega), if_neg a2, if_pos rfl, if_neg (show ¬ s + 1 + 1 = s by omega), if_neg (show ¬ s + 1 + 1 = s + 1 by omega), Int.add_mul]
          omega
        · rw [if_neg a2, if_neg a3, if_neg a1, if_neg a2, if_neg a3, if_neg (show ¬ k + 1 = s by omega), if_neg (show ¬ k + 1 = s + 1 by omega), if_neg a2, if_neg a3, if_neg (show ¬ k + 1 = s by omega), if_neg (show ¬ k + 1 = s + 1 by omega), Int.add_mul]
          omega
theorem apartB_iff {p : List Int} {s : Int} : apartB p s = true ↔ spreadB p = true ∧ (1 ≤ s ∧ s ≤ (p.length : Int) - 2) ∧ 2 ≤ nth p s.toNat := by simp [apartB, inB_iff, and_assoc]
theorem spread_of {p : List Int} (h1 : 1 ≤ p.length ∧ p.length ≤ 8) (h2 : ∀ i, 0 ≤ nth p i) (h3 : 1 ≤ sumTo p p.length ∧ sumTo p p.length ≤ 40) : spreadB p = true ∧ wsum p = sumTo p p.length := by
  have hb : ∀ x ∈ p, 0 ≤ x ∧ x ≤ 40 := fun x hx => by
    obtain ⟨k, hk, rfl⟩ := List.getElem_of_mem hx
    rw [← nth_eq hk]
    have := nth_le_sumTo h2 hk
    exact ⟨h2 k, by omega⟩
  have e := wsum_eq (M := 40) (by omega) hb (by omega)
  exact ⟨spreadB_iff.2 ⟨h1, hb, by omega, by omega⟩, e⟩
theorem apart_spread {p : List Int} {s : Int} (h : apartB p s = true) : alikeB (apartL p s.toNat) p = true := by
  obtain ⟨h1, h2, h3⟩ := apartB_iff.1 h
  obtain ⟨s, rfl⟩ := Int.eq_ofNat_of_zero_le (show 0 ≤ s by omega)
  rw [Int.toNat_natCast] at h3 ⊢
  obtain ⟨a1, a2⟩ := apart_sums (p := p) (s := s) (by omega) (by omega) p.length
  have b1 := (spreadB_iff.1 h1)
  have b2 := spread_sumTo h1
  rw [if_neg (by omega), if_neg (by omega)] at a1
  obtain ⟨c1, c2⟩ := spread_of (p := apartL p s) (by rw [apartL_len]; exact b1.1) (fun i => by
    have := (spread_nth h1 i).1
    rw [apart_nth (by omega) (by omega)]
    by_cases e : i = s
    · subst e; rw [if_neg (by omega), if_pos rfl]; omega
    · rw [if_neg e]
      split
      · omega
      · split <;> omega) (by rw [apartL_len]; omega)
  rw [apartL_len] at c2
  exact alikeB_iff.2 ⟨c1, h1, apartL_len _ _, by omega⟩
theorem apart_wider {p : List Int} {s : Int} (h : apartB p s = true) : wideV (apartV p s) p = true := by
  have hal := apart_spread h
  have e : apartV p s = apartL p s.toNat := by rw [apartV, h]; rfl
  obtain ⟨h1, h2, h3⟩ := apartB_iff.1 h
  obtain ⟨s, rfl⟩ := Int.eq_ofNat_of_zero_le (show 0 ≤ s by omega)
  rw [e, wideV, hal, Bool.true_and, widerB, Bool.and_eq_true, momB, beq_iff_eq, apartL_len, Int.toNat_natCast]
  constructor
  · rw [(apart_sums (by omega) (by omega) _).2, if_neg (by omega), if_neg (by omega)]; omega
  · refine belB_iff.2 fun k hk => ?_
    obtain ⟨a1, a2⟩ := apart_sums (p := p) (s := s) (by omega) (by omega) k
    rw [belTo_eq, belTo_eq, a1, a2, Int.mul_add]
    by_cases e1 : k = s
    · subst e1; rw [if_pos rfl, if_pos rfl]; omega
    · by_cases e2 : k = s + 1
      · subst e2; rw [if_neg e1, if_pos rfl, if_neg e1, if_pos rfl]; omega
      · rw [if_neg e1, if_neg e2, if_neg e1, if_neg e2]; omega
/-! Rising and concave lists. -/
def risT (p q : List Int) : Nat → Int
  | 0 => 0
  | k + 1 => risT p q k + (nth p k - nth q k) * ((k : Int) * k + 3 * k)
def conT (p q : List Int) : Nat → Int
  | 0 => 0
  | k + 1 => conT p q k + (nth p k - nth q k) * ((k : Int) * (20 - k))
theorem risT_dot (p q : List Int) (k : Nat) : risT p q k = dotN (nth p) (fun k => (k : Int) * k + 3 * k) k - dotN (nth q) (fun k => (k : Int) * k + 3 * k) k := by
  induction k with
  | zero => rfl
  | succ k ih => rw [risT, dotN, dotN, ih, Int.sub_mul]; omega
theorem conT_dot (p q : List Int) (k : Nat) : conT p q k = dotN (nth p) (fun k => (k : Int) * (20 - k)) k - dotN (nth q) (fun k => (k : Int) * (20 - k)) k := by
  induction k with
  | zero => rfl
  | succ k ih => rw [conT, dotN, dotN, ih, Int.sub_mul]; omega
theorem sums_eq {p q : List Int} (h : alikeB p q = true) : p.length = q.length ∧ sumTo p p.length = sumTo q p.length := by
  obtain ⟨s1, s2, s3, s4⟩ := alikeB_iff.1 h
  have e1 := spread_sumTo s1
  have e2 := spread_sumTo s2
  rw [← s3] at e2
  exact ⟨s3, by omega⟩
theorem ris_above {p q : List Int} (h : aboV p q = true) : 0 ≤ risT p q p.length := by
  rw [aboV, Bool.and_eq_true] at h
  obtain ⟨h3, h4⟩ := sums_eq h.1
  rw [risT_dot]
  have := dot_above (a := nth p) (b := nth q) (u := fun k => (k : Int) * k + 3 * k) (n := p.length) (fun i _ => by dsimp only; rw [Int.natCast_add]; grind) (fun s hs => by
    rw [dot_sum, dot_sum]
    cases s with
    | zero => exact Int.le_refl _
    | succ s => exact aboB_iff.1 h.2 s (by omega)) (by rw [dot_sum, dot_sum, h4])
  omega
theorem con_wider {p q : List Int} (h : wideV p q = true) : conT p q p.length ≤ 0 := by
  rw [wideV, Bool.and_eq_true] at h
  obtain ⟨h3, h4⟩ := sums_eq h.1
  have h2 := h.2
  rw [widerB, Bool.and_eq_true, momB, beq_iff_eq] at h2
  rw [conT_dot]
  have := dot_wider (a := nth p) (b := nth q) (u := fun k => (k : Int) * (20 - k)) (n := p.length) (fun i _ => by dsimp only; rw [Int.natCast_add, Int.natCast_add]; grind) (fun s hs => by
    rw [bel_eq, bel_eq]; exact belB_iff.1 h2.2 s hs) (by rw [dot_sum, dot_sum, h4]) (by rw [dot_mom, dot_mom, h2.1, h3])
  omega
/-! Distances. -/
def distTo (p q : List Int) : Nat → Int
  | 0 => 0
  | k + 1 => distTo p q k + max (nth p k - nth q k) 0
def earTo (p q : List Int) : Nat → Int
  | 0 => 0
  | k + 1 => earTo p q k + max (sumTo p (k + 1) - sumTo q (k + 1)) (sumTo q (k + 1) - sumTo p (k + 1))
def distV (p q : List Int) : Int := bif alikeB p q then distTo p q p.length else 0
def earV (p q : List Int) : Int := bif alikeB p q then earTo p q p.length else 0
theorem dist_ear (p q : List Int) (k : Nat) : distTo p q k + max 0 (sumTo q k - sumTo p k) ≤ earTo p q k := by
  induction k with
  | zero => simp [distTo, earTo, sumTo]
  | succ k ih => rw [distTo, earTo]; rw [sumTo, sumTo]; omega
theorem dist_back (p q : List Int) (k : Nat) : distTo p q k - distTo q p k = sumTo p k - sumTo q k := by
  induction k with
  | zero => rfl
  | succ k ih => rw [distTo, distTo, sumTo, sumTo]; omega
theorem dist_bd {p q : List Int} (hp : ∀ i, 0 ≤ nth p i ∧ nth p i ≤ 40) (hq : ∀ i, 0 ≤ nth q i ∧ nth q i ≤ 40) (k : Nat) : 0 ≤ distTo p q k ∧ distTo p q k ≤ 40 * k := by
  induction k with
  | zero => simp [distTo]
  | succ k ih => have := hp k; have := hq k; rw [distTo]; omega
theorem dist_laws {p q : List Int} (h : alikeB p q = true) : distV q p = distV p q ∧ distV p q ≤ earV p q ∧ keptV p q (keepingV p q) = wsum p - distV p q := by
  have hq := alikeB_symm h
  obtain ⟨h3, h4⟩ := sums_eq h
  obtain ⟨s1, _⟩ := alikeB_iff.1 h
  have e1 := spread_sumTo s1
  have ek : keepingV p q = keepingM p q := by rw [keepingV, h]; rfl
  rw [distV, distV, earV, h, hq, keptV, ek, okB_keeping h]
  show distTo q p q.length = distTo p q p.length ∧ distTo p q p.length ≤ earTo p q p.length ∧ diagTo (keepingM p q) (keepingM p q).length = wsum p - distTo p q p.length
  have b := dist_back p q p.length
  have c := dist_ear p q p.length
  refine ⟨by rw [← h3]; omega, by omega, ?_⟩
  have G := PlanG.of (okB_keeping h)
  rw [G.tl]
  have : ∀ k, k ≤ p.length → diagTo (keepingM p q) k = sumTo p k - distTo p q k := fun k => by
    induction k with
    | zero => intro _; rfl
    | succ k ih => intro hk; rw [diagTo, ih (by omega), (keeping_plan h).2 k (by omega), sumTo, distTo]; omega
  rw [this _ (Nat.le_refl _)]; omega
/-- No plan keeps more than the spreads have in common. -/
theorem kept_most {p q : List Int} {t : List (List Int)} (h : okB p q t = true) : keptV p q t ≤ wsum p - distV p q := by
  have G := PlanG.of h
  have hal : alikeB p q = true := by rw [okB, Bool.and_eq_true] at h; exact h.1
  have e1 := spread_sumTo G.sp
  rw [keptV, h, distV, hal]
  show diagTo t t.length ≤ wsum p - distTo p q p.length
  rw [G.tl]
  have : ∀ k, k ≤ p.length → diagTo t k ≤ sumTo p k - distTo p q k := fun k => by
    induction k with
    | zero => intro _; exact Int.le_refl _
    | succ k ih =>
      intro hk
      have h1 := ih (by omega)
      have h2 : cellT t k k ≤ nth p k := by rw [← G.row k (by omega)]; exact nth_le_sumTo (xs := nthL t k) (fun j => (G.cell k j).1) (by omega)
      have h3 : cellT t k k ≤ nth q k := by
        rw [← G.col k (by omega)]
        have h5 := sumF_cut (f := fun i => cellT t i k) (s := k + 1) (n := p.length) (by omega) (fun i _ _ => (G.cell i k).1)
        have h6 := sumF_cut (f := fun i => cellT t i k) (s := 0) (n := k) (by omega) (fun i _ _ => (G.cell i k).1)
        simp only [sumF] at h5 h6
        omega
      rw [diagTo, sumTo, distTo]; omega
  have := this _ (Nat.le_refl _)
  omega
def mixL (p q : List Int) : List Int := (List.range p.length).map fun i => nth p i + nth q i
def mixB (p q : List Int) : Bool := alikeB p q && spreadB (mixL p q)
def mixV (p q : List Int) : List Int := bif mixB p q then mixL p q else []
theorem mixL_len (p q : List Int) : (mixL p q).length = p.length := by simp [mixL]
theorem mixL_nth {p q : List Int} {i : Nat} (h : i < p.length) : nth (mixL p q) i = nth p i + nth q i := by simp [nth, mixL, h]
theorem mix_sum {p q : List Int} (h : mixB p q = true) : wsum (mixV p q) = 2 * wsum p := by
  have e : mixV p q = mixL p q := by rw [mixV, h]; rfl
  rw [mixB, Bool.and_eq_true] at h
  obtain ⟨h3, h4⟩ := sums_eq h.1
  obtain ⟨s1, _⟩ := alikeB_iff.1 h.1
  have e1 := spread_sumTo s1
  have e2 := spread_sumTo h.2
  rw [mixL_len] at e2
  have : ∀ k, k ≤ p.length → sumTo (mixL p q) k = sumTo p k + sumTo q k := fun k => by
    induction k with
    | zero => intro _; rfl
    | succ k ih => intro hk; rw [sumTo, sumTo, sumTo, ih (by omega), mixL_nth (by omega)]; omega
  have := this _ (Nat.le_refl _)
  rw [e]; omega
end Go.Proofs.Ytboekndojgbkfaa
