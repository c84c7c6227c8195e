import Derived.Test.YtboekndojgbkfaaSpread
import Derived.Test.YtboekndojgbkfaaTabLaw
/- Plans of two spreads, as lists: what they are, and what the functions of chapter 10 make of them. No program. -/
set_option linter.unusedVariables false
namespace Go.Proofs.Ytboekndojgbkfaa
open Go.ChangeShapes Go.WideShapes Go.ChangeAt Go.RowKit

theorem spreadB_iff {xs : List Int} : spreadB xs = true ↔ (1 ≤ xs.length ∧ xs.length ≤ 8) ∧ (∀ x ∈ xs, 0 ≤ x ∧ x ≤ 40) ∧ 1 ≤ wsum xs ∧ wsum xs ≤ 40 := by
  simp only [spreadB, Bool.and_eq_true, inB_iff, allB_iff]
  exact ⟨fun ⟨⟨h1, h2⟩, h3⟩ => ⟨⟨by omega, by omega⟩, h2, h3⟩, fun ⟨h1, h2, h3⟩ => ⟨⟨⟨by omega, by omega⟩, h2⟩, h3⟩⟩
theorem alikeB_iff {xs ys : List Int} : alikeB xs ys = true ↔ spreadB xs = true ∧ spreadB ys = true ∧ xs.length = ys.length ∧ wsum xs = wsum ys := by
  simp only [alikeB, Bool.and_eq_true, beq_iff_eq]
  exact ⟨fun ⟨⟨⟨h1, h2⟩, h3⟩, h4⟩ => ⟨h1, h2, h3, h4⟩, fun ⟨h1, h2, h3, h4⟩ => ⟨⟨⟨h1, h2⟩, h3⟩, h4⟩⟩
theorem nth_bd {xs : List Int} {lo hi : Int} (h : ∀ x ∈ xs, lo ≤ x ∧ x ≤ hi) (h0 : lo ≤ 0) (h1 : 0 ≤ hi) (i : Nat) : lo ≤ nth xs i ∧ nth xs i ≤ hi := by
  by_cases hi : i < xs.length
  · exact h _ (nth_mem hi)
  · rw [nth_out (by omega)]; omega
theorem spread_nth {xs : List Int} (h : spreadB xs = true) (i : Nat) : 0 ≤ nth xs i ∧ nth xs i ≤ 40 := nth_bd (spreadB_iff.1 h).2.1 (by omega) (by omega) i

/-- A number of a table. -/
def cellT (t : List (List Int)) (i k : Nat) : Int := nth (nthL t i) k
theorem nthL_out {t : List (List Int)} {i : Nat} (h : t.length ≤ i) : nthL t i = [] := by simp [nthL, h]

/-- The sum of the first j numbers of column k. -/
def colTo (t : List (List Int)) (k : Nat) : Nat → Int
  | 0 => 0
  | j + 1 => colTo t k j + cellT t j k

def rowOk (p q : List Int) (t : List (List Int)) (i : Nat) : Bool := ((nthL t i).length == q.length) && allB (nthL t i) 0 40 && (wsum (nthL t i) == nth p i)
def planB (p q : List Int) (t : List (List Int)) : Bool :=
  (t.length == p.length) && (List.range t.length).all (rowOk p q t) && (List.range q.length).all (fun k => colTo t k t.length == nth q k)

theorem rowOk_iff {p q : List Int} {t : List (List Int)} {i : Nat} : rowOk p q t i = true ↔ (nthL t i).length = q.length ∧ (∀ x ∈ nthL t i, 0 ≤ x ∧ x ≤ 40) ∧ wsum (nthL t i) = nth p i := by
  simp only [rowOk, Bool.and_eq_true, beq_iff_eq, allB_iff]
  exact ⟨fun ⟨⟨h1, h2⟩, h3⟩ => ⟨h1, h2, h3⟩, fun ⟨h1, h2, h3⟩ => ⟨⟨h1, h2⟩, h3⟩⟩
theorem planB_iff {p q : List Int} {t : List (List Int)} : planB p q t = true ↔ t.length = p.length ∧ (∀ i, i < t.length → rowOk p q t i = true) ∧ ∀ k, k < q.length → colTo t k t.length = nth q k := by
  simp only [planB, Bool.and_eq_true, beq_iff_eq, List.all_eq_true, List.mem_range]
  exact ⟨fun ⟨⟨h1, h2⟩, h3⟩ => ⟨h1, h2, h3⟩, fun ⟨h1, h2, h3⟩ => ⟨⟨h1, h2⟩, h3⟩⟩
theorem planB_noRow {p q : List Int} {t : List (List Int)} {i : Nat} (hi : i < t.length) (h : rowOk p q t i = false) : planB p q t = false := by
  rw [Bool.eq_false_iff]; intro hp
  rw [(planB_iff.1 hp).2.1 i hi] at h; cases h
theorem planB_noCol {p q : List Int} {t : List (List Int)} {k : Nat} (hk : k < q.length) (h : colTo t k t.length ≠ nth q k) : planB p q t = false := by
  rw [Bool.eq_false_iff]; intro hp
  exact h ((planB_iff.1 hp).2.2 k hk)
theorem planB_noLen {p q : List Int} {t : List (List Int)} (h : t.length ≠ p.length) : planB p q t = false := by
  rw [Bool.eq_false_iff]; intro hp
  exact h (planB_iff.1 hp).1

/-- The numbers of a table whose first j rows are good. -/
theorem rows_cell {p q : List Int} {t : List (List Int)} {j : Nat} (h : ∀ i, i < j → rowOk p q t i = true) (i k : Nat) (hi : i < j) : 0 ≤ cellT t i k ∧ cellT t i k ≤ 40 :=
  nth_bd (rowOk_iff.1 (h i hi)).2.1 (by omega) (by omega) k
theorem colTo_bd {t : List (List Int)} {k j : Nat} {M : Int} (hM : 0 ≤ M) (h : ∀ i, i < j → 0 ≤ cellT t i k ∧ cellT t i k ≤ M) (i : Nat) (hi : i ≤ j) : 0 ≤ colTo t k i ∧ colTo t k i ≤ M * i := by
  induction i with
  | zero => simp [colTo]
  | succ i ih =>
    have h1 := h i (by omega)
    have h2 := ih (by omega)
    have : M * ((i + 1 : Nat) : Int) = M * i + M := by rw [Int.natCast_add, Int.mul_add]; simp
    simp only [colTo]; omega

/-- The sums of the columns, the first k ones of j + 1 rows, the others of j rows. -/
def colsAt (t : List (List Int)) (m j k : Nat) : List Int := (List.range m).map fun i => if i < k then colTo t i (j + 1) else colTo t i j
theorem colsAt_len (t : List (List Int)) (m j k : Nat) : (colsAt t m j k).length = m := by simp [colsAt]
theorem colsAt_nth (t : List (List Int)) (m j k i : Nat) (h : i < m) : nth (colsAt t m j k) i = if i < k then colTo t i (j + 1) else colTo t i j := by simp [nth, colsAt, h]
theorem colsAt_zero (t : List (List Int)) (m : Nat) : colsAt t m 0 0 = List.replicate m 0 := by
  apply List.ext_getElem (by simp [colsAt]); intro i h1 h2; simp [colsAt, colTo]
theorem colsAt_end (t : List (List Int)) (m j : Nat) : colsAt t m j m = colsAt t m (j + 1) 0 := by
  apply List.ext_getElem (by simp [colsAt]); intro i h1 h2
  have : i < m := by simpa [colsAt] using h1
  simp [colsAt, this]
theorem colsAt_step (t : List (List Int)) (m j k : Nat) (hk : k < m) : (colsAt t m j k).set k (colTo t k j + cellT t j k) = colsAt t m j (k + 1) := by
  apply List.ext_getElem (by simp [colsAt])
  intro i h1 h2
  simp only [colsAt, List.getElem_set, List.getElem_map, List.getElem_range]
  by_cases e : k = i
  · subst e; simp [colTo]
  · rw [if_neg e]
    by_cases h : i < k
    · rw [if_pos h, if_pos (by omega)]
    · rw [if_neg h, if_neg (by omega)]

/-- The sum of the products of numbers and places below k. -/
def momTo (xs : List Int) : Nat → Int
  | 0 => 0
  | k + 1 => momTo xs k + nth xs k * k
/-- The sum of the numbers below k times their distances from s. -/
def belTo (xs : List Int) (s : Nat) : Nat → Int
  | 0 => 0
  | k + 1 => belTo xs s k + nth xs k * (s - k)
theorem mul_bd {x y M N : Int} (hx : 0 ≤ x ∧ x ≤ M) (hy : 0 ≤ y ∧ y ≤ N) : 0 ≤ x * y ∧ x * y ≤ M * N :=
  ⟨Int.mul_nonneg hx.1 hy.1, Int.le_trans (Int.mul_le_mul_of_nonneg_right hx.2 hy.1) (Int.mul_le_mul_of_nonneg_left hy.2 (by omega))⟩
theorem momTo_bd {xs : List Int} {M : Int} (hM : 0 ≤ M) (h : ∀ i, 0 ≤ nth xs i ∧ nth xs i ≤ M) (k : Nat) (hk : k ≤ 8) : 0 ≤ momTo xs k ∧ momTo xs k ≤ M * 8 * k := by
  induction k with
  | zero => simp [momTo]
  | succ k ih =>
    have h1 := ih (by omega)
    have h2 := mul_bd (h k) (show (0 : Int) ≤ (k : Int) ∧ (k : Int) ≤ 8 by omega)
    have : M * 8 * ((k + 1 : Nat) : Int) = M * 8 * k + M * 8 := by rw [Int.natCast_add, Int.mul_add]; simp
    simp only [momTo]; omega
theorem belTo_bd {xs : List Int} {M : Int} (hM : 0 ≤ M) (h : ∀ i, 0 ≤ nth xs i ∧ nth xs i ≤ M) (s k : Nat) (hk : k ≤ s) (hs : s ≤ 8) : 0 ≤ belTo xs s k ∧ belTo xs s k ≤ M * 8 * k := by
  induction k with
  | zero => simp [belTo]
  | succ k ih =>
    have h1 := ih (by omega)
    have h2 := mul_bd (h k) (show (0 : Int) ≤ (s : Int) - (k : Int) ∧ (s : Int) - (k : Int) ≤ 8 by omega)
    have : M * 8 * ((k + 1 : Nat) : Int) = M * 8 * k + M * 8 := by rw [Int.natCast_add, Int.mul_add]; simp
    simp only [belTo]; omega

def momB (p q : List Int) : Bool := momTo p p.length == momTo q q.length
def belB (p q : List Int) : Bool := (List.range p.length).all fun s => decide (belTo q s s ≤ belTo p s s)
def widerB (p q : List Int) : Bool := momB p q && belB p q
theorem belB_iff {p q : List Int} : belB p q = true ↔ ∀ s, s < p.length → belTo q s s ≤ belTo p s s := by simp [belB]
theorem belB_no {p q : List Int} {s : Nat} (hs : s < p.length) (h : belTo p s s < belTo q s s) : belB p q = false := by
  rw [Bool.eq_false_iff]; intro hp; have := belB_iff.1 hp s hs; omega

/-- What stands on the diagonal. -/
def diagTo (t : List (List Int)) : Nat → Int
  | 0 => 0
  | i + 1 => diagTo t i + cellT t i i
theorem diagTo_bd {t : List (List Int)} {n : Nat} (h : ∀ i k, i < n → 0 ≤ cellT t i k ∧ cellT t i k ≤ 40) (i : Nat) (hi : i ≤ n) : 0 ≤ diagTo t i ∧ diagTo t i ≤ 40 * i := by
  induction i with
  | zero => simp [diagTo]
  | succ i ih =>
    have h1 := h i i (by omega)
    have h2 := ih (by omega)
    simp only [diagTo]; omega

/-- Nothing stands below the diagonal in row i, before k. -/
def upRow (t : List (List Int)) (i : Nat) : Bool := (List.range i).all fun k => decide (cellT t i k ≤ 0)
def upB (t : List (List Int)) : Bool := (List.range t.length).all (upRow t)
theorem upRow_iff {t : List (List Int)} {i : Nat} : upRow t i = true ↔ ∀ k, k < i → cellT t i k ≤ 0 := by simp [upRow]
theorem upB_iff {t : List (List Int)} : upB t = true ↔ ∀ i, i < t.length → upRow t i = true := by simp [upB]
theorem upB_no {t : List (List Int)} {i : Nat} (hi : i < t.length) (h : upRow t i = false) : upB t = false := by
  rw [Bool.eq_false_iff]; intro hp; rw [upB_iff.1 hp i hi] at h; cases h
theorem upRow_no {t : List (List Int)} {i k : Nat} (hk : k < i) (h : 0 < cellT t i k) : upRow t i = false := by
  rw [Bool.eq_false_iff]; intro hp; have := upRow_iff.1 hp k hk; omega

def cenRow (p : List Int) (t : List (List Int)) (i : Nat) : Bool := momTo (nthL t i) (nthL t i).length == nth p i * i
def cenB (p : List Int) (t : List (List Int)) : Bool := (List.range t.length).all (cenRow p t)
theorem cenB_iff {p : List Int} {t : List (List Int)} : cenB p t = true ↔ ∀ i, i < t.length → cenRow p t i = true := by simp [cenB]
theorem cenB_no {p : List Int} {t : List (List Int)} {i : Nat} (hi : i < t.length) (h : cenRow p t i = false) : cenB p t = false := by
  rw [Bool.eq_false_iff]; intro hp; rw [cenB_iff.1 hp i hi] at h; cases h

/-- A cost table of two spreads. -/
def costRow (m : Nat) (c : List (List Int)) (i : Nat) : Bool := ((nthL c i).length == m) && allB (nthL c i) 0 99
def costsB (p q : List Int) (c : List (List Int)) : Bool := (c.length == p.length) && (List.range c.length).all (costRow q.length c)
theorem costRow_iff {m : Nat} {c : List (List Int)} {i : Nat} : costRow m c i = true ↔ (nthL c i).length = m ∧ ∀ x ∈ nthL c i, 0 ≤ x ∧ x ≤ 99 := by
  simp only [costRow, Bool.and_eq_true, beq_iff_eq, allB_iff]
theorem costsB_iff {p q : List Int} {c : List (List Int)} : costsB p q c = true ↔ c.length = p.length ∧ ∀ i, i < c.length → costRow q.length c i = true := by
  simp only [costsB, Bool.and_eq_true, beq_iff_eq, List.all_eq_true, List.mem_range]
theorem costsB_noRow {p q : List Int} {c : List (List Int)} {i : Nat} (hi : i < c.length) (h : costRow q.length c i = false) : costsB p q c = false := by
  rw [Bool.eq_false_iff]; intro hp; rw [(costsB_iff.1 hp).2 i hi] at h; cases h
theorem costsB_noLen {p q : List Int} {c : List (List Int)} (h : c.length ≠ p.length) : costsB p q c = false := by
  rw [Bool.eq_false_iff]; intro hp; exact h (costsB_iff.1 hp).1
theorem costs_cell {p q : List Int} {c : List (List Int)} (h : costsB p q c = true) (i k : Nat) : 0 ≤ cellT c i k ∧ cellT c i k ≤ 99 := by
  by_cases hi : i < c.length
  · exact nth_bd (costRow_iff.1 ((costsB_iff.1 h).2 i hi)).2 (by omega) (by omega) k
  · rw [cellT, nthL_out (by omega)]; simp [nth]

/-- The cost of the first k numbers of row i, and of the first i rows. -/
def costIn (t c : List (List Int)) (i : Nat) : Nat → Int
  | 0 => 0
  | k + 1 => costIn t c i k + cellT t i k * cellT c i k
def costTo (t c : List (List Int)) (m : Nat) : Nat → Int
  | 0 => 0
  | i + 1 => costTo t c m i + costIn t c i m
theorem costIn_bd {t c : List (List Int)} {i : Nat} (ht : ∀ k, 0 ≤ cellT t i k ∧ cellT t i k ≤ 40) (hc : ∀ k, 0 ≤ cellT c i k ∧ cellT c i k ≤ 99) (k : Nat) : 0 ≤ costIn t c i k ∧ costIn t c i k ≤ 3960 * k := by
  induction k with
  | zero => simp [costIn]
  | succ k ih =>
    have h2 := mul_bd (ht k) (hc k)
    simp only [costIn]; omega
theorem costTo_bd {t c : List (List Int)} {n m : Nat} (ht : ∀ i k, i < n → 0 ≤ cellT t i k ∧ cellT t i k ≤ 40) (hc : ∀ i k, 0 ≤ cellT c i k ∧ cellT c i k ≤ 99) (hm : m ≤ 8) (i : Nat) (hi : i ≤ n) : 0 ≤ costTo t c m i ∧ costTo t c m i ≤ 31680 * i := by
  induction i with
  | zero => simp [costTo]
  | succ i ih =>
    have h2 := costIn_bd (t := t) (c := c) (i := i) (fun k => ht i k (by omega)) (hc i) m
    have h3 := ih (by omega)
    simp only [costTo]; omega

/-- Potentials. -/
def potRow (u w : List Int) (c : List (List Int)) (i : Nat) : Bool := (List.range w.length).all fun k => decide (nth u i + nth w k ≤ cellT c i k)
def potB (u w : List Int) (c : List (List Int)) : Bool := (List.range u.length).all (potRow u w c)
theorem potRow_iff {u w : List Int} {c : List (List Int)} {i : Nat} : potRow u w c i = true ↔ ∀ k, k < w.length → nth u i + nth w k ≤ cellT c i k := by simp [potRow]
theorem potB_iff {u w : List Int} {c : List (List Int)} : potB u w c = true ↔ ∀ i, i < u.length → potRow u w c i = true := by simp [potB]
theorem potB_no {u w : List Int} {c : List (List Int)} {i k : Nat} (hi : i < u.length) (hk : k < w.length) (h : cellT c i k < nth u i + nth w k) : potB u w c = false := by
  rw [Bool.eq_false_iff]; intro hp; have := potRow_iff.1 (potB_iff.1 hp i hi) k hk; omega
def numB (xs : List Int) (n : Nat) : Bool := (xs.length == n) && allB xs (-999) 999
theorem numB_iff {xs : List Int} {n : Nat} : numB xs n = true ↔ xs.length = n ∧ ∀ x ∈ xs, -999 ≤ x ∧ x ≤ 999 := by
  simp only [numB, Bool.and_eq_true, beq_iff_eq, allB_iff]
end Go.Proofs.Ytboekndojgbkfaa
