import Derived.Test.YtboekndojgbkfaaPlanM
/- The plan that takes units in order: plain part. -/
set_option linter.unusedVariables false
namespace Go.Proofs.Ytboekndojgbkfaa
open Go.ChangeShapes Go.WideShapes Go.ChangeAt Go.RowKit

theorem nth_set_same {xs : List Int} {i : Nat} (h : i < xs.length) (x : Int) : nth (xs.set i x) i = x := by simp [nth, h]
theorem nth_set_ne {xs : List Int} {i j : Nat} (h : i ≠ j) (x : Int) : nth (xs.set i x) j = nth xs j := by simp [nth, h]
theorem set_nth (xs : List Int) (i : Nat) : xs.set i (nth xs i) = xs := by
  by_cases h : i < xs.length
  · apply List.ext_getElem (by simp)
    intro j h1 h2
    rw [List.getElem_set]; split
    · rename_i e; subst e; exact nth_eq h
    · rfl
  · exact List.set_eq_of_length_le (by omega)
theorem set_nthL (t : List (List Int)) (i : Nat) : t.set i (nthL t i) = t := by
  by_cases h : i < t.length
  · apply List.ext_getElem (by simp)
    intro j h1 h2
    rw [List.getElem_set]; split
    · rename_i e; subst e; exact nthL_eq h
    · rfl
  · exact List.set_eq_of_length_le (by omega)
/-- One number of a table is set. -/
def setC (t : List (List Int)) (i k : Nat) (v : Int) : List (List Int) := t.set i ((nthL t i).set k v)
theorem setC_len (t : List (List Int)) (i k : Nat) (v : Int) : (setC t i k v).length = t.length := by simp [setC]
theorem setC_row (t : List (List Int)) (i k : Nat) (v : Int) (j : Nat) : (nthL (setC t i k v) j).length = (nthL t j).length := by
  unfold setC
  by_cases h : i < t.length
  · by_cases e : i = j
    · subst e; rw [nthL_set_same h]; simp
    · rw [nthL_set_ne e]
  · rw [List.set_eq_of_length_le (by omega)]
theorem setC_same {t : List (List Int)} {i k : Nat} (hi : i < t.length) (hk : k < (nthL t i).length) (v : Int) : cellT (setC t i k v) i k = v := by
  rw [cellT, setC, nthL_set_same hi, nth_set_same hk]
theorem setC_ne (t : List (List Int)) (i k : Nat) (v : Int) (a b : Nat) (h : i ≠ a ∨ k ≠ b) : cellT (setC t i k v) a b = cellT t a b := by
  unfold cellT setC
  by_cases hi : i < t.length
  · by_cases e : i = a
    · subst e; rw [nthL_set_same hi, nth_set_ne (by omega)]
    · rw [nthL_set_ne e]
  · rw [List.set_eq_of_length_le (by omega)]
theorem setC_self (t : List (List Int)) (i k : Nat) : setC t i k (cellT t i k) = t := by rw [setC, cellT, set_nth, set_nthL]

/-- The reference's way through two lists: f rounds at most. -/
def fillS : Nat → Nat → Nat → List (List Int) → List Int → List Int → List (List Int)
  | 0, _, _, t, _, _ => t
  | f + 1, i, k, t, h, l =>
    if i < h.length ∧ k < l.length then
      if nth h i - min (nth h i) (nth l k) = 0 then fillS f (i + 1) k (setC t i k (cellT t i k + min (nth h i) (nth l k))) (h.set i (nth h i - min (nth h i) (nth l k))) (l.set k (nth l k - min (nth h i) (nth l k)))
      else fillS f i (k + 1) (setC t i k (cellT t i k + min (nth h i) (nth l k))) (h.set i (nth h i - min (nth h i) (nth l k))) (l.set k (nth l k - min (nth h i) (nth l k)))
    else t
def fillM (t : List (List Int)) (h l : List Int) : List (List Int) := fillS (h.length + l.length) 0 0 t h l

theorem fillS_out {f i k : Nat} {t : List (List Int)} {h l : List Int} (hn : ¬ (i < h.length ∧ k < l.length)) : fillS f i k t h l = t := by
  cases f with
  | zero => rfl
  | succ f => rw [fillS, if_neg hn]
theorem fillS_h0 {f i k : Nat} {t : List (List Int)} {h l : List Int} (hi : i < h.length) (hk : k < l.length) (h0 : nth h i = 0) (l0 : 0 ≤ nth l k) : fillS (f + 1) i k t h l = fillS f (i + 1) k t h l := by
  have hm : min (nth h i) (nth l k) = 0 := by omega
  have e1 : h.set i (nth h i - 0) = h := by rw [Int.sub_zero, set_nth]
  have e2 : l.set k (nth l k - 0) = l := by rw [Int.sub_zero, set_nth]
  rw [fillS, if_pos ⟨hi, hk⟩, hm, e1, e2, if_pos (by omega), Int.add_zero, setC_self]
theorem fillS_l0 {f i k : Nat} {t : List (List Int)} {h l : List Int} (hi : i < h.length) (hk : k < l.length) (h0 : 0 < nth h i) (l0 : nth l k = 0) : fillS (f + 1) i k t h l = fillS f i (k + 1) t h l := by
  have hm : min (nth h i) (nth l k) = 0 := by omega
  have e1 : h.set i (nth h i - 0) = h := by rw [Int.sub_zero, set_nth]
  have e2 : l.set k (nth l k - 0) = l := by rw [Int.sub_zero, set_nth]
  rw [fillS, if_pos ⟨hi, hk⟩, hm, e1, e2, if_neg (by omega), Int.add_zero, setC_self]
theorem fillS_mid {f i k : Nat} {t : List (List Int)} {h l : List Int} (hi : i < h.length) (hk : k < l.length) (h0 : 0 < nth h i) (l0 : 0 < nth l k) :
    fillS (f + 1) i k (setC t i k (cellT t i k + min (nth h i) (nth l k))) (h.set i (nth h i - min (nth h i) (nth l k))) (l.set k (nth l k - min (nth h i) (nth l k))) = fillS (f + 1) i k t h l := by
  by_cases e : nth h i - min (nth h i) (nth l k) = 0
  · rw [fillS_h0 (by simpa using hi) (by simpa using hk) (by rw [nth_set_same hi]; exact e) (by rw [nth_set_same hk]; omega)]
    rw [fillS, if_pos ⟨hi, hk⟩, if_pos e]
  · rw [fillS_l0 (by simpa using hi) (by simpa using hk) (by rw [nth_set_same hi]; omega) (by rw [nth_set_same hk]; omega)]
    rw [fillS, if_pos ⟨hi, hk⟩, if_neg e]

/-- What stays so while units are taken. -/
structure FillI (n m : Nat) (t : List (List Int)) (h l : List Int) : Prop where
  tl : t.length = n
  row : ∀ i, i < n → (nthL t i).length = m
  hl : h.length = n
  ll : l.length = m
  hb : ∀ i, 0 ≤ nth h i ∧ nth h i ≤ 40
  lb : ∀ i, 0 ≤ nth l i ∧ nth l i ≤ 40
  cb : ∀ i k, 0 ≤ cellT t i k ∧ cellT t i k + nth h i ≤ 80
theorem FillI.step {n m : Nat} {t : List (List Int)} {h l : List Int} (F : FillI n m t h l) {i k : Nat} (hi : i < n) (hk : k < m) {c : Int} (c0 : 0 ≤ c) (c1 : c ≤ nth h i) (c2 : c ≤ nth l k) :
    FillI n m (setC t i k (cellT t i k + c)) (h.set i (nth h i - c)) (l.set k (nth l k - c)) := by
  obtain ⟨f1, f2, f3, f4, f5, f6, f7⟩ := F
  refine ⟨by rw [setC_len]; exact f1, fun j hj => by rw [setC_row]; exact f2 j hj, by simpa using f3, by simpa using f4, fun j => ?_, fun j => ?_, fun a b => ?_⟩
  · by_cases e : i = j
    · subst e; rw [nth_set_same (by omega)]; have := f5 i; omega
    · rw [nth_set_ne e]; exact f5 j
  · by_cases e : k = j
    · subst e; rw [nth_set_same (by omega)]; have := f6 k; omega
    · rw [nth_set_ne e]; exact f6 j
  · have hc := f7 a b
    by_cases e : i = a
    · subst e
      rw [nth_set_same (by omega)]
      by_cases e2 : k = b
      · subst e2; rw [setC_same (by omega) (by rw [f2 i hi]; exact hk)]; omega
      · rw [setC_ne _ _ _ _ _ _ (.inr e2)]; omega
    · rw [nth_set_ne e, setC_ne _ _ _ _ _ _ (.inl e)]; exact hc
def zeros (n m : Nat) : List (List Int) := List.replicate n (List.replicate m 0)
theorem zeros_row (n m i : Nat) (h : i < n) : nthL (zeros n m) i = List.replicate m 0 := by simp [nthL, zeros, h]
theorem zeros_cell (n m i k : Nat) : cellT (zeros n m) i k = 0 := by
  unfold cellT
  by_cases h : i < n
  · rw [zeros_row n m i h]; unfold nth; rw [List.getElem?_replicate]; split <;> rfl
  · rw [nthL_out (by simp [zeros]; omega)]; simp [nth]
theorem zeros_tot (n m : Nat) : tot (zeros n m) = n * m := by
  induction n with
  | zero => simp [tot, zeros]
  | succ n ih => 
    have : tot (zeros (n+1) m) = m + tot (zeros n m) := by simp [tot, zeros, List.replicate_succ]
    rw [this, ih, Nat.add_mul]; omega
theorem FillI.start {p q : List Int} (h : alikeB p q = true) : FillI p.length q.length (zeros p.length q.length) p q := by
  obtain ⟨s1, s2, _, _⟩ := alikeB_iff.1 h
  exact ⟨by simp [zeros], fun i hi => by rw [zeros_row _ _ _ hi]; simp, rfl, rfl, spread_nth s1, spread_nth s2, fun i k => by rw [zeros_cell]; have := spread_nth s1 i; omega⟩
def sortedM (p q : List Int) : List (List Int) := fillM (zeros p.length q.length) p q

/-- The keeping plan's diagonal, up to i. -/
def keepT (p q : List Int) : Nat → List (List Int)
  | 0 => zeros p.length q.length
  | i + 1 => setC (keepT p q i) i i (min (nth p i) (nth q i))
def keepL (p q : List Int) (i : Nat) : List Int := (List.range p.length).map fun j => if j < i then nth p j - min (nth p j) (nth q j) else nth p j
theorem keepL_len (p q : List Int) (i : Nat) : (keepL p q i).length = p.length := by simp [keepL]
theorem keepL_nth (p q : List Int) (i j : Nat) (h : j < p.length) : nth (keepL p q i) j = if j < i then nth p j - min (nth p j) (nth q j) else nth p j := by simp [nth, keepL, h]
theorem keepL_zero (p q : List Int) : keepL p q 0 = p := by
  apply List.ext_getElem (by simp [keepL]); intro j h1 h2; simp [keepL, nth, h2]
theorem keepL_succ (p q : List Int) (i : Nat) (h : i < p.length) : (keepL p q i).set i (nth p i - min (nth p i) (nth q i)) = keepL p q (i + 1) := by
  apply List.ext_getElem (by simp [keepL])
  intro j h1 h2
  simp only [keepL, List.getElem_set, List.getElem_map, List.getElem_range]
  by_cases e : i = j
  · subst e; simp
  · rw [if_neg e]
    by_cases h3 : j < i
    · rw [if_pos h3, if_pos (by omega)]
    · rw [if_neg h3, if_neg (by omega)]
def keptL (p q : List Int) (i : Nat) : List Int := (List.range i).map fun j => nth p j - min (nth p j) (nth q j)
theorem keptL_succ (p q : List Int) (i : Nat) : keptL p q (i + 1) = keptL p q i ++ [nth p i - min (nth p i) (nth q i)] := by simp [keptL, List.range_succ]
theorem keptL_all (p q : List Int) : keptL p q p.length = keepL p q p.length := by
  apply List.ext_getElem (by simp [keepL, keptL]); intro j h1 h2
  have : j < p.length := by simpa [keptL] using h1
  simp [keepL, keptL, this]
theorem keepT_len (p q : List Int) (i : Nat) : (keepT p q i).length = p.length := by
  induction i with
  | zero => simp [keepT, zeros]
  | succ i ih => rw [keepT, setC_len, ih]
theorem keepT_row (p q : List Int) (i j : Nat) (h : j < p.length) : (nthL (keepT p q i) j).length = q.length := by
  induction i with
  | zero => rw [keepT, zeros_row _ _ _ h]; simp
  | succ i ih => rw [keepT, setC_row, ih]
theorem keepT_cell (p q : List Int) (i : Nat) (hi : i ≤ p.length) (hq : q.length = p.length) (a b : Nat) : cellT (keepT p q i) a b = if a = b ∧ a < i then min (nth p a) (nth q a) else 0 := by
  induction i with
  | zero => rw [keepT, zeros_cell, if_neg (by omega)]
  | succ i ih =>
    rw [keepT]
    by_cases e : i = a ∧ i = b
    · obtain ⟨rfl, rfl⟩ := e
      rw [setC_same (by rw [keepT_len]; omega) (by rw [keepT_row _ _ _ _ (by omega)]; omega), if_pos ⟨rfl, by omega⟩]
    · rw [setC_ne _ _ _ _ _ _ (by omega), ih (by omega)]
      by_cases e2 : a = b ∧ a < i
      · rw [if_pos e2, if_pos (by omega)]
      · rw [if_neg e2, if_neg (by omega)]
theorem min_comm' (a b : Int) : min a b = min b a := by omega
theorem FillI.keep {p q : List Int} (h : alikeB p q = true) : FillI p.length p.length (keepT p q p.length) (keepL p q p.length) (keepL q p p.length) := by
  obtain ⟨s1, s2, s3, _⟩ := alikeB_iff.1 h
  refine ⟨keepT_len _ _ _, fun i hi => by rw [keepT_row _ _ _ _ hi, s3], keepL_len _ _ _, by rw [keepL_len, s3], fun i => ?_, fun i => ?_, fun i k => ?_⟩
  · have h1 := spread_nth s1 i; have h2 := spread_nth s2 i
    by_cases hi : i < p.length
    · rw [keepL_nth _ _ _ _ hi, if_pos hi]; omega
    · rw [nth_out (by rw [keepL_len]; omega)]; omega
  · have h1 := spread_nth s1 i; have h2 := spread_nth s2 i
    by_cases hi : i < p.length
    · rw [keepL_nth _ _ _ _ (by omega), if_pos hi]; omega
    · rw [nth_out (by rw [keepL_len]; omega)]; omega
  · have h1 := spread_nth s1 i; have h2 := spread_nth s2 i
    rw [keepT_cell _ _ _ (Nat.le_refl _) s3.symm]
    by_cases hi : i < p.length
    · rw [keepL_nth _ _ _ _ hi, if_pos hi]
      split <;> omega
    · rw [if_neg (by omega), nth_out (by rw [keepL_len]; omega)]; omega
def keepingM (p q : List Int) : List (List Int) := fillM (keepT p q p.length) (keepL p q p.length) (keepL q p p.length)
def keepingV (p q : List Int) : List (List Int) := bif alikeB p q then keepingM p q else []
def sortedV (p q : List Int) : List (List Int) := bif alikeB p q then sortedM p q else []
theorem fillS_shape {n m : Nat} (f : Nat) : ∀ (i k : Nat) (t : List (List Int)) (h l : List Int), t.length = n → (∀ i, i < n → (nthL t i).length = m) → (fillS f i k t h l).length = n ∧ ∀ j, j < n → (nthL (fillS f i k t h l) j).length = m := by
  induction f with
  | zero => intro i k t h l h1 h2; exact ⟨h1, h2⟩
  | succ f ih =>
    intro i k t h l h1 h2
    rw [fillS]
    split
    · split
      · exact ih _ _ _ _ _ (by rw [setC_len]; exact h1) (fun j hj => by rw [setC_row]; exact h2 j hj)
      · exact ih _ _ _ _ _ (by rw [setC_len]; exact h1) (fun j hj => by rw [setC_row]; exact h2 j hj)
    · exact ⟨h1, h2⟩
theorem tot_rows {t : List (List Int)} {m : Nat} (h : ∀ i, i < t.length → (nthL t i).length = m) : tot t = t.length * m := by
  induction t with
  | nil => simp [tot]
  | cons x r ih =>
    have h1 := ih fun i hi => by have := h (i + 1) (by simpa using hi); simpa [nthL] using this
    have h2 := h 0 (by simp)
    have h3 : x.length = m := by simpa [nthL] using h2
    simp only [tot, List.map_cons, List.sum_cons, List.length_cons] at h1 ⊢
    rw [h1, h3, Nat.add_mul]; omega
end Go.Proofs.Ytboekndojgbkfaa
