import Derived.Test.YtboekndojgbkfaaFlow2M
import Derived.Test.YtboekndojgbkfaaFillN
/- Lists and tables of functions; cheapest flows. Plain part. -/
set_option linter.unusedVariables false
namespace Go.Proofs.Ytboekndojgbkfaa
open Go.ChangeShapes Go.WideShapes Go.ChangeAt Go.RowKit
def lst (n : Nat) (f : Nat → Int) : List Int := (List.range n).map f
theorem lst_len (n : Nat) (f : Nat → Int) : (lst n f).length = n := by simp [lst]
theorem lst_nth {n i : Nat} (f : Nat → Int) (h : i < n) : nth (lst n f) i = f i := by simp [nth, lst, h]
theorem lst_congr {n : Nat} {f g : Nat → Int} (h : ∀ i, i < n → f i = g i) : lst n f = lst n g := by
  unfold lst
  exact List.map_congr_left (fun i hi => h i (List.mem_range.1 hi))
theorem lst_ext {xs : List Int} {n : Nat} {f : Nat → Int} (hl : xs.length = n) (h : ∀ i, i < n → nth xs i = f i) : xs = lst n f := by
  apply List.ext_getElem
  · rw [hl, lst_len]
  · intro i h1 h2
    have := h i (by omega)
    rw [nth_eq h1] at this
    rw [this]; simp [lst]
theorem lst_of {xs : List Int} {n : Nat} (hl : xs.length = n) : xs = lst n (nth xs) := lst_ext hl fun _ _ => rfl
theorem lst_set (n : Nat) (f : Nat → Int) (i : Nat) (v : Int) : (lst n f).set i v = lst n (updI f i v) := by
  refine lst_ext (by rw [List.length_set, lst_len]) fun j hj => ?_
  by_cases e : i = j
  · subst e; rw [nth_set_same (by rw [lst_len]; exact hj), updI_at]
  · rw [nth_set_ne e, lst_nth _ hj, updI_ne _ _ (fun h => e h.symm)]
theorem lst_rep (n : Nat) (v : Int) : List.replicate n v = lst n (fun _ => v) := by
  refine lst_ext (by simp) fun i hi => ?_
  unfold nth; rw [List.getElem?_replicate, if_pos hi]; rfl
theorem lst_sum (n : Nat) (f : Nat → Int) : ∀ k, k ≤ n → sumTo (lst n f) k = sumG k f
  | 0, _ => rfl
  | k + 1, h => by rw [sumTo, sumG, lst_sum n f k (by omega), lst_nth _ (by omega)]
def tab (n : Nat) (X : Nat → Nat → Int) : List (List Int) := (List.range n).map fun i => lst n (X i)
theorem tab_len (n : Nat) (X : Nat → Nat → Int) : (tab n X).length = n := by simp [tab]
theorem tab_row {n i : Nat} (X : Nat → Nat → Int) (h : i < n) : nthL (tab n X) i = lst n (X i) := by simp [nthL, tab, h]
theorem tab_rowLen {n i : Nat} (X : Nat → Nat → Int) (h : i < n) : (nthL (tab n X) i).length = n := by rw [tab_row X h, lst_len]
theorem tab_cell {n i k : Nat} (X : Nat → Nat → Int) (hi : i < n) (hk : k < n) : cellT (tab n X) i k = X i k := by rw [cellT, tab_row X hi, lst_nth _ hk]
theorem tab_ext {T : List (List Int)} {n : Nat} {X : Nat → Nat → Int} (hl : T.length = n) (h : ∀ i, i < n → nthL T i = lst n (X i)) : T = tab n X := by
  apply List.ext_getElem
  · rw [hl, tab_len]
  · intro i h1 h2
    have := h i (by omega)
    rw [nthL_eq h1] at this
    rw [this]; simp [tab]
theorem tab_set {n : Nat} (X : Nat → Nat → Int) {i : Nat} (hi : i < n) (k : Nat) (v : Int) : setC (tab n X) i k v = tab n (upd2 X i k v) := by
  refine tab_ext (by rw [setC_len, tab_len]) fun j hj => ?_
  by_cases e : i = j
  · subst e; rw [setC, nthL_set_same (by rw [tab_len]; exact hj), tab_row X hj, lst_set, upd2_row]
  · rw [setC, nthL_set_ne e, tab_row X hj, upd2_rowNe _ _ _ (fun h => e h.symm)]
theorem tab_zero (n : Nat) : zeros n n = tab n (fun _ _ => 0) :=
  tab_ext (by simp [zeros]) fun i hi => by rw [zeros_row _ _ _ hi, lst_rep]
theorem tab_costIn {n : Nat} (X : Nat → Nat → Int) (T : List (List Int)) {i : Nat} (hi : i < n) : ∀ k, k ≤ n → costIn (tab n X) T i k = sumG k fun k => X i k * cellT T i k
  | 0, _ => rfl
  | k + 1, h => by rw [costIn, tab_costIn X T hi k (by omega), sumG, tab_cell X hi (by omega)]
theorem tab_cost {n : Nat} (X : Nat → Nat → Int) (T : List (List Int)) : ∀ i, i ≤ n → costTo (tab n X) T n i = sumG i fun i => sumG n fun k => X i k * cellT T i k
  | 0, _ => rfl
  | i + 1, h => by rw [costTo, tab_cost X T i (by omega), sumG, tab_costIn X T (by omega) n (Nat.le_refl _)]
theorem tab_costN (n : Nat) (X : Nat → Nat → Int) (T : List (List Int)) : costTo (tab n X) T n n = costN n (cellT T) X := tab_cost X T n (Nat.le_refl _)
/-- The list of the start. -/
theorem startBF_b (F : Int) (n : Nat) (h : Nat → Int) (y : Nat) : (startBF F n h).b y = -1 := rfl
theorem startBF_d (F : Int) (n : Nat) (h : Nat → Int) (y : Nat) : (startBF F n h).d y = if y < n ∧ 0 < h y then 0 else F := rfl
theorem rlx_yes {F c : Int} {x y : Nat} {s : BF} (h1 : s.d x < F) (h2 : s.d x + c < s.d y) : rlx F c x y s = ⟨updI s.d y (s.d x + c), updI s.b y x⟩ := if_pos ⟨h1, h2⟩
theorem rlx_no1 {F c : Int} {x y : Nat} {s : BF} (h1 : ¬ s.d x < F) : rlx F c x y s = s := if_neg fun h => h1 h.1
theorem rlx_no2 {F c : Int} {x y : Nat} {s : BF} (h1 : ¬ s.d x + c < s.d y) : rlx F c x y s = s := if_neg fun h => h1 h.2
end Go.Proofs.Ytboekndojgbkfaa
