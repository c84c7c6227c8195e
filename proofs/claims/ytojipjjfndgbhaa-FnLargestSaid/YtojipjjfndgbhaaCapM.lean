import Derived.Test.YtojipjjfndgbhaaSumM
/- Caps over trees: plain part. -/
set_option linter.unusedVariables false
namespace Go.Proofs.Ytojipjjfndgbhaa
open Go.ChangeShapes Go.WideShapes Go.ChangeAt Go.RowKit

/-- A node's sum times its payment. -/
def payS (P W X : List Int) (x : Nat) : Int := nth (gathM P W) x * nth X x
def capStep (P : List Int) (S F : Nat → Int) (x : Nat) : Int := if endB P x = true then S x else max (S x) (kidSum P F x (P.length - 1))
def capI (P W X : List Int) : Nat → Nat → Int
  | 0 => payS P W X
  | i + 1 => capStep P (payS P W X) (capI P W X i)
def capL (P W X : List Int) (i : Nat) : List Int := (List.range P.length).map (capI P W X i)
def capM (P W X : List Int) : List Int := capL P W X 24
theorem capL_len (P W X : List Int) (i : Nat) : (capL P W X i).length = P.length := by simp [capL]
theorem capL_nth {P W X : List Int} {i x : Nat} (h : x < P.length) : nth (capL P W X i) x = capI P W X i x := by
  rw [nth_eq (by rw [capL_len]; exact h)]; simp [capL]
theorem kidSum_congr {P : List Int} {F G : Nat → Int} {z : Nat} (hp : parB P = true) (h : ∀ y, z < y → y < P.length → F y = G y) (j : Nat) (hj : j + 1 ≤ P.length) : kidSum P F z j = kidSum P G z j := by
  induction j with
  | zero => rfl
  | succ j ih =>
    simp only [kidSum]; rw [ih (by omega)]
    split
    · rename_i e; rw [h _ (par_lt hp (by omega) e) (by omega)]
    · rfl
theorem cap_stay {P W X : List Int} (hp : parB P = true) (i : Nat) : ∀ x, x < P.length → P.length - x ≤ i → capI P W X (i + 1) x = capI P W X i x := by
  induction i with
  | zero => intro x hx h; omega
  | succ i ih =>
    intro x hx h
    show capStep P (payS P W X) (capI P W X (i + 1)) x = capStep P (payS P W X) (capI P W X i) x
    rw [capStep, capStep, kidSum_congr hp (fun y h1 h2 => ih y h2 (by omega)) _ (by omega)]
/-- The last round's numbers satisfy the recurrence. -/
theorem cap_rec {P W X : List Int} (hp : parB P = true) (hn : P.length ≤ 24) (x : Nat) (hx : x < P.length) : nth (capM P W X) x = if endB P x = true then payS P W X x else max (payS P W X x) (kidSum P (nth (capM P W X)) x (P.length - 1)) := by
  rw [capM, capL_nth hx, ← cap_stay hp 24 x hx (by omega)]
  show capStep P (payS P W X) (capI P W X 24) x = _
  rw [capStep, kidSum_congr hp (fun y h1 h2 => (capL_nth (P := P) (W := W) (X := X) (i := 24) h2).symm) _ (by omega)]
theorem kidSum_abs {P W X : List Int} {F : Nat → Int} {z : Nat} (ht : treeB P W = true) (hF : ∀ y, z < y → y < P.length → -(999 * nth (gathM P W) y) ≤ F y ∧ F y ≤ 999 * nth (gathM P W) y) (j : Nat) (hj : j + 1 ≤ P.length) :
    -(999 * kidSum P (nth (gathM P W)) z j) ≤ kidSum P F z j ∧ kidSum P F z j ≤ 999 * kidSum P (nth (gathM P W)) z j := by
  obtain ⟨h1, h2, h3, h4⟩ := treeB_iff.1 ht
  induction j with
  | zero => simp [kidSum]
  | succ j ih =>
    have := ih (by omega)
    simp only [kidSum]
    split
    · rename_i e; have := hF _ (par_lt h3 (by omega) e) (by omega); omega
    · omega
theorem kidSum_mono {P : List Int} {F : Nat → Int} {z : Nat} (h : ∀ y, z < y → y < P.length → 0 ≤ F y) (hp : parB P = true) (j k : Nat) (hk : k + 1 ≤ P.length) (hj : j ≤ k) : kidSum P F z j ≤ kidSum P F z k := by
  induction k with
  | zero => obtain rfl : j = 0 := by omega
            exact Int.le_refl _
  | succ k ih =>
    by_cases e : j = k + 1
    · subst e; exact Int.le_refl _
    · have h1 := ih (by omega) (by omega)
      simp only [kidSum]
      split
      · rename_i e2; have := h _ (par_lt hp (by omega) e2) (by omega); omega
      · omega
theorem pay_bd {P W X : List Int} (ht : treeB P W = true) (hX : ∀ i, -999 ≤ nth X i ∧ nth X i ≤ 999) (x : Nat) (hx : x < P.length) : -(999 * nth (gathM P W) x) ≤ payS P W X x ∧ payS P W X x ≤ 999 * nth (gathM P W) x := by
  have h1 := sums_pos ht x hx
  have h2 := hX x
  rw [payS]
  have h3 : nth (gathM P W) x * nth X x ≤ nth (gathM P W) x * 999 := Int.mul_le_mul_of_nonneg_left h2.2 (by omega)
  have h4 : nth (gathM P W) x * (-999) ≤ nth (gathM P W) x * nth X x := Int.mul_le_mul_of_nonneg_left h2.1 (by omega)
  omega
theorem cap_bd {P W X : List Int} (ht : treeB P W = true) (hX : ∀ i, -999 ≤ nth X i ∧ nth X i ≤ 999) (i : Nat) : ∀ x, x < P.length → -(999 * nth (gathM P W) x) ≤ capI P W X i x ∧ capI P W X i x ≤ 999 * nth (gathM P W) x := by
  obtain ⟨h1, h2, h3, h4⟩ := treeB_iff.1 ht
  induction i with
  | zero => intro x hx; exact pay_bd ht hX x hx
  | succ i ih =>
    intro x hx
    have hp := pay_bd ht hX x hx
    show _ ≤ capStep P (payS P W X) (capI P W X i) x ∧ capStep P (payS P W X) (capI P W X i) x ≤ _
    rw [capStep]
    split
    · exact hp
    · have hk := kidSum_abs (X := X) (z := x) ht (fun y _ hy => ih y hy) (P.length - 1) (by omega)
      have hr := gath_rec (a := W) h3 h2 x hx
      have hw := tree_wei ht x
      omega
/-- Partial sums of children stay small. -/
theorem kid_small {P W X : List Int} {F : Nat → Int} (ht : treeB P W = true) (hF : ∀ y, y < P.length → -(999 * nth (gathM P W) y) ≤ F y ∧ F y ≤ 999 * nth (gathM P W) y) (z j : Nat) (hz : z < P.length) (hj : j + 1 ≤ P.length) :
    -479520 ≤ kidSum P F z j ∧ kidSum P F z j ≤ 479520 := by
  obtain ⟨h1, h2, h3, h4⟩ := treeB_iff.1 ht
  have hk := kidSum_abs (X := X) (z := z) ht (fun y _ hy => hF y hy) j hj
  have hm := kidSum_mono (F := nth (gathM P W)) (z := z) (fun y _ hy => by have := sums_pos ht y hy; omega) h3 j (P.length - 1) (by omega) (by omega)
  have hr := gath_rec (a := W) h3 h2 z hz
  have hw := tree_wei ht z
  have hs := sums_le ht z
  omega
theorem cap_small {P W X : List Int} (ht : treeB P W = true) (hX : ∀ i, -999 ≤ nth X i ∧ nth X i ≤ 999) (i x : Nat) (hx : x < P.length) : -479520 ≤ capI P W X i x ∧ capI P W X i x ≤ 479520 := by
  have := cap_bd ht hX i x hx
  have := sums_le ht x
  omega
/-- The first k numbers of F, then noughts. -/
def preL (P : List Int) (F : Nat → Int) (k : Nat) : List Int := (List.range P.length).map fun x => if x < k then F x else 0
theorem preL_len (P : List Int) (F : Nat → Int) (k : Nat) : (preL P F k).length = P.length := by simp [preL]
theorem preL_zero (P : List Int) (F : Nat → Int) : preL P F 0 = List.replicate P.length 0 := by
  apply List.ext_getElem <;> simp [preL]
theorem preL_set {P : List Int} {F : Nat → Int} {k : Nat} : (preL P F k).set k (F k) = preL P F (k + 1) := by
  apply List.ext_getElem
  · simp [preL]
  · intro i h1 h2
    simp only [preL, List.getElem_set, List.getElem_map, List.getElem_range]
    by_cases e : k = i
    · subst e; simp
    · simp only [e, if_false]
      by_cases h : i < k
      · rw [if_pos h, if_pos (by omega)]
      · rw [if_neg h, if_neg (by omega)]
theorem preL_all (P : List Int) (F : Nat → Int) : preL P F P.length = (List.range P.length).map F := by
  apply List.ext_getElem
  · simp [preL]
  · intro i h1 h2
    simp only [preL, List.length_map, List.length_range] at h1
    simp [preL, h1]
/-- The sums of the children among the last j nodes, of all nodes. -/
def kidL (P : List Int) (F : Nat → Int) (j : Nat) : List Int := (List.range P.length).map fun z => kidSum P F z j
theorem kidL_len (P : List Int) (F : Nat → Int) (j : Nat) : (kidL P F j).length = P.length := by simp [kidL]
theorem kidL_nth {P : List Int} {F : Nat → Int} {j z : Nat} (h : z < P.length) : nth (kidL P F j) z = kidSum P F z j := by
  rw [nth_eq (by rw [kidL_len]; exact h)]; simp [kidL]
theorem kidL_zero (P : List Int) (F : Nat → Int) : kidL P F 0 = List.replicate P.length 0 := by
  apply List.ext_getElem <;> simp [kidL, kidSum]
theorem kidL_step {P : List Int} {F : Nat → Int} {j y : Nat} (hy : nth P (P.length - 1 - j) = (y : Int)) (hl : y < P.length) : (kidL P F j).set y (nth (kidL P F j) y + F (P.length - 1 - j)) = kidL P F (j + 1) := by
  rw [kidL_nth hl]
  apply List.ext_getElem
  · simp [kidL]
  · intro i h1 h2
    simp only [kidL, List.getElem_set, List.getElem_map, List.getElem_range, kidSum]
    by_cases e : y = i
    · subst e; rw [if_pos rfl, if_pos hy]
    · rw [if_neg e, if_neg (by omega)]; omega
end Go.Proofs.Ytojipjjfndgbhaa
