import Derived.Test.YtojipjjfndgbhaaCapM
/- Sums over children upward, and lists that are filled from behind: plain part. -/
set_option linter.unusedVariables false
namespace Go.Proofs.Ytojipjjfndgbhaa
open Go.ChangeShapes Go.WideShapes Go.ChangeAt Go.RowKit

/-- The sum of the children among the first k nodes. -/
def kidUp (P : List Int) (F : Nat → Int) (z : Nat) : Nat → Int
  | 0 => 0
  | k + 1 => kidUp P F z k + if nth P k = (z : Int) then F k else 0
theorem kidUp_part {P : List Int} {F : Nat → Int} {z : Nat} (j : Nat) (hj : j + 1 ≤ P.length) : kidUp P F z P.length = kidUp P F z (P.length - j) + kidSum P F z j := by
  induction j with
  | zero => simp [kidSum]
  | succ j ih =>
    have e : P.length - j = (P.length - 1 - j) + 1 := by omega
    rw [ih (by omega), e, kidUp, kidSum, show P.length - (j + 1) = P.length - 1 - j by omega]; omega
theorem kidUp_sum {P : List Int} {F : Nat → Int} {z : Nat} (hp : parB P = true) (hn : 1 ≤ P.length) : kidUp P F z P.length = kidSum P F z (P.length - 1) := by
  rw [kidUp_part (P.length - 1) (by omega), show P.length - (P.length - 1) = 0 + 1 by omega, kidUp, kidUp, (parB_iff.1 hp).1, if_neg (by omega)]; omega
def lsum (F : Nat → Int) (L : List Int) : Int := (L.map fun y => F y.toNat).sum
theorem lsum_take {F : Nat → Int} {L : List Int} {i : Nat} (h : i < L.length) : lsum F (L.take (i + 1)) = lsum F (L.take i) + F (nth L i).toNat := by
  rw [take_snoc L i h]; simp [lsum]
theorem lsum_zero (F : Nat → Int) (L : List Int) : lsum F (L.take 0) = 0 := by simp [lsum]
theorem lsum_kids (P : List Int) (F : Nat → Int) (z k : Nat) : lsum F (kidsTo P z k) = kidUp P F z k := by
  induction k with
  | zero => simp [kidsTo, lsum, kidUp]
  | succ k ih =>
    rw [kidsTo_succ, kidUp]
    by_cases h : nth P k = (z : Int)
    · rw [if_pos h, if_pos h, ← ih]; simp [lsum]
    · rw [if_neg h, if_neg h, ih]; omega
theorem lsum_bd {F : Nat → Int} {M : Int} (h : ∀ y, -M ≤ F y ∧ F y ≤ M) (L : List Int) : -(M * L.length) ≤ lsum F L ∧ lsum F L ≤ M * L.length := by
  induction L with
  | nil => simp [lsum]
  | cons y L ih =>
    have h1 := h y.toNat
    have : M * ((y :: L).length : Int) = M * L.length + M := by rw [List.length_cons, Int.natCast_add, Int.mul_add]; simp
    simp only [lsum, List.map_cons, List.sum_cons] at ih ⊢
    omega
theorem kids_nth {P : List Int} {x k i : Nat} (h : i < (kidsTo P x k).length) : ∃ y : Nat, nth (kidsTo P x k) i = (y : Int) ∧ y < k ∧ nth P y = (x : Int) := by
  have hm := nth_mem h
  simp only [kidsTo, List.mem_map, List.mem_filter, List.mem_range, beq_iff_eq] at hm
  obtain ⟨y, ⟨h1, h2⟩, h3⟩ := hm
  exact ⟨y, h3.symm, h1, h2⟩
/-- Noughts below k, the numbers of F from k on. -/
def sufL (P : List Int) (F : Nat → Int) (k : Nat) : List Int := (List.range P.length).map fun x => if x < k then 0 else F x
theorem sufL_len (P : List Int) (F : Nat → Int) (k : Nat) : (sufL P F k).length = P.length := by simp [sufL]
theorem sufL_nth {P : List Int} {F : Nat → Int} {k x : Nat} (h : x < P.length) : nth (sufL P F k) x = if x < k then 0 else F x := by
  rw [nth_eq (by rw [sufL_len]; exact h)]; simp [sufL]
theorem sufL_all (P : List Int) (F : Nat → Int) : sufL P F P.length = List.replicate P.length 0 := by
  apply List.ext_getElem
  · simp [sufL]
  · intro i h1 h2
    simp only [sufL, List.length_map, List.length_range] at h1
    simp [sufL, h1]
theorem sufL_zero (P : List Int) (F : Nat → Int) : sufL P F 0 = (List.range P.length).map F := by
  apply List.ext_getElem <;> simp [sufL]
theorem sufL_set {P : List Int} {F : Nat → Int} {k : Nat} (hk : k < P.length) : (sufL P F (k + 1)).set k (F k) = sufL P F k := by
  apply List.ext_getElem
  · simp [sufL]
  · intro i h1 h2
    simp only [sufL, List.getElem_set, List.getElem_map, List.getElem_range]
    by_cases e : k = i
    · subst e; simp
    · simp only [e, if_false]
      by_cases h : i < k
      · rw [if_pos h, if_pos (by omega)]
      · rw [if_neg h, if_neg (by omega)]
theorem capM_len (P W X : List Int) : (capM P W X).length = P.length := capL_len _ _ _ _
theorem wei_end {P W : List Int} (h : treeB P W = true) {x : Nat} (hx : x < P.length) : endB P x = (nth W x != 0) := by
  have h2 := weiOk_bd ((treeB_iff.1 h).2.2.2 x hx)
  rw [Bool.eq_iff_iff, h2.2.2, bne_iff_ne]; omega
/-- The numbers of the last round, from their own recurrence. -/
theorem cap_kids {P W X : List Int} (ht : treeB P W = true) {x : Nat} (hx : x < P.length) {L : List Int} (hl : ∀ y, x < y → y < P.length → nth L y = nth (capM P W X) y) :
    nth (capM P W X) x = if nth W x = 0 then max (payS P W X x) (kidUp P (nth L) x P.length) else payS P W X x := by
  obtain ⟨h1, h2, h3, h4⟩ := treeB_iff.1 ht
  rw [cap_rec h3 h1.2 x hx, wei_end ht hx, kidUp_sum h3 h1.1, kidSum_congr h3 hl _ (by omega)]
  by_cases e : nth W x = 0
  · rw [if_pos e, if_neg (by simp [e])]
  · rw [if_neg e, if_pos (by simp [e])]
end Go.Proofs.Ytojipjjfndgbhaa
