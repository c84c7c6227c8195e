import Derived.Test.YtojipjjfndgbhaaBool
/- Trees as lists of parents and weights: plain part. -/
set_option linter.unusedVariables false
namespace Go.Proofs.Ytojipjjfndgbhaa
open Go.ChangeShapes Go.WideShapes Go.ChangeAt Go.RowKit

/-- Node x is no parent of one of the first k nodes. -/
def endTo (P : List Int) (x k : Nat) : Bool := (List.range k).all fun y => nth P y != (x : Int)
def endB (P : List Int) (x : Nat) : Bool := endTo P x P.length
theorem endTo_iff {P : List Int} {x k : Nat} : endTo P x k = true ↔ ∀ y, y < k → nth P y ≠ (x : Int) := by simp [endTo]
theorem endTo_succ (P : List Int) (x k : Nat) : endTo P x (k + 1) = (endTo P x k && (nth P k != (x : Int))) := by
  simp [endTo, List.range_succ]
/-- The children of a node among those below k. -/
def kidsTo (P : List Int) (x k : Nat) : List Int := ((List.range k).filter fun y => nth P y == (x : Int)).map fun y : Nat => (y : Int)
theorem kidsTo_succ (P : List Int) (x k : Nat) : kidsTo P x (k + 1) = if nth P k = (x : Int) then kidsTo P x k ++ [(k : Int)] else kidsTo P x k := by
  rw [kidsTo, List.range_succ, List.filter_append, List.map_append]
  by_cases h : nth P k = (x : Int)
  · rw [if_pos h]; simp [h, kidsTo]
  · rw [if_neg h]; simp [h, kidsTo]
theorem kidsTo_len (P : List Int) (x k : Nat) : (kidsTo P x k).length ≤ k := by
  rw [kidsTo, List.length_map]; exact Nat.le_trans (List.length_filter_le _ _) (by simp)
theorem kidsTo_nil (P : List Int) (x k : Nat) : kidsTo P x k = [] ↔ endTo P x k = true := by
  induction k with
  | zero => simp [kidsTo, endTo]
  | succ k ih =>
    rw [kidsTo_succ, endTo_succ]
    by_cases h : nth P k = (x : Int)
    · rw [if_pos h]; simp [h]
    · rw [if_neg h, ih]; simp [h]
def parOk (P : List Int) (x : Nat) : Bool := inB (nth P x) 0 ((x : Int) - 1)
def parB (P : List Int) : Bool := (nth P 0 == -1) && (List.range P.length).all fun x => x == 0 || parOk P x
theorem parB_iff {P : List Int} : parB P = true ↔ nth P 0 = -1 ∧ ∀ x, x < P.length → 1 ≤ x → 0 ≤ nth P x ∧ nth P x ≤ (x : Int) - 1 := by
  simp only [parB, Bool.and_eq_true, beq_iff_eq, List.all_eq_true, List.mem_range, Bool.or_eq_true, parOk, inB_iff]
  exact ⟨fun ⟨h1, h2⟩ => ⟨h1, fun x hx h => by rcases h2 x hx with h3 | h3; (· omega); (· exact h3)⟩, fun ⟨h1, h2⟩ => ⟨h1, fun x hx => by by_cases h : x = 0; (· exact .inl h); (· exact .inr (h2 x hx (by omega)))⟩⟩
theorem parB_no {P : List Int} {x : Nat} (hx : x < P.length) (h1 : 1 ≤ x) (h : parOk P x = false) : parB P = false := by
  rw [Bool.eq_false_iff]; intro hp
  have := (parB_iff.1 hp).2 x hx h1
  rw [parOk, inB_no] at h; exact h this
theorem parB_no0 {P : List Int} (h : nth P 0 ≠ -1) : parB P = false := by
  rw [Bool.eq_false_iff]; intro hp; exact h (parB_iff.1 hp).1
/-- The parents of a valid tree lie before their children. -/
theorem par_lt {P : List Int} (h : parB P = true) {x y : Nat} (hy : y < P.length) (e : nth P y = (x : Int)) : x < y := by
  by_cases h0 : y = 0
  · subst h0; have := (parB_iff.1 h).1; omega
  · have := (parB_iff.1 h).2 y hy (by omega); omega
theorem kidsTo_from {P : List Int} (h : parB P = true) {x k : Nat} (hk : k ≤ x + 1) (hn : k ≤ P.length) : kidsTo P x k = [] := by
  rw [kidsTo_nil, endTo_iff]; intro y hy e
  have := par_lt h (by omega) e; omega
def weiOk (P W : List Int) (x : Nat) : Bool := bif endB P x then inB (nth W x) 1 20 else nth W x == 0
def treeB (P W : List Int) : Bool := inB P.length 1 24 && (W.length == P.length) && parB P && (List.range P.length).all (weiOk P W)
theorem treeB_iff {P W : List Int} : treeB P W = true ↔ (1 ≤ P.length ∧ P.length ≤ 24) ∧ W.length = P.length ∧ parB P = true ∧ ∀ x, x < P.length → weiOk P W x = true := by
  simp only [treeB, Bool.and_eq_true, inB_iff, beq_iff_eq, List.all_eq_true, List.mem_range]
  exact ⟨fun ⟨⟨⟨h1, h2⟩, h3⟩, h4⟩ => ⟨by omega, h2, h3, h4⟩, fun ⟨h1, h2, h3, h4⟩ => ⟨⟨⟨by omega, h2⟩, h3⟩, h4⟩⟩
theorem treeB_noLen {P W : List Int} (h : inB P.length 1 24 = false) : treeB P W = false := by rw [treeB, h]; rfl
theorem treeB_noW {P W : List Int} (h : W.length ≠ P.length) : treeB P W = false := by rw [treeB, beq_eq_false_iff_ne.2 h]; simp
theorem treeB_noPar {P W : List Int} (h : parB P = false) : treeB P W = false := by rw [treeB, h]; simp
theorem treeB_noWei {P W : List Int} {x : Nat} (hx : x < P.length) (h : weiOk P W x = false) : treeB P W = false := by
  rw [Bool.eq_false_iff]; intro hp; rw [(treeB_iff.1 hp).2.2.2 x hx] at h; cases h
theorem weiOk_bd {P W : List Int} {x : Nat} (h : weiOk P W x = true) : 0 ≤ nth W x ∧ nth W x ≤ 20 ∧ (endB P x = true ↔ 0 < nth W x) := by
  unfold weiOk at h
  cases he : endB P x
  · rw [he] at h; simp at h; simp [h]
  · rw [he] at h
    have h' : inB (nth W x) 1 20 = true := h
    rw [inB_iff] at h'
    refine ⟨by omega, h'.2, ?_⟩
    simp; omega
theorem tree_wei {P W : List Int} (h : treeB P W = true) (x : Nat) : 0 ≤ nth W x ∧ nth W x ≤ 20 := by
  obtain ⟨h1, h2, h3, h4⟩ := treeB_iff.1 h
  by_cases hx : x < P.length
  · have := weiOk_bd (h4 x hx); omega
  · rw [nth_out (by omega)]; omega
/-- What isEnd writes: k parents are read. -/
def endsAt (P : List Int) (k : Nat) : List Bool := (List.range P.length).map fun x => endTo P x k
theorem endsAt_len (P : List Int) (k : Nat) : (endsAt P k).length = P.length := by simp [endsAt]
theorem endsAt_nth (P : List Int) (k x : Nat) (h : x < P.length) : nthB (endsAt P k) x = endTo P x k := by simp [nthB, endsAt, h]
theorem endsAt_zero (P : List Int) : endsAt P 0 = List.replicate P.length true := by
  apply List.ext_getElem (by simp [endsAt]); intro i h1 h2; simp [endsAt, endTo]
theorem endsAt_skip {P : List Int} {k : Nat} (h : nth P k < 0) : endsAt P (k + 1) = endsAt P k := by
  apply List.ext_getElem (by simp [endsAt]); intro i h1 h2
  simp only [endsAt, List.getElem_map, List.getElem_range, endTo_succ]
  have : (nth P k != (i : Int)) = true := by simp; omega
  rw [this, Bool.and_true]
theorem endsAt_set {P : List Int} {k x : Nat} (h : nth P k = (x : Int)) (hx : x < P.length) : (endsAt P k).set x false = endsAt P (k + 1) := by
  apply List.ext_getElem (by simp [endsAt]); intro i h1 h2
  simp only [endsAt, List.getElem_set, List.getElem_map, List.getElem_range, endTo_succ, h]
  by_cases e : x = i
  · subst e; simp
  · rw [if_neg e]
    have : ((x : Int) != (i : Int)) = true := by simp; omega
    rw [this, Bool.and_true]
def procB (P X : List Int) : Bool := (X.length == P.length) && allB X (-999) 999
theorem procB_iff {P X : List Int} : procB P X = true ↔ X.length = P.length ∧ ∀ x ∈ X, -999 ≤ x ∧ x ≤ 999 := by
  simp only [procB, Bool.and_eq_true, beq_iff_eq, allB_iff]
theorem nth_bd {xs : List Int} {lo hi : Int} (h : ∀ x ∈ xs, lo ≤ x ∧ x ≤ hi) (h0 : lo ≤ 0) (h1 : 0 ≤ hi) (i : Nat) : lo ≤ nth xs i ∧ nth xs i ≤ hi := by
  by_cases hi : i < xs.length
  · exact h _ (nth_mem hi)
  · rw [nth_out (by omega)]; omega
end Go.Proofs.Ytojipjjfndgbhaa
