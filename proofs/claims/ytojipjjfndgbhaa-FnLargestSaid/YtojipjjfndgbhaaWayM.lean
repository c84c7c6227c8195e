import Derived.Test.YtojipjjfndgbhaaSumM
/- Ways from the root, and what is greatest on them. Plain part. -/
set_option linter.unusedVariables false
namespace Go.Proofs.Ytojipjjfndgbhaa
open Go.ChangeShapes Go.WideShapes Go.ChangeAt Go.RowKit
def par (P : List Int) (x : Nat) : Nat := (nth P x).toNat
theorem par_of {P : List Int} (h : parB P = true) {x : Nat} (hx : x < P.length) (h1 : 1 ≤ x) : nth P x = (par P x : Nat) ∧ par P x < x := by
  have := par_toNat h hx h1
  exact ⟨this.1.symm, this.2⟩
/-- The nodes from a node up to the root. -/
def upF (P : List Int) : Nat → Nat → List Int
  | 0, x => [(x : Int)]
  | f + 1, x => if x = 0 then [0] else (x : Int) :: upF P f (par P x)
def upM (P : List Int) (x : Nat) : List Int := upF P x x
def wayM (P : List Int) (x : Nat) : List Int := (upM P x).reverse
theorem upF_eq {P : List Int} (h : parB P = true) : ∀ (f x : Nat), x < P.length → x ≤ f → upF P f x = upM P x
  | 0, x, _, hf => by obtain rfl : x = 0 := by omega
                      rfl
  | f + 1, x, hx, hf => by
    by_cases h0 : x = 0
    · subst h0; rfl
    · obtain ⟨y, rfl⟩ : ∃ y, x = y + 1 := ⟨x - 1, by omega⟩
      have hp := (par_of h hx (by omega)).2
      rw [upM, upF, upF, if_neg h0, if_neg h0, upF_eq h f _ (by omega) (by omega), upF_eq h y _ (by omega) (by omega)]
theorem upM_zero (P : List Int) : upM P 0 = [0] := rfl
theorem upM_succ {P : List Int} (h : parB P = true) {x : Nat} (hx : x < P.length) (h1 : 1 ≤ x) : upM P x = (x : Int) :: upM P (par P x) := by
  obtain ⟨y, rfl⟩ : ∃ y, x = y + 1 := ⟨x - 1, by omega⟩
  have hp := (par_of h hx h1).2
  rw [upM, upF, if_neg (by omega), upF_eq h y _ (by omega) (by omega)]
theorem wayM_zero (P : List Int) : wayM P 0 = [0] := rfl
theorem wayM_succ {P : List Int} (h : parB P = true) {x : Nat} (hx : x < P.length) (h1 : 1 ≤ x) : wayM P x = wayM P (par P x) ++ [(x : Int)] := by
  rw [wayM, upM_succ h hx h1, List.reverse_cons]; rfl
theorem upM_len {P : List Int} (h : parB P = true) : ∀ (f x : Nat), x ≤ f → x < P.length → 1 ≤ (upM P x).length ∧ (upM P x).length ≤ x + 1
  | 0, x, hf, _ => by obtain rfl : x = 0 := by omega
                      simp [upM_zero]
  | f + 1, x, hf, hx => by
    by_cases h0 : x = 0
    · subst h0; simp [upM_zero]
    · have hp := (par_of h hx (by omega)).2
      have := upM_len h f _ (show par P x ≤ f by omega) (by omega)
      rw [upM_succ h hx (by omega), List.length_cons]; omega
theorem wayM_len {P : List Int} (h : parB P = true) {x : Nat} (hx : x < P.length) : 1 ≤ (wayM P x).length ∧ (wayM P x).length ≤ x + 1 := by
  rw [wayM, List.length_reverse]; exact upM_len h x x (Nat.le_refl _) hx
/-- All of a way are nodes. -/
theorem upM_mem {P : List Int} (h : parB P = true) : ∀ (f x : Nat), x ≤ f → x < P.length → ∀ z ∈ upM P x, 0 ≤ z ∧ z < P.length
  | 0, x, hf, hx => by
    obtain rfl : x = 0 := by omega
    intro z hz; simp [upM_zero] at hz; omega
  | f + 1, x, hf, hx => by
    by_cases h0 : x = 0
    · subst h0; intro z hz; simp [upM_zero] at hz; omega
    · have hp := (par_of h hx (by omega)).2
      intro z hz
      rw [upM_succ h hx (by omega)] at hz
      rcases List.mem_cons.1 hz with rfl | hz
      · omega
      · exact upM_mem h f _ (by omega) (by omega) z hz
theorem wayM_nth {P : List Int} (h : parB P = true) {x : Nat} (hx : x < P.length) {i : Nat} (hi : i < (wayM P x).length) : ∃ y : Nat, nth (wayM P x) i = (y : Int) ∧ y < P.length := by
  have hm := nth_mem hi
  rw [wayM, List.mem_reverse] at hm
  have := upM_mem h x x (Nat.le_refl _) hx _ hm
  exact ⟨(nth (wayM P x) i).toNat, by rw [wayM]; omega, by rw [wayM]; omega⟩
/-- What is reversed already. -/
def revT (xs : List Int) (n i : Nat) : List Int := (List.range n).map fun k => if k < i ∨ n - 1 - i < k then nth xs (n - 1 - k) else nth xs k
theorem revT_len (xs : List Int) (n i : Nat) : (revT xs n i).length = n := by simp [revT]
theorem revT_nth {xs : List Int} {n i k : Nat} (h : k < n) : nth (revT xs n i) k = if k < i ∨ n - 1 - i < k then nth xs (n - 1 - k) else nth xs k := by simp [nth, revT, h]
theorem nth_ext {xs ys : List Int} (hl : xs.length = ys.length) (h : ∀ i, i < xs.length → nth xs i = nth ys i) : xs = ys := by
  apply List.ext_getElem hl
  intro i h1 h2
  have := h i h1
  rwa [nth_eq h1, nth_eq h2] at this
theorem revT_zero {xs : List Int} {n : Nat} (hl : xs.length = n) : revT xs n 0 = xs :=
  nth_ext (by rw [revT_len, hl]) fun k hk => by
    rw [revT_len] at hk
    rw [revT_nth hk, if_neg (by omega)]
theorem revT_step {xs : List Int} {n i j : Nat} (hj : j = n - 1 - i) (hij : i < j) : ((revT xs n i).set i (nth xs j)).set j (nth xs i) = revT xs n (i + 1) := by
  refine nth_ext (by simp [revT_len]) fun k hk => ?_
  simp only [List.length_set, revT_len] at hk
  rw [revT_nth hk]
  by_cases e1 : k = j
  · subst e1
    rw [nth_set_same (by simp [revT_len]; omega), if_pos (by omega)]
    congr 1; omega
  · rw [nth_set_ne (by omega)]
    by_cases e2 : k = i
    · subst e2
      rw [nth_set_same (by simp [revT_len]; omega), if_pos (by omega)]
      congr 1
    · rw [nth_set_ne (by omega), revT_nth hk]
      by_cases e3 : k < i ∨ n - 1 - i < k
      · rw [if_pos e3, if_pos (by omega)]
      · rw [if_neg e3, if_neg (by omega)]
theorem revT_done {xs : List Int} {n i : Nat} (hl : xs.length = n) (hi : n ≤ 2 * i + 1) : revT xs n i = xs.reverse :=
  nth_ext (by rw [revT_len, List.length_reverse, hl]) fun k hk => by
    rw [revT_len] at hk
    rw [revT_nth hk]
    have e : nth xs.reverse k = nth xs (n - 1 - k) := by
      unfold nth
      rw [List.getElem?_reverse (by omega), hl]
    rw [e]
    by_cases h : k < i ∨ n - 1 - i < k
    · rw [if_pos h]
    · rw [if_neg h]
      congr 1; omega
/-- The greatest number on the way to a node. -/
def topF (P X : List Int) : Nat → Nat → Int
  | 0, x => nth X x
  | f + 1, x => if x = 0 then nth X 0 else max (topF P X f (par P x)) (nth X x)
def topM (P X : List Int) (x : Nat) : Int := topF P X x x
theorem topF_eq {P X : List Int} (h : parB P = true) : ∀ (f x : Nat), x < P.length → x ≤ f → topF P X f x = topM P X x
  | 0, x, _, hf => by obtain rfl : x = 0 := by omega
                      rfl
  | f + 1, x, hx, hf => by
    by_cases h0 : x = 0
    · subst h0; rfl
    · obtain ⟨y, rfl⟩ : ∃ y, x = y + 1 := ⟨x - 1, by omega⟩
      have hp := (par_of h hx (by omega)).2
      rw [topM, topF, topF, if_neg h0, if_neg h0, topF_eq h f _ (by omega) (by omega), topF_eq h y _ (by omega) (by omega)]
theorem topM_zero (P X : List Int) : topM P X 0 = nth X 0 := rfl
theorem topM_succ {P X : List Int} (h : parB P = true) {x : Nat} (hx : x < P.length) (h1 : 1 ≤ x) : topM P X x = max (topM P X (par P x)) (nth X x) := by
  obtain ⟨y, rfl⟩ : ∃ y, x = y + 1 := ⟨x - 1, by omega⟩
  have hp := (par_of h hx h1).2
  rw [topM, topF, if_neg (by omega), topF_eq h y _ (by omega) (by omega)]
theorem topM_bd {P X : List Int} (h : parB P = true) {lo hi : Int} (hX : ∀ i, lo ≤ nth X i ∧ nth X i ≤ hi) : ∀ (f x : Nat), x ≤ f → x < P.length → lo ≤ topM P X x ∧ topM P X x ≤ hi ∧ nth X 0 ≤ topM P X x
  | 0, x, hf, hx => by
    obtain rfl : x = 0 := by omega
    rw [topM_zero]; have := hX 0; omega
  | f + 1, x, hf, hx => by
    by_cases h0 : x = 0
    · subst h0; rw [topM_zero]; have := hX 0; omega
    · have hp := (par_of h hx (by omega)).2
      have := topM_bd h hX f _ (show par P x ≤ f by omega) (by omega)
      have := hX x
      rw [topM_succ h hx (by omega)]; omega
/-- The greatest of the first k numbers on a list of nodes, and of a. -/
def mxTo (X L : List Int) (a : Int) : Nat → Int
  | 0 => a
  | k + 1 => max (mxTo X L a k) (nth X (nth L k).toNat)
theorem mxTo_app (X L M : List Int) (a : Int) : ∀ k, k ≤ L.length → mxTo X (L ++ M) a k = mxTo X L a k
  | 0, _ => rfl
  | k + 1, h => by
    rw [mxTo, mxTo, mxTo_app X L M a k (by omega)]
    congr 3
    unfold nth
    rw [List.getElem?_append_left (by omega)]
theorem mx_way {P X : List Int} (h : parB P = true) (a : Int) : ∀ (f x : Nat), x ≤ f → x < P.length → mxTo X (wayM P x) a (wayM P x).length = max a (topM P X x)
  | 0, x, hf, hx => by
    obtain rfl : x = 0 := by omega
    rw [wayM_zero, topM_zero]; rfl
  | f + 1, x, hf, hx => by
    by_cases h0 : x = 0
    · subst h0; rw [wayM_zero, topM_zero]; rfl
    · have hp := (par_of h hx (by omega)).2
      have ih := mx_way (X := X) h a f _ (show par P x ≤ f by omega) (by omega)
      rw [wayM_succ h hx (by omega), topM_succ h hx (by omega), List.length_append, List.length_singleton, mxTo, mxTo_app _ _ _ _ _ (Nat.le_refl _), ih]
      have e : nth (wayM P (par P x) ++ [(x : Int)]) (wayM P (par P x)).length = (x : Int) := by simp [nth]
      rw [e, Int.toNat_natCast]; omega
theorem mx_bd {X L : List Int} {lo hi a : Int} (hX : ∀ i, lo ≤ nth X i ∧ nth X i ≤ hi) (ha : lo ≤ a ∧ a ≤ hi) : ∀ k, lo ≤ mxTo X L a k ∧ mxTo X L a k ≤ hi
  | 0 => ha
  | k + 1 => by have := mx_bd (L := L) hX ha k; have := hX (nth L k).toNat; rw [mxTo]; omega
end Go.Proofs.Ytojipjjfndgbhaa
