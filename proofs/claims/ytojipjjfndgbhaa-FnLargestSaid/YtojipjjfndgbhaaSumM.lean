import Derived.Test.YtojipjjfndgbhaaTreeM
/- Sums over trees: plain part. -/
set_option linter.unusedVariables false
namespace Go.Proofs.Ytojipjjfndgbhaa
open Go.ChangeShapes Go.WideShapes Go.ChangeAt Go.RowKit

theorem nth_set_same {xs : List Int} {i : Nat} (h : i < xs.length) (x : Int) : nth (xs.set i x) i = x := by simp [nth, h]
theorem nth_set_ne {xs : List Int} {i j : Nat} (h : i ≠ j) (x : Int) : nth (xs.set i x) j = nth xs j := by simp [nth, h]
/-- The ends among the first k nodes. -/
def endsTo (P : List Int) (k : Nat) : List Int := ((List.range k).filter (endB P)).map fun y : Nat => (y : Int)
def endsM (P : List Int) : List Int := endsTo P P.length
theorem endsTo_succ (P : List Int) (k : Nat) : endsTo P (k + 1) = if endB P k = true then endsTo P k ++ [(k : Int)] else endsTo P k := by
  rw [endsTo, List.range_succ, List.filter_append, List.map_append]
  by_cases h : endB P k = true
  · rw [if_pos h]; simp [h, endsTo]
  · rw [if_neg h]; simp [h, endsTo]
theorem endsTo_len (P : List Int) (k : Nat) : (endsTo P k).length ≤ k := by
  rw [endsTo, List.length_map]; exact Nat.le_trans (List.length_filter_le _ _) (by simp)
theorem ends_nth {P : List Int} {i : Nat} (h : i < (endsM P).length) : ∃ y : Nat, nth (endsM P) i = (y : Int) ∧ y < P.length ∧ endB P y = true := by
  have hm := nth_mem h
  simp only [endsM, endsTo, List.mem_map, List.mem_filter, List.mem_range] at hm
  obtain ⟨y, ⟨h1, h2⟩, h3⟩ := hm
  exact ⟨y, h3.symm, h1, h2⟩

/-- One step of the sums: node x adds its number to its parent's. -/
def gathS (P out : List Int) (x : Nat) : List Int := out.set (nth P x).toNat (nth out (nth P x).toNat + nth out x)
def gathTo (P a : List Int) : Nat → List Int
  | 0 => a
  | j + 1 => gathS P (gathTo P a j) (P.length - 1 - j)
def gathM (P a : List Int) : List Int := gathTo P a (P.length - 1)
theorem gathTo_len (P a : List Int) (j : Nat) : (gathTo P a j).length = a.length := by
  induction j with
  | zero => rfl
  | succ j ih => rw [gathTo, gathS, List.length_set, ih]

/-- The sum of the absolute values below k. -/
def absTo (xs : List Int) : Nat → Int
  | 0 => 0
  | k + 1 => absTo xs k + ((nth xs k).natAbs : Int)
theorem absTo_nn (xs : List Int) (k : Nat) : 0 ≤ absTo xs k := by
  induction k with
  | zero => simp [absTo]
  | succ k ih => simp only [absTo]; omega
theorem absTo_mono (xs : List Int) {k m : Nat} (h : k ≤ m) : absTo xs k ≤ absTo xs m := by
  induction m with
  | zero => obtain rfl : k = 0 := by omega
            exact Int.le_refl _
  | succ m ih =>
    by_cases e : k = m + 1
    · subst e; exact Int.le_refl _
    · have := ih (by omega); simp only [absTo]; omega
theorem absTo_at (xs : List Int) {i k : Nat} (h : i < k) : ((nth xs i).natAbs : Int) ≤ absTo xs k := by
  have := absTo_mono xs (show i + 1 ≤ k from h)
  have := absTo_nn xs i
  simp only [absTo] at *; omega
theorem absTo_set (xs : List Int) (p k : Nat) (v : Int) (hp : p < k) (hl : p < xs.length) : absTo (xs.set p v) k = absTo xs k - ((nth xs p).natAbs : Int) + (v.natAbs : Int) := by
  induction k with
  | zero => omega
  | succ k ih =>
    simp only [absTo]
    by_cases e : p = k
    · subst e
      have h : ∀ j, j ≤ p → absTo (xs.set p v) j = absTo xs j := by
        intro j hj
        induction j with
        | zero => rfl
        | succ j ih2 => simp only [absTo]; rw [ih2 (by omega), nth_set_ne (by omega)]
      rw [h p (Nat.le_refl _), nth_set_same hl]; omega
    · rw [ih (by omega), nth_set_ne e]; omega
theorem absTo_le {xs : List Int} {M : Int} (h : ∀ i, ((nth xs i).natAbs : Int) ≤ M) (k : Nat) : absTo xs k ≤ M * k := by
  induction k with
  | zero => simp [absTo]
  | succ k ih =>
    have h1 := h k
    have : M * ((k + 1 : Nat) : Int) = M * k + M := by rw [Int.natCast_add, Int.mul_add]; simp
    simp only [absTo]; omega
theorem natAbs_add_le (a b : Int) : ((a + b).natAbs : Int) ≤ (a.natAbs : Int) + (b.natAbs : Int) := by omega
theorem par_toNat {P : List Int} (h : parB P = true) {x : Nat} (hx : x < P.length) (h1 : 1 ≤ x) : ((nth P x).toNat : Int) = nth P x ∧ (nth P x).toNat < x := by
  have := (parB_iff.1 h).2 x hx h1; omega

/-- The bounds while sums are gathered. -/
theorem gathTo_abs {P a : List Int} (h : parB P = true) (hl : a.length = P.length) (j : Nat) (hj : j + 1 ≤ P.length) :
    absTo (gathTo P a j) (P.length - j) ≤ absTo a P.length ∧ ∀ i, ((nth (gathTo P a j) i).natAbs : Int) ≤ absTo a P.length := by
  induction j with
  | zero =>
    refine ⟨by simp [gathTo], fun i => ?_⟩
    by_cases hi : i < P.length
    · exact absTo_at a hi
    · rw [gathTo, nth_out (by omega)]; exact absTo_nn _ _
  | succ j ih =>
    obtain ⟨h1, h2⟩ := ih (by omega)
    have hp := par_toNat h (x := P.length - 1 - j) (by omega) (by omega)
    have hln := gathTo_len P a j
    have e : P.length - j = (P.length - 1 - j) + 1 := by omega
    rw [e] at h1
    simp only [absTo] at h1
    rw [gathTo, gathS]
    have e2 : P.length - (j + 1) = P.length - 1 - j := by omega
    rw [e2]
    have hs := absTo_set (gathTo P a j) (nth P (P.length - 1 - j)).toNat (P.length - 1 - j) (nth (gathTo P a j) (nth P (P.length - 1 - j)).toNat + nth (gathTo P a j) (P.length - 1 - j)) hp.2 (by omega)
    have hb := natAbs_add_le (nth (gathTo P a j) (nth P (P.length - 1 - j)).toNat) (nth (gathTo P a j) (P.length - 1 - j))
    have hc := absTo_at (gathTo P a j) hp.2
    refine ⟨by omega, fun i => ?_⟩
    by_cases e3 : (nth P (P.length - 1 - j)).toNat = i
    · rw [e3] at hb hc ⊢
      rw [nth_set_same (by omega)]; omega
    · rw [nth_set_ne e3]; exact h2 i

/-- Numbers of processed nodes stay. -/
theorem gathTo_stay {P a : List Int} (h : parB P = true) (j y : Nat) (hj : j + 1 < P.length) (hy : P.length - 1 - j ≤ y) : nth (gathTo P a (j + 1)) y = nth (gathTo P a j) y := by
  have hp := par_toNat h (x := P.length - 1 - j) (by omega) (by omega)
  rw [gathTo, gathS, nth_set_ne (by omega)]
theorem gathTo_final {P a : List Int} (h : parB P = true) (j y : Nat) (hj : j + 1 ≤ P.length) (hy : P.length - 1 - j ≤ y) : nth (gathM P a) y = nth (gathTo P a j) y := by
  have key : ∀ k, j + k + 1 ≤ P.length → nth (gathTo P a (j + k)) y = nth (gathTo P a j) y := by
    intro k
    induction k with
    | zero => intro _; rfl
    | succ k ih => intro hk; rw [← Nat.add_assoc, gathTo_stay h (j + k) y (by omega) (by omega), ih (by omega)]
  have := key (P.length - 1 - j) (by omega)
  rw [gathM, ← this]; congr 2; omega
/-- The sum of the children's numbers, of the last j nodes. -/
def kidSum (P : List Int) (F : Nat → Int) (z : Nat) : Nat → Int
  | 0 => 0
  | j + 1 => kidSum P F z j + if nth P (P.length - 1 - j) = (z : Int) then F (P.length - 1 - j) else 0
theorem gathTo_rec {P a : List Int} (h : parB P = true) (hl : a.length = P.length) (z : Nat) (hz : z < P.length) (j : Nat) (hj : j + 1 ≤ P.length) :
    nth (gathTo P a j) z = nth a z + kidSum P (nth (gathM P a)) z j := by
  induction j with
  | zero => simp [gathTo, kidSum]
  | succ j ih =>
    have hp := par_toNat h (x := P.length - 1 - j) (by omega) (by omega)
    have hf := gathTo_final (a := a) h j (P.length - 1 - j) (by omega) (Nat.le_refl _)
    have hln := gathTo_len P a j
    rw [gathTo, gathS, kidSum]
    by_cases e : nth P (P.length - 1 - j) = (z : Int)
    · have e2 : (nth P (P.length - 1 - j)).toNat = z := by omega
      rw [if_pos e, e2, nth_set_same (by omega), hf, ih (by omega)]; omega
    · rw [if_neg e, nth_set_ne (by omega), ih (by omega)]; omega
/-- What the sums are: each node's own number and those of its children. -/
theorem gath_rec {P a : List Int} (h : parB P = true) (hl : a.length = P.length) (z : Nat) (hz : z < P.length) : nth (gathM P a) z = nth a z + kidSum P (nth (gathM P a)) z (P.length - 1) := by
  have := gathTo_rec h hl z hz (P.length - 1) (by omega)
  rw [← this]; rfl
theorem kidSum_nn {P : List Int} {F : Nat → Int} {z : Nat} (h : ∀ y, z < y → y < P.length → 0 ≤ F y) (hp : parB P = true) (j : Nat) (hj : j + 1 ≤ P.length) : 0 ≤ kidSum P F z j := by
  induction j with
  | zero => simp [kidSum]
  | succ j ih =>
    have := ih (by omega)
    simp only [kidSum]
    split
    · rename_i e; have := h _ (par_lt hp (by omega) e) (by omega); omega
    · omega
theorem kidSum_ge {P : List Int} {F : Nat → Int} {z y : Nat} (h : ∀ y, z < y → y < P.length → 0 ≤ F y) (hp : parB P = true) (j : Nat) (hj : j + 1 ≤ P.length) (hy : P.length - j ≤ y) (hy2 : y < P.length) (e : nth P y = (z : Int)) : F y ≤ kidSum P F z j := by
  induction j with
  | zero => omega
  | succ j ih =>
    simp only [kidSum]
    by_cases hb : y = P.length - 1 - j
    · subst hb; rw [if_pos e]; have := kidSum_nn h hp j (by omega); omega
    · have := ih (by omega) (by omega)
      split
      · rename_i e2; have := h _ (par_lt hp (by omega) e2) (by omega); omega
      · omega
/-- The sums of weights of a valid tree are greater than 0. -/
theorem sums_pos {P W : List Int} (h : treeB P W = true) : ∀ x, x < P.length → 1 ≤ nth (gathM P W) x := by
  obtain ⟨h1, h2, h3, h4⟩ := treeB_iff.1 h
  have key : ∀ d x, x < P.length → P.length - x ≤ d → 1 ≤ nth (gathM P W) x := by
    intro d
    induction d with
    | zero => intro x hx hd; omega
    | succ d ih =>
      intro x hx hd
      have hF : ∀ y, x < y → y < P.length → 0 ≤ nth (gathM P W) y := fun y hy hy2 => by have := ih y hy2 (by omega); omega
      rw [gath_rec h3 h2 x hx]
      have hn := kidSum_nn hF h3 (P.length - 1) (by omega)
      obtain ⟨w1, w2, w3⟩ := weiOk_bd (h4 x hx)
      cases he : endB P x
      · have hne : ¬ endTo P x P.length = true := by rw [← endB, he]; simp
        rw [endTo_iff] at hne
        simp only [Classical.not_forall, Classical.not_not] at hne
        obtain ⟨y, hy, hy2⟩ := hne
        have hlt := par_lt h3 hy hy2
        have := kidSum_ge hF h3 (P.length - 1) (by omega) (by omega) hy hy2
        have := ih y hy (by omega)
        omega
      · have := w3.1 he; omega
  intro x hx
  exact key _ x hx (Nat.le_refl _)
theorem sums_le {P W : List Int} (h : treeB P W = true) (x : Nat) : ((nth (gathM P W) x).natAbs : Int) ≤ 480 := by
  obtain ⟨h1, h2, h3, h4⟩ := treeB_iff.1 h
  have hb := (gathTo_abs h3 h2 (P.length - 1) (by omega)).2 x
  have ha := absTo_le (xs := W) (M := 20) (fun i => by have := tree_wei h i; omega) P.length
  have : (20 : Int) * P.length ≤ 480 := by omega
  rw [gathM]; omega
end Go.Proofs.Ytojipjjfndgbhaa
