import Derived.Test.YtojipjjfndgbhaaZH02
/- Trees as lists of parents and weights: plain part. -/
set_option linter.unusedVariables false
namespace Go.Proofs.Ytojipjjfndgbhaa
open Go.ChangeShapes Go.WideShapes Go.ChangeAt Go.RowKit

/-- Node x is no parent of one of the first k nodes. -/
def endTo (P : List Int) (x k : Nat) : Bool := (List.range k).all fun y => nth P y != (x : Int)
def endB (P : List Int) (x : Nat) : Bool := endTo P x P.length
theorem endTo_iff {P : List Int} {x k : Nat} : endTo P x k = true ↔ ∀ y, y < k → nth P y ≠ (x : Int) := by simp [endTo]
theorem endTo_succ (P : List Int) (x k : Nat) : endTo P x (k + 1) = (endTo P x k && (nth P k != (x : Int))) := by
  simp [endTo, List.range_succ]
/-- The children of a node among those below k. -/
def kidsTo (P : List Int) (x k : Nat) : List Int := ((List.range k).filter fun y => nth P y == (x : Int)).map fun y : Nat => (y : Int)
theorem kidsTo_succ (P : List Int) (x k : Nat) : kidsTo P x (k + 1) = if nth P k = (x : Int) then kidsTo P x k ++ [(k : Int)] else kidsTo P x k := by
  rw [kidsTo, List.range_succ, List.filter_append, List.map_append]
  by_cases h : nth P k = (x : Int)
  · rw [if_pos h]; simp [h, kidsTo]
  · rw [if_neg h]; simp [h, kidsTo]
theorem kidsTo_len (P : List Int) (x k : Nat) : (kidsTo P x k).length ≤ k := by
  rw [kidsTo, List.length_map]; exact Nat.le_trans (List.length_filter_le _ _) (by simp)
theorem kidsTo_nil (P : List Int) (x k : Nat) : kidsTo P x k = [] ↔ endTo P x k = true := by
  induction k with
  | zero => simp [kidsTo, endTo]
  | succ k ih =>
    rw [kidsTo_succ, endTo_succ]
    by_cases h : nth P k = (x : Int)
    · rw [if_pos h]; simp [h]
    · rw [if_neg h, ih]; simp [h]
def parOk (P : List Int) (x : Nat) : Bool := inB (nth P x) 0 ((x : Int) - 1)
def parB (P : List Int) : Bool := (nth P 0 == -1) && (List.range P.length).all fun x => x == 0 || parOk P x
theorem parB_iff {P : List Int} : parB P = true ↔ nth P 0 = -1 ∧ ∀ x, x < P.length → 1 ≤ x → 0 ≤ nth P x ∧ nth P x ≤ (x : Int) - 1 := by
  simp only [parB, Bool.and_eq_true, beq_iff_eq, List.all_eq_true, List.mem_range, Bool.or_eq_true, parOk, inB_iff]
  exact ⟨fun ⟨h1, h2⟩ => ⟨h1, fun x hx h => by rcases h2 x hx with h3 | h3; (· omega); (· exact h3)⟩, fun ⟨h1, h2⟩ => ⟨h1, fun x hx => by by_cases h : x = 0; (· exact .inl h); (· exact .inr (h2 x hx (by omega)))⟩⟩
theorem parB_no {P : List Int} {x : Nat} (hx : x < P.length) (h1 : 1 ≤ x) (h : parOk P x = false) : parB P = false := by
  rw [Bool.eq_false_iff]; intro hp
  have := (parB_iff.1 hp).2 x hx h1
  rw [parOk, inB_no] at h; exact h this
theorem parB_no0 {P : List Int} (h : nth P 0 ≠ -1) : parB P = false := by
  rw [Bool.eq_false_iff]; intro hp; exact h (parB_iff.1 hp).1
/-- The parents of a valid tree lie before their children. -/
theorem par_lt {P : List Int} (h : parB P = true) {x y : Nat} (hy : y < P.length) (e : nth P y = (x : Int)) : x < y := by
  by_cases h0 : y = 0
  · subst h0; have := (parB_iff.1 h).1; omega
  · have := (parB_iff.1 h).2 y hy (by omega); omega
theorem kidsTo_from {P : List Int} (h : parB P = true) {x k : Nat} (hk : k ≤ x + 1) (hn : k ≤ P.length) : kidsTo P x k = [] := by
  rw [kidsTo_nil, endTo_iff]; intro y hy e
  have := par_lt h (by omega) e; omega
def weiOk (P W : List Int) (x : Nat) : Bool := bif endB P x then inB (nth W x) 1 20 else nth W x == 0
def treeB (P W : List Int) : Bool := inB P.length 1 24 && (W.length == P.length) && parB P && (List.range P.length).all (weiOk P W)
theorem treeB_iff {P W : List Int} : treeB P W = true ↔ (1 ≤ P.length ∧ P.length ≤ 24) ∧ W.length = P.length ∧ parB P = true ∧ ∀ x, x < P.length → weiOk P W x = true := by
  simp only [treeB, Bool.and_eq_true, inB_iff, beq_iff_eq, List.all_eq_true, List.mem_range]
  exact ⟨fun ⟨⟨⟨h1, h2⟩, h3⟩, h4⟩ => ⟨by omega, h2, h3, h4⟩, fun ⟨h1, h2, h3, h4⟩ => ⟨⟨⟨by omega, h2⟩, h3⟩, h4⟩⟩
theorem treeB_noLen {P W : List Int} (h : inB P.length 1 24 = false) : treeB P W = false := by rw [treeB, h]; rfl
theorem treeB_noW {P W : List Int} (h : W.length ≠ P.length) : treeB P W = false := by rw [treeB, beq_eq_false_iff_ne.2 h]; simp
theorem treeB_noPar {P W : List Int} (h : parB P = false) : treeB P W = false := by rw [treeB, h]; simp
theorem treeB_noWei {P W : List Int} {x : Nat} (hx : x < P.length) (h : weiOk P W x = false) : treeB P W = false := by
  rw [Bool.eq_false_iff]; intro hp; rw [(treeB_iff.1 hp).2.2.2 x hx] at h; cases h
theorem weiOk_bd {P W : List Int} {x : Nat} (h : weiOk P W x = true) : 0 ≤ nth W x ∧ nth W x ≤ 20 ∧ (endB P x = true ↔ 0 < nth W x) := by
  unfold weiOk at h
  cases he : endB P x
  · rw [he] at h; simp at h; simp [h]
  · rw [he] at h
    have h' : inB (nth W x) 1 20 = true := h
    rw [inB_iff] at h'
    refine ⟨by omega, h'.2, ?_⟩
    simp; omega
theorem tree_wei {P W : List Int} (h : treeB P W = true) (x : Nat) : 0 ≤ nth W x ∧ nth W x ≤ 20 := by
  obtain ⟨h1, h2, h3, h4⟩ := treeB_iff.1 h
  by_cases hx : x < P.length
  · have := weiOk_bd (h4 x hx); omega
  · rw [nth_out (by omega)]; omega
/-- What isEnd writes: k parents are read. -/
def endsAt (P : List Int) (k : Nat) : List Bool := (List.range P.length).map fun x => endTo P x k
theorem endsAt_len (P : List Int) (k : Nat) : (endsAt P k).length = P.length := by simp [endsAt]
theorem endsAt_nth (P : List Int) (k x : Nat) (h : x < P.length) : nthB (endsAt P k) x = endTo P x k := by simp [nthB, endsAt, h]
theorem endsAt_zero (P : List Int) : endsAt P 0 = List.replicate P.length true := by
  apply List.ext_getElem (by simp [endsAt]); intro i h1 h2; simp [endsAt, endTo]
theorem endsAt_skip {P : List Int} {k : Nat} (h : nth P k < 0) : endsAt P (k + 1) = endsAt P k := by
  apply List.ext_getElem (by simp [endsAt]); intro i h1 h2
  simp only [endsAt, List.getElem_map, List.getElem_range, endTo_succ]
  have : (nth P k != (i : Int)) = true := by simp; omega
  rw [this, Bool.and_true]
theorem endsAt_set {P : List Int} {k x : Nat} (h : nth P k = (x : Int)) (hx : x < P.length) : (endsAt P k).set x false = endsAt P (k + 1) := by
  apply List.ext_getElem (by simp [endsAt]); intro i h1 h2
  simp only [endsAt, List.getElem_set, List.getElem_map, List.getElem_range, endTo_succ, h]
  by_cases e : x = i
  · subst e; simp
  · rw [if_neg e]
    have : ((x : Int) != (i : Int)) = true := by simp; omega
    rw [this, Bool.and_true]
def procB (P X : List Int) : Bool := (X.length == P.length) && allB X (-999) 999
theorem procB_iff {P X : List Int} : procB P X = true ↔ X.length = P.length ∧ ∀ x ∈ X, -999 ≤ x ∧ x ≤ 999 := by
  simp only [procB, Bool.and_eq_true, beq_iff_eq, allB_iff]
theorem nth_bd {xs : List Int} {lo hi : Int} (h : ∀ x ∈ xs, lo ≤ x ∧ x ≤ hi) (h0 : lo ≤ 0) (h1 : 0 ≤ hi) (i : Nat) : lo ≤ nth xs i ∧ nth xs i ≤ hi := by
  by_cases hi : i < xs.length
  · exact h _ (nth_mem hi)
  · rw [nth_out (by omega)]; omega
end Go.Proofs.Ytojipjjfndgbhaa
/- Sums over trees: plain part. -/
set_option linter.unusedVariables false
namespace Go.Proofs.Ytojipjjfndgbhaa
open Go.ChangeShapes Go.WideShapes Go.ChangeAt Go.RowKit

theorem nth_set_same {xs : List Int} {i : Nat} (h : i < xs.length) (x : Int) : nth (xs.set i x) i = x := by simp [nth, h]
theorem nth_set_ne {xs : List Int} {i j : Nat} (h : i ≠ j) (x : Int) : nth (xs.set i x) j = nth xs j := by simp [nth, h]
/-- The ends among the first k nodes. -/
def endsTo (P : List Int) (k : Nat) : List Int := ((List.range k).filter (endB P)).map fun y : Nat => (y : Int)
def endsM (P : List Int) : List Int := endsTo P P.length
theorem endsTo_succ (P : List Int) (k : Nat) : endsTo P (k + 1) = if endB P k = true then endsTo P k ++ [(k : Int)] else endsTo P k := by
  rw [endsTo, List.range_succ, List.filter_append, List.map_append]
  by_cases h : endB P k = true
  · rw [if_pos h]; simp [h, endsTo]
  · rw [if_neg h]; simp [h, endsTo]
theorem endsTo_len (P : List Int) (k : Nat) : (endsTo P k).length ≤ k := by
  rw [endsTo, List.length_map]; exact Nat.le_trans (List.length_filter_le _ _) (by simp)
theorem ends_nth {P : List Int} {i : Nat} (h : i < (endsM P).length) : ∃ y : Nat, nth (endsM P) i = (y : Int) ∧ y < P.length ∧ endB P y = true := by
  have hm := nth_mem h
  simp only [endsM, endsTo, List.mem_map, List.mem_filter, List.mem_range] at hm
  obtain ⟨y, ⟨h1, h2⟩, h3⟩ := hm
  exact ⟨y, h3.symm, h1, h2⟩

/-- One step of the sums: node x adds its number to its parent's. -/
def gathS (P out : List Int) (x : Nat) : List Int := out.set (nth P x).toNat (nth out (nth P x).toNat + nth out x)
def gathTo (P a : List Int) : Nat → List Int
  | 0 => a
  | j + 1 => gathS P (gathTo P a j) (P.length - 1 - j)
def gathM (P a : List Int) : List Int := gathTo P a (P.length - 1)
theorem gathTo_len (P a : List Int) (j : Nat) : (gathTo P a j).length = a.length := by
  induction j with
  | zero => rfl
  | succ j ih => rw [gathTo, gathS, List.length_set, ih]

/-- The sum of the absolute values below k. -/
def absTo (xs : List Int) : Nat → Int
  | 0 => 0
  | k + 1 => absTo xs k + ((nth xs k).natAbs : Int)
theorem absTo_nn (xs : List Int) (k : Nat) : 0 ≤ absTo xs k := by
  induction k with
  | zero => simp [absTo]
  | succ k ih => simp only [absTo]; omega
theorem absTo_mono (xs : List Int) {k m : Nat} (h : k ≤ m) : absTo xs k ≤ absTo xs m := by
  induction m with
  | zero => obtain rfl : k = 0 := by omega
            exact Int.le_refl _
  | succ m ih =>
    by_cases e : k = m + 1
    · subst e; exact Int.le_refl _
    · have := ih (by omega); simp only [absTo]; omega
theorem absTo_at (xs : List Int) {i k : Nat} (h : i < k) : ((nth xs i).natAbs : Int) ≤ absTo xs k := by
  have := absTo_mono xs (show i + 1 ≤ k from h)
  have := absTo_nn xs i
  simp only [absTo] at *; omega
theorem absTo_set (xs : List Int) (p k : Nat) (v : Int) (hp : p < k) (hl : p < xs.length) : absTo (xs.set p v) k = absTo xs k - ((nth xs p).natAbs : Int) + (v.natAbs : Int) := by
  induction k with
  | zero => omega
  | succ k ih =>
    simp only [absTo]
    by_cases e : p = k
    · subst e
      have h : ∀ j, j ≤ p → absTo (xs.set p v) j = absTo xs j := by
        intro j hj
        induction j with
        | zero => rfl
        | succ j ih2 => simp only [absTo]; rw [ih2 (by omega), nth_set_ne (by omega)]
      rw [h p (Nat.le_refl _), nth_set_same hl]; omega
    · rw [ih (by omega), nth_set_ne e]; omega
theorem absTo_le {xs : List Int} {M : Int} (h : ∀ i, ((nth xs i).natAbs : Int) ≤ M) (k : Nat) : absTo xs k ≤ M * k := by
  induction k with
  | zero => simp [absTo]
  | succ k ih =>
    have h1 := h k
    have : M * ((k + 1 : Nat) : Int) = M * k + M := by rw [Int.natCast_add, Int.mul_add]; simp
    simp only [absTo]; omega
theorem natAbs_add_le (a b : Int) : ((a + b).natAbs : Int) ≤ (a.natAbs : Int) + (b.natAbs : Int) := by omega
theorem par_toNat {P : List Int} (h : parB P = true) {x : Nat} (hx : x < P.length) (h1 : 1 ≤ x) : ((nth P x).toNat : Int) = nth P x ∧ (nth P x).toNat < x := by
  have := (parB_iff.1 h).2 x hx h1; omega

/-- The bounds while sums are gathered. -/
theorem gathTo_abs {P a : List Int} (h : parB P = true) (hl : a.length = P.length) (j : Nat) (hj : j + 1 ≤ P.length) :
    absTo (gathTo P a j) (P.length - j) ≤ absTo a P.length ∧ ∀ i, ((nth (gathTo P a j) i).natAbs : Int) ≤ absTo a P.length := by
  induction j with
  | zero =>
    refine ⟨by simp [gathTo], fun i => ?_⟩
    by_cases hi : i < P.length
    · exact absTo_at a hi
    · rw [gathTo, nth_out (by omega)]; exact absTo_nn _ _
  | succ j ih =>
    obtain ⟨h1, h2⟩ := ih (by omega)
    have hp := par_toNat h (x := P.length - 1 - j) (by omega) (by omega)
    have hln := gathTo_len P a j
    have e : P.length - j = (P.length - 1 - j) + 1 := by omega
    rw [e] at h1
    simp only [absTo] at h1
    rw [gathTo, gathS]
    have e2 : P.length - (j + 1) = P.length - 1 - j := by omega
    rw [e2]
    have hs := absTo_set (gathTo P a j) (nth P (P.length - 1 - j)).toNat (P.length - 1 - j) (nth (gathTo P a j) (nth P (P.length - 1 - j)).toNat + nth (gathTo P a j) (P.length - 1 - j)) hp.2 (by omega)
    have hb := natAbs_add_le (nth (gathTo P a j) (nth P (P.length - 1 - j)).toNat) (nth (gathTo P a j) (P.length - 1 - j))
    have hc := absTo_at (gathTo P a j) hp.2
    refine ⟨by omega, fun i => ?_⟩
    by_cases e3 : (nth P (P.length - 1 - j)).toNat = i
    · rw [e3] at hb hc ⊢
      rw [nth_set_same (by omega)]; omega
    · rw [nth_set_ne e3]; exact h2 i

/-- Numbers of processed nodes stay. -/
theorem gathTo_stay {P a : List Int} (h : parB P = true) (j y : Nat) (hj : j + 1 < P.length) (hy : P.length - 1 - j ≤ y) : nth (gathTo P a (j + 1)) y = nth (gathTo P a j) y := by
  have hp := par_toNat h (x := P.length - 1 - j) (by omega) (by omega)
  rw [gathTo, gathS, nth_set_ne (by omega)]
theorem gathTo_final {P a : List Int} (h : parB P = true) (j y : Nat) (hj : j + 1 ≤ P.length) (hy : P.length - 1 - j ≤ y) : nth (gathM P a) y = nth (gathTo P a j) y := by
  have key : ∀ k, j + k + 1 ≤ P.length → nth (gathTo P a (j + k)) y = nth (gathTo P a j) y := by
    intro k
    induction k with
    | zero => intro _; rfl
    | succ k ih => intro hk; rw [← Nat.add_assoc, gathTo_stay h (j + k) y (by omega) (by omega), ih (by omega)]
  have := key (P.length - 1 - j) (by omega)
  rw [gathM, ← this]; congr 2; omega
/-- The sum of the children's numbers, of the last j nodes. -/
def kidSum (P : List Int) (F : Nat → Int) (z : Nat) : Nat → Int
  | 0 => 0
  | j + 1 => kidSum P F z j + if nth P (P.length - 1 - j) = (z : Int) then F (P.length - 1 - j) else 0
theorem gathTo_rec {P a : List Int} (h : parB P = true) (hl : a.length = P.length) (z : Nat) (hz : z < P.length) (j : Nat) (hj : j + 1 ≤ P.length) :
    nth (gathTo P a j) z = nth a z + kidSum P (nth (gathM P a)) z j := by
  induction j with
  | zero => simp [gathTo, kidSum]
  | succ j ih =>
    have hp := par_toNat h (x := P.length - 1 - j) (by omega) (by omega)
    have hf := gathTo_final (a := a) h j (P.length - 1 - j) (by omega) (Nat.le_refl _)
    have hln := gathTo_len P a j
    rw [gathTo, gathS, kidSum]
    by_cases e : nth P (P.length - 1 - j) = (z : Int)
    · have e2 : (nth P (P.length - 1 - j)).toNat = z := by omega
      rw [if_pos e, e2, nth_set_same (by omega), hf, ih (by omega)]; omega
    · rw [if_neg e, nth_set_ne (by omega), ih (by omega)]; omega
/-- What the sums are: each node's own number and those of its children. -/
theorem gath_rec {P a : List Int} (h : parB P = true) (hl : a.length = P.length) (z : Nat) (hz : z < P.length) : nth (gathM P a) z = nth a z + kidSum P (nth (gathM P a)) z (P.length - 1) := by
  have := gathTo_rec h hl z hz (P.length - 1) (by omega)
  rw [← this]; rfl
theorem kidSum_nn {P : List Int} {F : Nat → Int} {z : Nat} (h : ∀ y, z < y → y < P.length → 0 ≤ F y) (hp : parB P = true) (j : Nat) (hj : j + 1 ≤ P.length) : 0 ≤ kidSum P F z j := by
  induction j with
  | zero => simp [kidSum]
  | succ j ih =>
    have := ih (by omega)
    simp only [kidSum]
    split
    · rename_i e; have := h _ (par_lt hp (by omega) e) (by omega); omega
    · omega
theorem kidSum_ge {P : List Int} {F : Nat → Int} {z y : Nat} (h : ∀ y, z < y → y < P.length → 0 ≤ F y) (hp : parB P = true) (j : Nat) (hj : j + 1 ≤ P.length) (hy : P.length - j ≤ y) (hy2 : y < P.length) (e : nth P y = (z : Int)) : F y ≤ kidSum P F z j := by
  induction j with
  | zero => omega
  | succ j ih =>
    simp only [kidSum]
    by_cases hb : y = P.length - 1 - j
    · subst hb; rw [if_pos e]; have := kidSum_nn h hp j (by omega); omega
    · have := ih (by omega) (by omega)
      split
      · rename_i e2; have := h _ (par_lt hp (by omega) e2) (by omega); omega
      · omega
/-- The sums of weights of a valid tree are greater than 0. -/
theorem sums_pos {P W : List Int} (h : treeB P W = true) : ∀ x, x < P.length → 1 ≤ nth (gathM P W) x := by
  obtain ⟨h1, h2, h3, h4⟩ := treeB_iff.1 h
  have key : ∀ d x, x < P.length → P.length - x ≤ d → 1 ≤ nth (gathM P W) x := by
    intro d
    induction d with
    | zero => intro x hx hd; omega
    | succ d ih =>
      intro x hx hd
      have hF : ∀ y, x < y → y < P.length → 0 ≤ nth (gathM P W) y := fun y hy hy2 => by have := ih y hy2 (by omega); omega
      rw [gath_rec h3 h2 x hx]
      have hn := kidSum_nn hF h3 (P.length - 1) (by omega)
      obtain ⟨w1, w2, w3⟩ := weiOk_bd (h4 x hx)
      cases he : endB P x
      · have hne : ¬ endTo P x P.length = true := by rw [← endB, he]; simp
        rw [endTo_iff] at hne
        simp only [Classical.not_forall, Classical.not_not] at hne
        obtain ⟨y, hy, hy2⟩ := hne
        have hlt := par_lt h3 hy hy2
        have := kidSum_ge hF h3 (P.length - 1) (by omega) (by omega) hy hy2
        have := ih y hy (by omega)
        omega
      · have := w3.1 he; omega
  intro x hx
  exact key _ x hx (Nat.le_refl _)
theorem sums_le {P W : List Int} (h : treeB P W = true) (x : Nat) : ((nth (gathM P W) x).natAbs : Int) ≤ 480 := by
  obtain ⟨h1, h2, h3, h4⟩ := treeB_iff.1 h
  have hb := (gathTo_abs h3 h2 (P.length - 1) (by omega)).2 x
  have ha := absTo_le (xs := W) (M := 20) (fun i => by have := tree_wei h i; omega) P.length
  have : (20 : Int) * P.length ≤ 480 := by omega
  rw [gathM]; omega
end Go.Proofs.Ytojipjjfndgbhaa
/- Ways from the root, and what is greatest on them. Plain part. -/
set_option linter.unusedVariables false
namespace Go.Proofs.Ytojipjjfndgbhaa
open Go.ChangeShapes Go.WideShapes Go.ChangeAt Go.RowKit
def par (P : List Int) (x : Nat) : Nat := (nth P x).toNat
theorem par_of {P : List Int} (h : parB P = true) {x : Nat} (hx : x < P.length) (h1 : 1 ≤ x) : nth P x = (par P x : Nat) ∧ par P x < x := by
  have := par_toNat h hx h1
  exact ⟨this.1.symm, this.2⟩
/-- The nodes from a node up to the root. -/
def upF (P : List Int) : Nat → Nat → List Int
  | 0, x => [(x : Int)]
  | f + 1, x => if x = 0 then [0] else (x : Int) :: upF P f (par P x)
def upM (P : List Int) (x : Nat) : List Int := upF P x x
def wayM (P : List Int) (x : Nat) : List Int := (upM P x).reverse
theorem upF_eq {P : List Int} (h : parB P = true) : ∀ (f x : Nat), x < P.length → x ≤ f → upF P f x = upM P x
  | 0, x, _, hf => by obtain rfl : x = 0 := by omega
                      rfl
  | f + 1, x, hx, hf => by
    by_cases h0 : x = 0
    · subst h0; rfl
    · obtain ⟨y, rfl⟩ : ∃ y, x = y + 1 := ⟨x - 1, by omega⟩
      have hp := (par_of h hx (by omega)).2
      rw [upM, upF, upF, if_neg h0, if_neg h0, upF_eq h f _ (by omega) (by omega), upF_eq h y _ (by omega) (by omega)]
theorem upM_zero (P : List Int) : upM P 0 = [0] := rfl
theorem upM_succ {P : List Int} (h : parB P = true) {x : Nat} (hx : x < P.length) (h1 : 1 ≤ x) : upM P x = (x : Int) :: upM P (par P x) := by
  obtain ⟨y, rfl⟩ : ∃ y, x = y + 1 := ⟨x - 1, by omega⟩
  have hp := (par_of h hx h1).2
  rw [upM, upF, if_neg (by omega), upF_eq h y _ (by omega) (by omega)]
theorem wayM_zero (P : List Int) : wayM P 0 = [0] := rfl
theorem wayM_succ {P : List Int} (h : parB P = true) {x : Nat} (hx : x < P.length) (h1 : 1 ≤ x) : wayM P x = wayM P (par P x) ++ [(x : Int)] := by
  rw [wayM, upM_succ h hx h1, List.reverse_cons]; rfl
theorem upM_len {P : List Int} (h : parB P = true) : ∀ (f x : Nat), x ≤ f → x < P.length → 1 ≤ (upM P x).length ∧ (upM P x).length ≤ x + 1
  | 0, x, hf, _ => by obtain rfl : x = 0 := by omega
                      simp [upM_zero]
  | f + 1, x, hf, hx => by
    by_cases h0 : x = 0
    · subst h0; simp [upM_zero]
    · have hp := (par_of h hx (by omega)).2
      have := upM_len h f _ (show par P x ≤ f by omega) (by omega)
      rw [upM_succ h hx (by omega), List.length_cons]; omega
theorem wayM_len {P : List Int} (h : parB P = true) {x : Nat} (hx : x < P.length) : 1 ≤ (wayM P x).length ∧ (wayM P x).length ≤ x + 1 := by
  rw [wayM, List.length_reverse]; exact upM_len h x x (Nat.le_refl _) hx
/-- All of a way are nodes. -/
theorem upM_mem {P : List Int} (h : parB P = true) : ∀ (f x : Nat), x ≤ f → x < P.length → ∀ z ∈ upM P x, 0 ≤ z ∧ z < P.length
  | 0, x, hf, hx => by
    obtain rfl : x = 0 := by omega
    intro z hz; simp [upM_zero] at hz; omega
  | f + 1, x, hf, hx => by
    by_cases h0 : x = 0
    · subst h0; intro z hz; simp [upM_zero] at hz; omega
    · have hp := (par_of h hx (by omega)).2
      intro z hz
      rw [upM_succ h hx (by omega)] at hz
      rcases List.mem_cons.1 hz with rfl | hz
      · omega
      · exact upM_mem h f _ (by omega) (by omega) z hz
theorem wayM_nth {P : List Int} (h : parB P = true) {x : Nat} (hx : x < P.length) {i : Nat} (hi : i < (wayM P x).length) : ∃ y : Nat, nth (wayM P x) i = (y : Int) ∧ y < P.length := by
  have hm := nth_mem hi
  rw [wayM, List.mem_reverse] at hm
  have := upM_mem h x x (Nat.le_refl _) hx _ hm
  exact ⟨(nth (wayM P x) i).toNat, by rw [wayM]; omega, by rw [wayM]; omega⟩
/-- What is reversed already. -/
def revT (xs : List Int) (n i : Nat) : List Int := (List.range n).map fun k => if k < i ∨ n - 1 - i < k then nth xs (n - 1 - k) else nth xs k
theorem revT_len (xs : List Int) (n i : Nat) : (revT xs n i).length = n := by simp [revT]
theorem revT_nth {xs : List Int} {n i k : Nat} (h : k < n) : nth (revT xs n i) k = if k < i ∨ n - 1 - i < k then nth xs (n - 1 - k) else nth xs k := by simp [nth, revT, h]
theorem nth_ext {xs ys : List Int} (hl : xs.length = ys.length) (h : ∀ i, i < xs.length → nth xs i = nth ys i) : xs = ys := by
  apply List.ext_getElem hl
  intro i h1 h2
  have := h i h1
  rwa [nth_eq h1, nth_eq h2] at this
theorem revT_zero {xs : List Int} {n : Nat} (hl : xs.length = n) : revT xs n 0 = xs :=
  nth_ext (by rw [revT_len, hl]) fun k hk => by
    rw [revT_len] at hk
    rw [revT_nth hk, if_neg (by omega)]
theorem revT_step {xs : List Int} {n i j : Nat} (hj : j = n - 1 - i) (hij : i < j) : ((revT xs n i).set i (nth xs j)).set j (nth xs i) = revT xs n (i + 1) := by
  refine nth_ext (by simp [revT_len]) fun k hk => ?_
  simp only [List.length_set, revT_len] at hk
  rw [revT_nth hk]
  by_cases e1 : k = j
  · subst e1
    rw [nth_set_same (by simp [revT_len]; omega), if_pos (by omega)]
    congr 1; omega
  · rw [nth_set_ne (by omega)]
    by_cases e2 : k = i
    · subst e2
      rw [nth_set_same (by simp [revT_len]; omega), if_pos (by omega)]
      congr 1
    · rw [nth_set_ne (by omega), revT_nth hk]
      by_cases e3 : k < i ∨ n - 1 - i < k
      · rw [if_pos e3, if_pos (by omega)]
      · rw [if_neg e3, if_neg (by omega)]
theorem revT_done {xs : List Int} {n i : Nat} (hl : xs.length = n) (hi : n ≤ 2 * i + 1) : revT xs n i = xs.reverse :=
  nth_ext (by rw [revT_len, List.length_reverse, hl]) fun k hk => by
    rw [revT_len] at hk
    rw [revT_nth hk]
    have e : nth xs.reverse k = nth xs (n - 1 - k) := by
      unfold nth
      rw [List.getElem?_reverse (by omega), hl]
    rw [e]
    by_cases h : k < i ∨ n - 1 - i < k
    · rw [if_pos h]
    · rw [if_neg h]
      congr 1; omega
/-- The greatest number on the way to a node. -/
def topF (P X : List Int) : Nat → Nat → Int
  | 0, x => nth X x
  | f + 1, x => if x = 0 then nth X 0 else max (topF P X f (par P x)) (nth X x)
def topM (P X : List Int) (x : Nat) : Int := topF P X x x
theorem topF_eq {P X : List Int} (h : parB P = true) : ∀ (f x : Nat), x < P.length → x ≤ f → topF P X f x = topM P X x
  | 0, x, _, hf => by obtain rfl : x = 0 := by omega
                      rfl
  | f + 1, x, hx, hf => by
    by_cases h0 : x = 0
    · subst h0; rfl
    · obtain ⟨y, rfl⟩ : ∃ y, x = y + 1 := ⟨x - 1, by omega⟩
      have hp := (par_of h hx (by omega)).2
      rw [topM, topF, topF, if_neg h0, if_neg h0, topF_eq h f _ (by omega) (by omega), topF_eq h y _ (by omega) (by omega)]
theorem topM_zero (P X : List Int) : topM P X 0 = nth X 0 := rfl
theorem topM_succ {P X : List Int} (h : parB P = true) {x : Nat} (hx : x < P.length) (h1 : 1 ≤ x) : topM P X x = max (topM P X (par P x)) (nth X x) := by
  obtain ⟨y, rfl⟩ : ∃ y, x = y + 1 := ⟨x - 1, by omega⟩
  have hp := (par_of h hx h1).2
  rw [topM, topF, if_neg (by omega), topF_eq h y _ (by omega) (by omega)]
theorem topM_bd {P X : List Int} (h : parB P = true) {lo hi : Int} (hX : ∀ i, lo ≤ nth X i ∧ nth X i ≤ hi) : ∀ (f x : Nat), x ≤ f → x < P.length → lo ≤ topM P X x ∧ topM P X x ≤ hi ∧ nth X 0 ≤ topM P X x
  | 0, x, hf, hx => by
    obtain rfl : x = 0 := by omega
    rw [topM_zero]; have := hX 0; omega
  | f + 1, x, hf, hx => by
    by_cases h0 : x = 0
    · subst h0; rw [topM_zero]; have := hX 0; omega
    · have hp := (par_of h hx (by omega)).2
      have := topM_bd h hX f _ (show par P x ≤ f by omega) (by omega)
      have := hX x
      rw [topM_succ h hx (by omega)]; omega
/-- The greatest of the first k numbers on a list of nodes, and of a. -/
def mxTo (X L : List Int) (a : Int) : Nat → Int
  | 0 => a
  | k + 1 => max (mxTo X L a k) (nth X (nth L k).toNat)
theorem mxTo_app (X L M : List Int) (a : Int) : ∀ k, k ≤ L.length → mxTo X (L ++ M) a k = mxTo X L a k
  | 0, _ => rfl
  | k + 1, h => by
    rw [mxTo, mxTo, mxTo_app X L M a k (by omega)]
    congr 3
    unfold nth
    rw [List.getElem?_append_left (by omega)]
theorem mx_way {P X : List Int} (h : parB P = true) (a : Int) : ∀ (f x : Nat), x ≤ f → x < P.length → mxTo X (wayM P x) a (wayM P x).length = max a (topM P X x)
  | 0, x, hf, hx => by
    obtain rfl : x = 0 := by omega
    rw [wayM_zero, topM_zero]; rfl
  | f + 1, x, hf, hx => by
    by_cases h0 : x = 0
    · subst h0; rw [wayM_zero, topM_zero]; rfl
    · have hp := (par_of h hx (by omega)).2
      have ih := mx_way (X := X) h a f _ (show par P x ≤ f by omega) (by omega)
      rw [wayM_succ h hx (by omega), topM_succ h hx (by omega), List.length_append, List.length_singleton, mxTo, mxTo_app _ _ _ _ _ (Nat.le_refl _), ih]
      have e : nth (wayM P (par P x) ++ [(x : Int)]) (wayM P (par P x)).length = (x : Int) := by simp [nth]
      rw [e, Int.toNat_natCast]; omega
theorem mx_bd {X L : List Int} {lo hi a : Int} (hX : ∀ i, lo ≤ nth X i ∧ nth X i ≤ hi) (ha : lo ≤ a ∧ a ≤ hi) : ∀ k, lo ≤ mxTo X L a k ∧ mxTo X L a k ≤ hi
  | 0 => ha
  | k + 1 => by have := mx_bd (L := L) hX ha k; have := hX (nth L k).toNat; rw [mxTo]; omega
end Go.Proofs.Ytojipjjfndgbhaa
