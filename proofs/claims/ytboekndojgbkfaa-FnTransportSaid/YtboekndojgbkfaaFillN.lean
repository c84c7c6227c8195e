import Derived.Test.YtboekndojgbkfaaFillM
import Derived.Test.YtboekndojgbkfaaOrdM
import Derived.Test.YtboekndojgbkfaaAbove
import Derived.Test.YtboekndojgbkfaaPlan3
/- Plain laws of the plans that fill makes: they are plans, the keeping one keeps its diagonal, the sorted one is upward if the spread is above. No program. -/
set_option linter.unusedVariables false
namespace Go.Proofs.Ytboekndojgbkfaa
open Go.ChangeShapes Go.WideShapes Go.ChangeAt Go.RowKit

theorem sumTo_put (xs : List Int) (i : Nat) (v : Int) (hi : i < xs.length) (k : Nat) : sumTo (xs.set i v) k = sumTo xs k + (if i < k then v - nth xs i else 0) := by
  induction k with
  | zero => simp [sumTo]
  | succ k ih =>
    rw [sumTo, sumTo, ih]
    by_cases e : i = k
    · subst e; rw [nth_set_same hi, if_neg (by omega), if_pos (by omega)]; omega
    · rw [nth_set_ne e]
      by_cases h : i < k
      · rw [if_pos h, if_pos (by omega)]; omega
      · rw [if_neg h, if_neg (by omega)]; omega
theorem sumTo_nonneg {xs : List Int} (h : ∀ i, 0 ≤ nth xs i) (k : Nat) : 0 ≤ sumTo xs k := by
  induction k with
  | zero => exact Int.le_refl _
  | succ k ih => have := h k; rw [sumTo]; omega
theorem sumTo_mono {xs : List Int} (h : ∀ i, 0 ≤ nth xs i) {j k : Nat} (hjk : j ≤ k) : sumTo xs j ≤ sumTo xs k := by
  induction k with
  | zero => obtain rfl : j = 0 := (by omega); exact Int.le_refl _
  | succ k ih =>
    by_cases e : j = k + 1
    · subst e; exact Int.le_refl _
    · have := ih (by omega); have := h k; rw [sumTo]; omega
theorem nth_le_sumTo {xs : List Int} (h : ∀ i, 0 ≤ nth xs i) {i k : Nat} (hi : i < k) : nth xs i ≤ sumTo xs k := by
  have h1 := sumTo_mono h (show i + 1 ≤ k by omega)
  have h2 := sumTo_nonneg h i
  rw [sumTo] at h1; omega
theorem colTo_setC (t : List (List Int)) (i k : Nat) (v : Int) (hi : i < t.length) (hk : k < (nthL t i).length) (b : Nat) (n : Nat) :
    colTo (setC t i k v) b n = colTo t b n + (if b = k ∧ i < n then v - cellT t i k else 0) := by
  induction n with
  | zero => simp [colTo]
  | succ n ih =>
    rw [colTo, colTo, ih]
    by_cases e : i = n ∧ k = b
    · obtain ⟨rfl, rfl⟩ := e
      rw [setC_same hi hk, if_neg (by omega), if_pos (by omega)]; omega
    · rw [setC_ne _ _ _ _ _ _ (by omega)]
      by_cases h : b = k ∧ i < n
      · rw [if_pos h, if_pos (by omega)]; omega
      · rw [if_neg h, if_neg (by omega)]; omega
theorem row_setC (t : List (List Int)) (i k : Nat) (v : Int) (hi : i < t.length) (hk : k < (nthL t i).length) (a m : Nat) (hm : k < m) :
    sumTo (nthL (setC t i k v) a) m = sumTo (nthL t a) m + (if a = i then v - cellT t i k else 0) := by
  by_cases e : i = a
  · subst e
    rw [setC, nthL_set_same hi, sumTo_put _ _ _ hk, if_pos hm, if_pos rfl]; rfl
  · rw [setC, nthL_set_ne e, if_neg (by omega)]; omega

/-- What stays so on the way of fill: H, L are the units at its start, R, C those of the whole plan. -/
structure FS (n m : Nat) (H L : List Int) (R C : Nat → Int) (i k : Nat) (t : List (List Int)) (h l : List Int) : Prop where
  tl : t.length = n
  row : ∀ j, j < n → (nthL t j).length = m
  hl : h.length = n
  ll : l.length = m
  hb : ∀ j, 0 ≤ nth h j ∧ nth h j ≤ nth H j
  lb : ∀ j, 0 ≤ nth l j ∧ nth l j ≤ nth L j
  h0 : ∀ j, j < i → nth h j = 0
  l0 : ∀ j, j < k → nth l j = 0
  h1 : ∀ j, i < j → nth h j = nth H j
  l1 : ∀ j, k < j → nth l j = nth L j
  rs : ∀ j, j < n → sumTo (nthL t j) m + nth h j = R j
  cs : ∀ j, j < m → colTo t j n + nth l j = C j
  bal : sumTo H i + (nth H i - nth h i) = sumTo L k + (nth L k - nth l k)
  nn : ∀ a b, 0 ≤ cellT t a b
theorem FS.put {n m : Nat} {H L : List Int} {R C : Nat → Int} {i k : Nat} {t : List (List Int)} {h l : List Int} (F : FS n m H L R C i k t h l) (hi : i < n) (hk : k < m) {c : Int} (c0 : 0 ≤ c) (c1 : c ≤ nth h i) (c2 : c ≤ nth l k) :
    FS n m H L R C i k (setC t i k (cellT t i k + c)) (h.set i (nth h i - c)) (l.set k (nth l k - c)) := by
  obtain ⟨f1, f2, f3, f4, f5, f6, f7, f8, f9, f10, f11, f12, f13, f14⟩ := F
  have hi2 : i < t.length := by omega
  have hk2 : k < (nthL t i).length := by rw [f2 i hi]; exact hk
  refine ⟨by rw [setC_len]; exact f1, fun j hj => by rw [setC_row]; exact f2 j hj, by simpa using f3, by simpa using f4, fun j => ?_, fun j => ?_, fun j hj => ?_, fun j hj => ?_, fun j hj => ?_, fun j hj => ?_, fun j hj => ?_, fun j hj => ?_, ?_, fun a b => ?_⟩
  · by_cases e : i = j
    · subst e; rw [nth_set_same (by omega)]; have := f5 i; omega
    · rw [nth_set_ne e]; exact f5 j
  · by_cases e : k = j
    · subst e; rw [nth_set_same (by omega)]; have := f6 k; omega
    · rw [nth_set_ne e]; exact f6 j
  · rw [nth_set_ne (by omega)]; exact f7 j hj
  · rw [nth_set_ne (by omega)]; exact f8 j hj
  · rw [nth_set_ne (by omega)]; exact f9 j hj
  · rw [nth_set_ne (by omega)]; exact f10 j hj
  · have := f11 j hj
    rw [row_setC _ _ _ _ hi2 hk2 _ _ hk]
    by_cases e : j = i
    · subst e; rw [if_pos rfl, nth_set_same (by omega)]; omega
    · rw [if_neg e, nth_set_ne (by omega)]; omega
  · have := f12 j hj
    rw [colTo_setC _ _ _ _ hi2 hk2]
    by_cases e : j = k
    · subst e; rw [if_pos ⟨rfl, hi⟩, nth_set_same (by omega)]; omega
    · rw [if_neg (by omega), nth_set_ne (by omega)]; omega
  · rw [nth_set_same (by omega), nth_set_same (by omega)]; omega
  · by_cases e : i = a ∧ k = b
    · obtain ⟨rfl, rfl⟩ := e
      rw [setC_same hi2 hk2]; have := f14 i k; omega
    · rw [setC_ne _ _ _ _ _ _ (by omega)]; exact f14 a b
theorem FS.right {n m : Nat} {H L : List Int} {R C : Nat → Int} {i k : Nat} {t : List (List Int)} {h l : List Int} (F : FS n m H L R C i k t h l) (hz : nth h i = 0) : FS n m H L R C (i + 1) k t h l := by
  obtain ⟨f1, f2, f3, f4, f5, f6, f7, f8, f9, f10, f11, f12, f13, f14⟩ := F
  refine ⟨f1, f2, f3, f4, f5, f6, fun j hj => ?_, f8, fun j hj => f9 j (by omega), f10, f11, f12, ?_, f14⟩
  · by_cases e : j = i
    · subst e; exact hz
    · exact f7 j (by omega)
  · have := f9 (i + 1) (by omega)
    rw [sumTo]; omega
theorem FS.down {n m : Nat} {H L : List Int} {R C : Nat → Int} {i k : Nat} {t : List (List Int)} {h l : List Int} (F : FS n m H L R C i k t h l) (hz : nth l k = 0) : FS n m H L R C i (k + 1) t h l := by
  obtain ⟨f1, f2, f3, f4, f5, f6, f7, f8, f9, f10, f11, f12, f13, f14⟩ := F
  refine ⟨f1, f2, f3, f4, f5, f6, f7, fun j hj => ?_, f9, fun j hj => f10 j (by omega), f11, f12, ?_, f14⟩
  · by_cases e : j = k
    · subst e; exact hz
    · exact f8 j (by omega)
  · have := f10 (k + 1) (by omega)
    rw [sumTo]; omega
/-- What fill makes of it, with any property Q of tables that each step keeps. -/
theorem fill_laws {n m : Nat} {H L : List Int} {R C : Nat → Int} (Q : List (List Int) → Prop)
    (hQ : ∀ i k t h l c, FS n m H L R C i k t h l → i < n → k < m → 0 ≤ c → c ≤ nth h i → c ≤ nth l k → Q t → Q (setC t i k (cellT t i k + c))) (f : Nat) :
    ∀ (i k : Nat) (t : List (List Int)) (h l : List Int), FS n m H L R C i k t h l → i ≤ n → k ≤ m → n - i + (m - k) ≤ f → Q t →
      ∃ i' k' h' l', FS n m H L R C i' k' (fillS f i k t h l) h' l' ∧ i' ≤ n ∧ k' ≤ m ∧ (i' = n ∨ k' = m) ∧ Q (fillS f i k t h l) := by
  induction f with
  | zero =>
    intro i k t h l F hi hk hf q
    exact ⟨i, k, h, l, F, hi, hk, .inl (by omega), q⟩
  | succ f ih =>
    intro i k t h l F hi hk hf q
    by_cases hc : i < n ∧ k < m
    · have b1 := (F.hb i).1
      have b2 := (F.lb k).1
      have P := F.put hc.1 hc.2 (c := min (nth h i) (nth l k)) (by omega) (by omega) (by omega)
      have q' := hQ i k t h l _ F hc.1 hc.2 (by omega) (Int.min_le_left _ _) (Int.min_le_right _ _) q
      rw [fillS, if_pos (by rw [F.hl, F.ll]; exact hc)]
      by_cases hz : nth h i - min (nth h i) (nth l k) = 0
      · rw [if_pos hz]
        exact ih _ _ _ _ _ (P.right (by rw [nth_set_same (by rw [F.hl]; exact hc.1)]; exact hz)) (by omega) hk (by omega) q'
      · rw [if_neg hz]
        exact ih _ _ _ _ _ (P.down (by rw [nth_set_same (by rw [F.ll]; exact hc.2)]; omega)) hi (by omega) (by omega) q'
    · rw [fillS_out (by rw [F.hl, F.ll]; exact hc)]
      exact ⟨i, k, h, l, F, hi, hk, by omega, q⟩
theorem zero_behind {X x : List Int} {k : Nat} (hb : ∀ j, 0 ≤ nth x j ∧ nth x j ≤ nth X j) (h0 : ∀ j, j < k → nth x j = 0) {n : Nat} (hs : sumTo X n = sumTo X k + (nth X k - nth x k)) (hk : k < n) : ∀ j, j < n → nth x j = 0 := by
  have hX : ∀ j, 0 ≤ nth X j := fun j => by have := hb j; omega
  have h1 := sumTo_mono hX (show k + 1 ≤ n by omega)
  rw [sumTo] at h1
  intro j hj
  by_cases e : j < k
  · exact h0 j e
  · by_cases e2 : j = k
    · subst e2; have := hb j; omega
    · have h2 := sumTo_mono hX (show k + 1 ≤ j by omega)
      have h3 := sumTo_mono hX (show j + 1 ≤ n by omega)
      have := hb j
      rw [sumTo] at h2 h3
      have := (hb k).1
      omega
/-- At its end all units are taken. -/
theorem FS.done {n m : Nat} {H L : List Int} {R C : Nat → Int} {i k : Nat} {t : List (List Int)} {h l : List Int} (F : FS n m H L R C i k t h l) (hi : i ≤ n) (hk : k ≤ m) (he : i = n ∨ k = m) (hs : sumTo H n = sumTo L m) :
    (∀ j, j < n → nth h j = 0) ∧ ∀ j, j < m → nth l j = 0 := by
  have hH : ∀ j, 0 ≤ nth H j := fun j => by have := F.hb j; omega
  have hL : ∀ j, 0 ≤ nth L j := fun j => by have := F.lb j; omega
  have hbal := F.bal
  by_cases e1 : i = n
  · subst e1
    refine ⟨F.h0, ?_⟩
    by_cases e2 : k = m
    · subst e2; exact F.l0
    · have z1 : nth h i = 0 := nth_out (by have := F.hl; omega)
      have hm := sumTo_mono hL (show k + 1 ≤ m by omega)
      have a1 := (F.lb k).1
      have a2 := (F.hb i)
      rw [sumTo] at hm
      -- the balance: all of H is taken
      have hHi : sumTo H i + (nth H i - nth h i) ≥ sumTo H i := by omega
      exact zero_behind (X := L) F.lb F.l0 (by omega) (by omega)
  · obtain rfl : k = m := he.resolve_left e1
    refine ⟨?_, F.l0⟩
    have z1 : nth l k = 0 := nth_out (by have := F.ll; omega)
    have hm := sumTo_mono hH (show i + 1 ≤ n by omega)
    have a1 := (F.hb i).1
    have a2 := (F.lb k)
    rw [sumTo] at hm
    exact zero_behind (X := H) F.hb F.h0 (by omega) (by omega)
/-- fill's plan has the sums of the rows and the columns. -/
theorem fill_plan {n m : Nat} {H L : List Int} {R C : Nat → Int} (Q : List (List Int) → Prop)
    (hQ : ∀ i k t h l c, FS n m H L R C i k t h l → i < n → k < m → 0 ≤ c → c ≤ nth h i → c ≤ nth l k → Q t → Q (setC t i k (cellT t i k + c)))
    (t : List (List Int)) (F : FS n m H L R C 0 0 t H L) (hs : sumTo H n = sumTo L m) (q : Q t) :
    (fillM t H L).length = n ∧ (∀ j, j < n → (nthL (fillM t H L) j).length = m) ∧ (∀ a b, 0 ≤ cellT (fillM t H L) a b) ∧ (∀ j, j < n → sumTo (nthL (fillM t H L) j) m = R j) ∧ (∀ j, j < m → colTo (fillM t H L) j n = C j) ∧ Q (fillM t H L) := by
  obtain ⟨i, k, h, l, G, hi, hk, he, q'⟩ := fill_laws Q hQ (H.length + L.length) 0 0 t H L F (by omega) (by omega) (by rw [F.hl, F.ll]; omega) q
  obtain ⟨d1, d2⟩ := G.done hi hk he hs
  refine ⟨G.tl, G.row, G.nn, fun j hj => ?_, fun j hj => ?_, q'⟩
  · have := G.rs j hj; rw [d1 j hj] at this; unfold fillM; omega
  · have := G.cs j hj; rw [d2 j hj] at this; unfold fillM; omega
theorem spread_sumTo {p : List Int} (hp : spreadB p = true) : wsum p = sumTo p p.length ∧ sumTo p p.length ≤ 40 := by
  obtain ⟨⟨h1, h2⟩, h3, h4, h5⟩ := spreadB_iff.1 hp
  have := wsum_eq (M := 40) (by omega) h3 (by omega)
  omega
theorem colTo_zeros (n m j k : Nat) : colTo (zeros n m) j k = 0 := by
  induction k with
  | zero => rfl
  | succ k ih => rw [colTo, ih, zeros_cell]; rfl
theorem row_zeros (n m i k : Nat) : sumTo (nthL (zeros n m) i) k = 0 := by
  induction k with
  | zero => rfl
  | succ k ih =>
    have := zeros_cell n m i k
    rw [cellT] at this
    rw [sumTo, ih, this]; rfl
theorem FS.sorted {p q : List Int} (h : alikeB p q = true) : FS p.length q.length p q (nth p) (nth q) 0 0 (zeros p.length q.length) p q := by
  obtain ⟨s1, s2, _, _⟩ := alikeB_iff.1 h
  refine ⟨by simp [zeros], fun i hi => by rw [zeros_row _ _ _ hi]; simp, rfl, rfl, fun j => ⟨(spread_nth s1 j).1, Int.le_refl _⟩, fun j => ⟨(spread_nth s2 j).1, Int.le_refl _⟩, fun j hj => by omega, fun j hj => by omega, fun j _ => rfl, fun j _ => rfl, fun j hj => ?_, fun j hj => ?_, ?_, fun a b => ?_⟩
  · rw [row_zeros]; omega
  · rw [colTo_zeros]; omega
  · simp [sumTo]
  · rw [zeros_cell]; omega
/-- A table with the right sums is a plan. -/
theorem planB_mk {p q : List Int} {t : List (List Int)} (hal : alikeB p q = true) (h1 : t.length = p.length) (h2 : ∀ j, j < p.length → (nthL t j).length = q.length) (h3 : ∀ a b, 0 ≤ cellT t a b)
    (h4 : ∀ j, j < p.length → sumTo (nthL t j) q.length = nth p j) (h5 : ∀ j, j < q.length → colTo t j p.length = nth q j) : planB p q t = true := by
  obtain ⟨s1, s2, s3, s4⟩ := alikeB_iff.1 hal
  have hl := (spreadB_iff.1 s2).1
  refine planB_iff.2 ⟨h1, fun i hi => ?_, fun k hk => by rw [h1]; exact h5 k hk⟩
  have hb : ∀ x ∈ nthL t i, 0 ≤ x ∧ x ≤ 40 := fun x hx => by
    obtain ⟨k, hk, rfl⟩ := List.getElem_of_mem hx
    rw [← nth_eq hk]
    have hk2 : k < q.length := by rw [← h2 i (by omega)]; exact hk
    have a1 := nth_le_sumTo (xs := nthL t i) (fun j => h3 i j) hk2
    have a2 := h4 i (by omega)
    have a3 := spread_nth s1 i
    exact ⟨h3 i k, by omega⟩
  refine rowOk_iff.2 ⟨h2 i (by omega), hb, ?_⟩
  rw [wsum_eq (M := 40) (by omega) hb (by rw [h2 i (by omega)]; omega), h2 i (by omega), h4 i (by omega)]
/-- The sorted plan is a plan, and an upward one if the second spread is above. -/
theorem sorted_plan {p q : List Int} (h : alikeB p q = true) : planB p q (sortedM p q) = true ∧ (aboB q p = true → ∀ i k, k < i → i < p.length → cellT (sortedM p q) i k = 0) := by
  obtain ⟨s1, s2, s3, s4⟩ := alikeB_iff.1 h
  have e1 := spread_sumTo s1
  have e2 := spread_sumTo s2
  have F := FS.sorted h
  have hs : sumTo p p.length = sumTo q q.length := by omega
  constructor
  · obtain ⟨a1, a2, a3, a4, a5, _⟩ := fill_plan (fun _ => True) (fun _ _ _ _ _ _ _ _ _ _ _ _ _ => trivial) _ F hs trivial
    exact planB_mk h a1 a2 a3 a4 a5
  · intro ha
    obtain ⟨_, _, _, _, _, hq⟩ := fill_plan (fun t => ∀ i k, k < i → i < p.length → cellT t i k = 0) (fun i k t h' l' c G hi hk c0 c1 c2 hQ a b hab ha2 => by
      by_cases e : i = a ∧ k = b
      · obtain ⟨rfl, rfl⟩ := e
        rw [setC_same (by rw [G.tl]; exact hi) (by rw [G.row i hi]; exact hk), hQ i k hab ha2]
        -- nothing is taken downwards
        have g1 := G.bal
        have g2 := (G.hb i)
        have g3 := (G.lb k)
        have hp0 : ∀ j, 0 ≤ nth p j := fun j => (spread_nth s1 j).1
        have g4 := aboB_iff.1 ha k (by omega)
        have g5 := sumTo_mono hp0 (show k + 1 ≤ i by omega)
        rw [show sumTo q (k + 1) = sumTo q k + nth q k from rfl] at g4
        omega
      · rw [setC_ne _ _ _ _ _ _ (by omega)]; exact hQ a b hab ha2) _ F hs (fun i k _ _ => zeros_cell _ _ _ _)
    exact hq
theorem sumTo_keep (p q : List Int) (hl : q.length = p.length) (k : Nat) (hk : k ≤ p.length) : sumTo (keepL p q p.length) k = sumTo p k - sumTo ((List.range p.length).map fun j => min (nth p j) (nth q j)) k := by
  induction k with
  | zero => rfl
  | succ k ih =>
    have e : nth ((List.range p.length).map fun j => min (nth p j) (nth q j)) k = min (nth p k) (nth q k) := by simp [nth, show k < p.length by omega]
    rw [sumTo, sumTo, sumTo, ih (by omega), keepL_nth _ _ _ _ (by omega), if_pos (by omega), e]; omega
theorem keep_row (p q : List Int) (hq : q.length = p.length) (a : Nat) (ha : a < p.length) (k : Nat) : sumTo (nthL (keepT p q p.length) a) k = if a < k then min (nth p a) (nth q a) else 0 := by
  induction k with
  | zero => simp [sumTo]
  | succ k ih =>
    have := keepT_cell p q p.length (Nat.le_refl _) hq a k
    rw [cellT] at this
    rw [sumTo, ih, this]
    by_cases e : a = k
    · subst e; rw [if_neg (by omega), if_pos ⟨rfl, ha⟩, if_pos (by omega)]; omega
    · rw [if_neg (show ¬ (a = k ∧ a < p.length) by omega)]
      by_cases h : a < k
      · rw [if_pos h, if_pos (by omega)]; omega
      · rw [if_neg h, if_neg (by omega)]; rfl
theorem keep_col (p q : List Int) (hq : q.length = p.length) (b : Nat) (hb : b < p.length) (k : Nat) (hk : k ≤ p.length) : colTo (keepT p q p.length) b k = if b < k then min (nth p b) (nth q b) else 0 := by
  induction k with
  | zero => simp [colTo]
  | succ k ih =>
    rw [colTo, ih (by omega), keepT_cell p q p.length (Nat.le_refl _) hq]
    by_cases e : k = b
    · subst e; rw [if_neg (by omega), if_pos ⟨rfl, hb⟩, if_pos (by omega)]; omega
    · rw [if_neg (show ¬ (k = b ∧ k < p.length) by omega)]
      by_cases h : b < k
      · rw [if_pos h, if_pos (by omega)]; omega
      · rw [if_neg h, if_neg (by omega)]; rfl
theorem FS.keeping {p q : List Int} (h : alikeB p q = true) : FS p.length p.length (keepL p q p.length) (keepL q p p.length) (nth p) (nth q) 0 0 (keepT p q p.length) (keepL p q p.length) (keepL q p p.length) := by
  obtain ⟨s1, s2, s3, _⟩ := alikeB_iff.1 h
  have I := FillI.keep h
  refine ⟨I.tl, I.row, I.hl, I.ll, fun j => ⟨(I.hb j).1, Int.le_refl _⟩, fun j => ⟨(I.lb j).1, Int.le_refl _⟩, fun j hj => by omega, fun j hj => by omega, fun j _ => rfl, fun j _ => rfl, fun j hj => ?_, fun j hj => ?_, ?_, fun a b => (I.cb a b).1⟩
  · rw [keep_row p q s3.symm j hj, if_pos hj, keepL_nth _ _ _ _ hj, if_pos hj]; omega
  · rw [keep_col p q s3.symm j hj _ (Nat.le_refl _), if_pos hj, keepL_nth _ _ _ _ (by omega), if_pos hj]; omega
  · simp [sumTo]
/-- The keeping plan is a plan that keeps as much as can be kept at each spot. -/
theorem keeping_plan {p q : List Int} (h : alikeB p q = true) : planB p q (keepingM p q) = true ∧ ∀ j, j < p.length → cellT (keepingM p q) j j = min (nth p j) (nth q j) := by
  obtain ⟨s1, s2, s3, s4⟩ := alikeB_iff.1 h
  have e1 := spread_sumTo s1
  have e2 := spread_sumTo s2
  have F := FS.keeping h
  have hmin : ((List.range q.length).map fun j => min (nth q j) (nth p j)) = (List.range p.length).map fun j => min (nth p j) (nth q j) := by
    rw [s3]; exact List.map_congr_left fun j _ => by omega
  have hs : sumTo (keepL p q p.length) p.length = sumTo (keepL q p p.length) p.length := by
    have k1 := sumTo_keep p q s3.symm p.length (Nat.le_refl _)
    have k2 := sumTo_keep q p s3 q.length (Nat.le_refl _)
    rw [hmin] at k2
    rw [← s3] at k2 e2
    omega
  obtain ⟨a1, a2, a3, a4, a5, a6⟩ := fill_plan (fun t => ∀ j, j < p.length → cellT t j j = min (nth p j) (nth q j)) (fun i k t h' l' c G hi hk c0 c1 c2 hQ j hj => by
      by_cases e : i = j ∧ k = j
      · obtain ⟨rfl, rfl⟩ := e
        rw [setC_same (by rw [G.tl]; exact hi) (by rw [G.row k hi]; exact hk), hQ k hj]
        have g2 := (G.hb k).2
        have g3 := (G.lb k).2
        rw [keepL_nth _ _ _ _ hj, if_pos hj] at g2
        rw [keepL_nth _ _ _ _ (by omega), if_pos hj] at g3
        omega
      · rw [setC_ne _ _ _ _ _ _ (by omega)]; exact hQ j hj) _ F hs (fun j hj => by rw [keepT_cell p q p.length (Nat.le_refl _) s3.symm, if_pos ⟨rfl, hj⟩])
  exact ⟨planB_mk h a1 (fun j hj => by rw [← s3]; exact a2 j hj) a3 (fun j hj => by rw [← s3]; exact a4 j hj) (fun j hj => a5 j (by omega)), a6⟩
end Go.Proofs.Ytboekndojgbkfaa
