import Derived.Test.YtboekndojgbkfaaLeastE
import Derived.Test.YtboekndojgbkfaaOrdersM
/- Plain laws of costs: least costs exist, potentials bound them, sorted plans have the least cost of distances. -/
set_option linter.unusedVariables false
namespace Go.Proofs.Ytboekndojgbkfaa
open Go.ChangeShapes Go.WideShapes Go.ChangeAt Go.RowKit
theorem sumTo_G (xs : List Int) : ∀ k, sumTo xs k = sumG k (nth xs)
  | 0 => rfl
  | k + 1 => by rw [sumTo, sumG, sumTo_G xs k]
theorem sumF_G (f : Nat → Int) : ∀ k, sumF f k = sumG k f
  | 0 => rfl
  | k + 1 => by rw [sumF, sumG, sumF_G f k]
theorem costIn_G (T C : List (List Int)) (i : Nat) : ∀ k, costIn T C i k = sumG k fun k => cellT T i k * cellT C i k
  | 0 => rfl
  | k + 1 => by rw [costIn, sumG, costIn_G T C i k]
theorem costTo_G (T C : List (List Int)) (m : Nat) : ∀ i, costTo T C m i = sumG i fun i => sumG m fun k => cellT T i k * cellT C i k
  | 0 => rfl
  | i + 1 => by rw [costTo, sumG, costTo_G T C m i, costIn_G]
theorem costTo_N (T C : List (List Int)) (n : Nat) : costTo T C n n = costN n (cellT C) (cellT T) := costTo_G T C n n
theorem plan_N {p q : List Int} {T : List (List Int)} (h : okB p q T = true) : PlanN p.length (cellT T) (nth p) (nth q) := by
  have G := PlanG.of h
  refine ⟨fun i k _ _ => (G.cell i k).1, fun i hi => ?_, fun k hk => ?_⟩
  · rw [← G.row i hi, sumTo_G]; rfl
  · rw [← G.col k hk, sumF_G]
/-- One unit more can go. -/
theorem RunS.more {F : Int} {n : Nat} {C X : Nat → Nat → Int} {p q h l : Nat → Int} {u : Nat} (R : RunS F n C X p q h l (u + 1)) (hF : 100 ≤ F) (hC : ∀ i k, i < n → k < n → 0 ≤ C i k ∧ C i k ≤ 99) : ∃ X' h' l', RunS F n C X' p q h' l' u := by
  have T := R.told (by omega)
  generalize itR F n C X (startBF F n h) (2 * n) = s at T
  obtain ⟨best, hb, hlb⟩ := sumG_pos (show 0 < sumG n l by rw [R.sl]; omega)
  have hs : ∃ i, i < n ∧ 0 < h i := sumG_pos (by rw [R.sh]; omega)
  obtain ⟨dep, _, hd⟩ := T.dep
  have key : ∀ (m k : Nat) (Y : Nat → Nat → Int), dep (n + k) ≤ m → AugAt n C X s dep best k Y → ∃ X' h' l', RunS F n C X' p q h' l' u := by
    intro m
    induction m with
    | zero =>
      intro k Y hm A
      obtain ⟨i, hi, e1, _, _⟩ := T.behind hF hC hs A.lt
      have h1 := A.lt
      have := hd _ _ (by omega) e1
      omega
    | succ m ih =>
      intro k Y hm A
      have hk := A.lt
      obtain ⟨i, hi, e1, e2, e3⟩ := T.behind hF hC hs hk
      have d1 := hd _ _ (by omega) e1
      rcases T.before hi e3 with ⟨b1, b2, b3⟩ | ⟨k2, hk2, b1, b2, b3⟩
      · exact ⟨_, _, _, (RunS.next R T hF hC A hb hlb hi e2 b2 b3).1⟩
      · have d2 := hd _ _ (by omega) b1
        exact ih k2 _ (by omega) (A.next hi hk2 d1 d2 e2 b3 b2).1
  exact key _ best X (Nat.le_refl _) (AugAt.start T hF hC hs R.flow.pos hb dep)
theorem RunS.all {F : Int} {n : Nat} {C : Nat → Nat → Int} {p q : Nat → Int} (hF : 100 ≤ F) (hC : ∀ i k, i < n → k < n → 0 ≤ C i k ∧ C i k ≤ 99) : ∀ (u : Nat) (X : Nat → Nat → Int) (h l : Nat → Int), RunS F n C X p q h l u → ∃ X' h' l', RunS F n C X' p q h' l' 0
  | 0, X, h, l, R => ⟨X, h, l, R⟩
  | u + 1, X, h, l, R => by
    obtain ⟨X', h', l', R'⟩ := R.more hF hC
    exact RunS.all hF hC u X' h' l' R'
theorem least_is {p q : List Int} {C : List (List Int)} (h : okC p q C = true) : IsLeast p q C (leastV p q C) := by
  have h1 := h
  rw [okC, Bool.and_eq_true] at h1
  obtain ⟨s1, s2, s3, s4⟩ := alikeB_iff.1 h1.1
  have hws := (spreadB_iff.1 s1).2.2
  obtain ⟨u0, hu0⟩ := Int.eq_ofNat_of_zero_le (show 0 ≤ wsum p by omega)
  have hC : ∀ i k, i < p.length → k < p.length → 0 ≤ cellT C i k ∧ cellT C i k ≤ 99 := fun i k _ _ => costs_cell h1.2 i k
  obtain ⟨X, a, b, R⟩ := RunS.all (F := 100) (by decide) hC _ _ _ _ (RunS.start h1.1 rfl (by decide) hC hu0)
  have hI : IsLeast p q C (costN p.length (cellT C) X) := ⟨100, X, a, b, R, rfl⟩
  rw [leastV_is h hI]; exact hI
theorem least_le {p q : List Int} {T C : List (List Int)} (h : pcOk p q T C = true) : okC p q C = true ∧ leastV p q C ≤ pcV p q T C := by
  have h0 := h
  rw [pcOk, Bool.and_eq_true] at h0
  have h1 : okC p q C = true := by rw [okC, (okB_iff.1 h0.1).1, h0.2]; rfl
  refine ⟨h1, ?_⟩
  obtain ⟨F, X, a, b, R, hv⟩ := least_is h1
  rw [hv, pcV, h]
  show _ ≤ costTo T C p.length p.length
  rw [costTo_N]
  exact R.least (plan_N h0.1)
/-- The sum of the potentials. -/
def potS (p q u v : List Int) : Nat → Int
  | 0 => 0
  | k + 1 => potS p q u v k + nth p k * nth u k + nth q k * nth v k
theorem potS_G (p q u v : List Int) : ∀ k, potS p q u v k = sumG k (fun i => nth q i * nth v i) - sumG k (fun i => nth p i * -nth u i)
  | 0 => rfl
  | k + 1 => by rw [potS, potS_G p q u v k, sumG, sumG, Int.mul_neg]; omega
theorem pot_le {p q u v : List Int} {C : List (List Int)} (h : apV p q u v C = true) : okC p q C = true ∧ potS p q u v p.length ≤ leastV p q C := by
  rw [apV, Bool.and_eq_true] at h
  obtain ⟨h1, h2⟩ := h
  obtain ⟨a1, a2, a3, a4⟩ := apOk_iff.1 h1
  have h3 : okC p q C = true := by rw [okC, a1, a2]; rfl
  refine ⟨h3, ?_⟩
  obtain ⟨F, X, a, b, R, hv⟩ := least_is h3
  have l1 := (numB_iff.1 a3).1
  have l2 := (numB_iff.1 a4).1
  have l3 := (alikeB_iff.1 a1).2.2.1
  rw [hv, potS_G]
  refine plan_ge R.plan fun i k hi hk => ?_
  have := potRow_iff.1 (potB_iff.1 h2 i (by omega)) k (by omega)
  omega
theorem potS_bd {p q u v : List Int} (hp : ∀ i, 0 ≤ nth p i ∧ nth p i ≤ 40) (hq : ∀ i, 0 ≤ nth q i ∧ nth q i ≤ 40) (hu : ∀ i, -999 ≤ nth u i ∧ nth u i ≤ 999) (hv : ∀ i, -999 ≤ nth v i ∧ nth v i ≤ 999) : ∀ k : Nat, -(79920 * (k : Int)) ≤ potS p q u v k ∧ potS p q u v k ≤ 79920 * k
  | 0 => by simp [potS]
  | k + 1 => by
    have ih := potS_bd hp hq hu hv k
    have key : ∀ x y : Int, (0 ≤ x ∧ x ≤ 40) → (-999 ≤ y ∧ y ≤ 999) → -39960 ≤ x * y ∧ x * y ≤ 39960 := fun x y hx hy => by
      have h1 : x * y ≤ x * 999 := Int.mul_le_mul_of_nonneg_left hy.2 hx.1
      have h2 : x * (-999) ≤ x * y := Int.mul_le_mul_of_nonneg_left hy.1 hx.1
      omega
    have h1 := key _ _ (hp k) (hu k)
    have h2 := key _ _ (hq k) (hv k)
    rw [potS]; omega
/-- Distances of spots. -/
def dis (i k : Nat) : Int := max ((i : Int) - k) (k - i)
def sgn (p q : List Int) (s : Nat) : Int := if sumTo q (s + 1) ≤ sumTo p (s + 1) then 1 else -1
def upS (p q : List Int) (m : Nat) : Int := sumG m (sgn p q)
theorem upS_gap (p q : List Int) (i : Nat) : ∀ d : Nat, -(d : Int) ≤ upS p q (i + d) - upS p q i ∧ upS p q (i + d) - upS p q i ≤ d
  | 0 => by simp
  | d + 1 => by
    have ih := upS_gap p q i d
    have e : upS p q (i + (d + 1)) = upS p q (i + d) + sgn p q (i + d) := rfl
    have hs : sgn p q (i + d) = 1 ∨ sgn p q (i + d) = -1 := by unfold sgn; split <;> simp
    omega
theorem upS_le (p q : List Int) (i k : Nat) : upS p q k - upS p q i ≤ dis i k := by
  unfold dis
  by_cases h : i ≤ k
  · obtain ⟨d, rfl⟩ := Nat.exists_eq_add_of_le h
    have := upS_gap p q i d
    omega
  · obtain ⟨d, rfl⟩ := Nat.exists_eq_add_of_le (show k ≤ i by omega)
    have := upS_gap p q k d
    omega
theorem upS_run {p q : List Int} (i : Nat) : ∀ d : Nat, (∀ s, i ≤ s → s < i + d → sgn p q s = 1) → upS p q (i + d) - upS p q i = d
  | 0, _ => by simp
  | d + 1, h => by
    have ih := upS_run i d (fun s a b => h s a (by omega))
    have e : upS p q (i + (d + 1)) = upS p q (i + d) + sgn p q (i + d) := rfl
    have := h (i + d) (by omega) (by omega)
    omega
theorem upS_fall {p q : List Int} (i : Nat) : ∀ d : Nat, (∀ s, i ≤ s → s < i + d → sgn p q s = -1) → upS p q (i + d) - upS p q i = -d
  | 0, _ => by simp
  | d + 1, h => by
    have ih := upS_fall i d (fun s a b => h s a (by omega))
    have e : upS p q (i + (d + 1)) = upS p q (i + d) + sgn p q (i + d) := rfl
    have := h (i + d) (by omega) (by omega)
    omega
/-- What the potentials give. -/
theorem upS_sum (p q : List Int) : ∀ m, sumG m (fun k => nth q k * upS p q k) - sumG m (fun i => nth p i * upS p q i) = (sumTo q m - sumTo p m) * upS p q m + earTo p q m
  | 0 => by simp [sumG, sumTo, earTo]
  | m + 1 => by
    have ih := upS_sum p q m
    have e : upS p q (m + 1) = upS p q m + sgn p q m := rfl
    rw [sumG, sumG, earTo, e]
    have e1 : sumTo q (m + 1) = sumTo q m + nth q m := rfl
    have e2 : sumTo p (m + 1) = sumTo p m + nth p m := rfl
    have hs : max (sumTo p (m + 1) - sumTo q (m + 1)) (sumTo q (m + 1) - sumTo p (m + 1)) = (sumTo p (m + 1) - sumTo q (m + 1)) * sgn p q m := by
      unfold sgn
      split <;> omega
    rw [hs, e1, e2]
    generalize upS p q m = U at ih ⊢
    generalize sgn p q m = σ
    generalize sumG m (fun k => nth q k * upS p q k) = A at ih ⊢
    generalize sumG m (fun i => nth p i * upS p q i) = B at ih ⊢
    grind
theorem ear_pots {p q : List Int} (h : alikeB p q = true) : sumG p.length (fun k => nth q k * upS p q k) - sumG p.length (fun i => nth p i * upS p q i) = earTo p q p.length := by
  have := sums_eq h
  rw [upS_sum, this.2]; simp
/-- Where the sorted plan sends units. -/
theorem sorted_way {p q : List Int} (h : alikeB p q = true) : ∀ i k, i < p.length → k < q.length → 0 < cellT (sortedM p q) i k → (∀ s, i ≤ s → s < k → sumTo q (s + 1) < sumTo p (s + 1)) ∧ ∀ s, k ≤ s → s < i → sumTo p (s + 1) < sumTo q (s + 1) := by
  obtain ⟨s1, s2, s3, s4⟩ := alikeB_iff.1 h
  have e1 := spread_sumTo s1
  have e2 := spread_sumTo s2
  have F := FS.sorted h
  have hs : sumTo p p.length = sumTo q q.length := by omega
  have hp0 : ∀ j, 0 ≤ nth p j := fun j => (spread_nth s1 j).1
  have hq0 : ∀ j, 0 ≤ nth q j := fun j => (spread_nth s2 j).1
  obtain ⟨_, _, _, _, _, hq⟩ := fill_plan (fun t => ∀ i k, i < p.length → k < q.length → 0 < cellT t i k → (∀ s, i ≤ s → s < k → sumTo q (s + 1) < sumTo p (s + 1)) ∧ ∀ s, k ≤ s → s < i → sumTo p (s + 1) < sumTo q (s + 1)) (fun i k t h' l' c G hi hk c0 c1 c2 hQ a b ha hb hpos => by
    by_cases e : i = a ∧ k = b
    · obtain ⟨rfl, rfl⟩ := e
      rw [setC_same (by rw [G.tl]; exact hi) (by rw [G.row i hi]; exact hk)] at hpos
      by_cases hc : c = 0
      · exact hQ i k ha hb (by omega)
      · have g1 := G.bal
        have g2 := (G.hb i)
        have g3 := (G.lb k)
        have t1 : sumTo p (i + 1) = sumTo p i + nth p i := rfl
        have t2 : sumTo q (k + 1) = sumTo q k + nth q k := rfl
        refine ⟨fun s h1 h2 => ?_, fun s h1 h2 => ?_⟩
        · have g5 := sumTo_mono hp0 (show i + 1 ≤ s + 1 by omega)
          have g6 := sumTo_mono hq0 (show s + 1 ≤ k by omega)
          omega
        · have g5 := sumTo_mono hq0 (show k + 1 ≤ s + 1 by omega)
          have g6 := sumTo_mono hp0 (show s + 1 ≤ i by omega)
          omega
    · rw [setC_ne _ _ _ _ _ _ (by omega)] at hpos; exact hQ a b ha hb hpos) _ F hs (fun i k _ _ hpos => by rw [zeros_cell] at hpos; omega)
  exact hq
theorem sorted_tight {p q : List Int} (h : alikeB p q = true) (i k : Nat) (hi : i < p.length) (hk : k < p.length) (h0 : 0 < cellT (sortedM p q) i k) : upS p q k - upS p q i = dis i k := by
  obtain ⟨h1, h2⟩ := sorted_way h i k hi (by have := (sums_eq h).1; omega) h0
  unfold dis
  by_cases e : i ≤ k
  · obtain ⟨d, rfl⟩ := Nat.exists_eq_add_of_le e
    have := upS_run (p := p) (q := q) i d (fun s a b => by have := h1 s a b; unfold sgn; rw [if_pos (by omega)])
    omega
  · obtain ⟨d, rfl⟩ := Nat.exists_eq_add_of_le (show k ≤ i by omega)
    have := upS_fall (p := p) (q := q) k d (fun s a b => by have := h2 s a b; unfold sgn; rw [if_neg (by omega)])
    omega
theorem costN_congr {n : Nat} {C C' X : Nat → Nat → Int} (h : ∀ i k, i < n → k < n → C i k = C' i k) : costN n C X = costN n C' X :=
  sumG_congr fun i hi => sumG_congr fun k hk => by rw [h i k hi hk]
theorem dis_costs {p q : List Int} (h : alikeB p q = true) : okC p q (tab p.length dis) = true := by
  obtain ⟨s1, s2, s3, s4⟩ := alikeB_iff.1 h
  have l8 := (spreadB_iff.1 s1).1
  rw [okC, h, Bool.true_and]
  refine costsB_iff.2 ⟨tab_len _ _, fun i hi => costRow_iff.2 ?_⟩
  rw [tab_len] at hi
  rw [tab_row _ hi]
  refine ⟨by rw [lst_len, s3], fun x hx => ?_⟩
  obtain ⟨k, hk, rfl⟩ := List.getElem_of_mem hx
  rw [lst_len] at hk
  rw [← nth_eq (by rw [lst_len]; exact hk), lst_nth _ hk]
  unfold dis; omega
theorem dis_laws {p q : List Int} (h : alikeB p q = true) : okC p q (tab p.length dis) = true ∧ pcOk p q (sortedV p q) (tab p.length dis) = true ∧ leastV p q (tab p.length dis) = earV p q ∧ pcV p q (sortedV p q) (tab p.length dis) = earV p q := by
  have h1 := dis_costs h
  have es : sortedV p q = sortedM p q := by rw [sortedV, h]; rfl
  have h2 : pcOk p q (sortedV p q) (tab p.length dis) = true := by
    rw [pcOk, es, okB_sorted h, Bool.true_and]
    rw [okC, h, Bool.true_and] at h1; exact h1
  have hC : ∀ i k, i < p.length → k < p.length → cellT (tab p.length dis) i k = dis i k := fun i k hi hk => tab_cell dis hi hk
  have he : earV p q = earTo p q p.length := by rw [earV, h]; rfl
  have h4 : pcV p q (sortedV p q) (tab p.length dis) = earV p q := by
    rw [pcV, h2]
    show costTo _ _ p.length p.length = _
    rw [costTo_N, costN_congr hC, he, es, ← ear_pots h]
    exact plan_eq (plan_N (okB_sorted h)) fun i k hi hk h0 => sorted_tight h i k hi hk h0
  refine ⟨h1, h2, ?_, h4⟩
  have h5 := (least_le h2).2
  rw [h4] at h5
  obtain ⟨F, X, a, b, R, hv⟩ := least_is h1
  have h6 : earV p q ≤ leastV p q (tab p.length dis) := by
    rw [hv, costN_congr hC, he, ← ear_pots h]
    exact plan_ge R.plan fun i k _ _ => upS_le p q i k
  omega
end Go.Proofs.Ytboekndojgbkfaa
