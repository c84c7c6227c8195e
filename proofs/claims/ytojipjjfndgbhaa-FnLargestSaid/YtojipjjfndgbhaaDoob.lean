import Derived.Test.YtojipjjfndgbhaaLarge2
import Derived.Test.YtojipjjfndgbhaaCap
/- Laws of trees: what is largest on the way, and what a house is worth. Plain part. -/
set_option linter.unusedVariables false
namespace Go.Proofs.Ytojipjjfndgbhaa
open Go.ChangeShapes Go.WideShapes Go.ChangeAt Go.RowKit
theorem kid_of {P : List Int} (hp : parB P = true) {y z : Nat} (hy : y < P.length) (e : nth P y = (z : Int)) : 1 ≤ y ∧ par P y = z ∧ z < y := by
  have h0 := (parB_iff.1 hp).1
  have h1 : 1 ≤ y := by
    rcases Nat.eq_zero_or_pos y with h | h
    · subst h; rw [h0] at e; omega
    · exact h
  have h2 := par_of hp hy h1
  refine ⟨h1, ?_, ?_⟩ <;> omega
theorem kidUp_le {P : List Int} {F G : Nat → Int} {z : Nat} : ∀ k, (∀ y, y < k → nth P y = (z : Int) → F y ≤ G y) → kidUp P F z k ≤ kidUp P G z k
  | 0, _ => by simp [kidUp]
  | k + 1, h => by
    have := kidUp_le k (fun y hy => h y (by omega))
    rw [kidUp, kidUp]
    by_cases e : nth P k = (z : Int)
    · rw [if_pos e, if_pos e]; have := h k (by omega) e; omega
    · rw [if_neg e, if_neg e]; omega
theorem kidUp_mulc {P : List Int} {F : Nat → Int} {z : Nat} (c : Int) : ∀ k, kidUp P (fun y => c * F y) z k = c * kidUp P F z k
  | 0 => by simp [kidUp]
  | k + 1 => by
    rw [kidUp, kidUp, kidUp_mulc c k, Int.mul_add]
    split <;> simp
theorem kidUp_same {P : List Int} {F G : Nat → Int} {z : Nat} (k : Nat) (h : ∀ y, y < k → nth P y = (z : Int) → F y = G y) : kidUp P F z k = kidUp P G z k :=
  Int.le_antisymm (kidUp_le k fun y hy e => Int.le_of_eq (h y hy e)) (kidUp_le k fun y hy e => Int.le_of_eq (h y hy e).symm)
theorem tree_back {n : Nat} {C : Nat → Prop} (h : ∀ x, x < n → (∀ y, x < y → y < n → C y) → C x) : ∀ x, x < n → C x := by
  have key : ∀ d x, x < n → n - x ≤ d → C x := by
    intro d
    induction d with
    | zero => intro x hx hd; omega
    | succ d ih => intro x hx hd; exact h x hx fun y hy hyn => ih y hyn (by omega)
  intro x hx
  exact key n x hx (by omega)
theorem mul_nn {a b : Int} (ha : 0 ≤ a) (hb : 0 ≤ b) : 0 ≤ a * b := Int.mul_nonneg ha hb
theorem gath_end {P W : List Int} (ht : treeB P W = true) {z : Nat} (hz : z < P.length) (he : endB P z = true) : nth (gathM P W) z = nth W z := by
  obtain ⟨h1, h2, h3, h4⟩ := treeB_iff.1 ht
  rw [gath_up h3 h2 z hz, kidUp_end _ he]; omega
/-- No more weight than there is. -/
theorem tot_le {P W : List Int} {F : Nat → Int} (ht : treeB P W = true) (hF : ∀ x, 0 ≤ F x ∧ F x ≤ 1) : ∀ z, z < P.length → nth (totalsM P W (enM P F)) z ≤ nth (gathM P W) z := by
  obtain ⟨h1, h2, h3, h4⟩ := treeB_iff.1 ht
  refine tree_back fun z hz ih => ?_
  rw [tot_up h3 hz, gath_up h3 h2 z hz]
  have hk := kidUp_le (P := P) (F := nth (totalsM P W (enM P F))) (G := nth (gathM P W)) (z := z) P.length (fun y hy e => ih y (kid_of h3 hy e).2.2 hy)
  have hw := tree_wei ht z
  have he : enA P W F z ≤ nth W z := by
    unfold enA
    split
    · have h5 := hF z
      rcases (show F z = 0 ∨ F z = 1 by omega) with e | e
      · rw [e]; omega
      · rw [e]; omega
    · omega
  omega
/-- The level on the way. -/
theorem doob_low {P W X : List Int} {v : Int} (h : evenB P W X = true) (hv : 1 ≤ v) : ∀ z, z < P.length → (z = 0 ∨ topM P X (par P z) < v) → v * nth (totalsM P W (enM P (chF P X v))) z ≤ prodF P W X z := by
  obtain ⟨ht, hx, hf, hX⟩ := evenB_parts h
  obtain ⟨h1, h2, h3, h4⟩ := treeB_iff.1 ht
  refine tree_back (C := fun z => (z = 0 ∨ topM P X (par P z) < v) → v * nth (totalsM P W (enM P (chF P X v))) z ≤ prodF P W X z) fun z hz ih hq => ?_
  have hs := sums_pos ht z hz
  have hXz := hX z
  by_cases htop : v ≤ topM P X z
  · have hXv : v ≤ nth X z := by
      rcases Nat.eq_zero_or_pos z with e | e
      · subst e; rw [topM_zero] at htop; exact htop
      · rw [topM_succ h3 hz e] at htop
        rcases hq with e2 | e2
        · omega
        · omega
    have hT := tot_le (F := chF P X v) ht (chF_bd P X v) z hz
    have a1 : v * nth (totalsM P W (enM P (chF P X v))) z ≤ v * nth (gathM P W) z := Int.mul_le_mul_of_nonneg_left hT (by omega)
    have a2 : v * nth (gathM P W) z ≤ nth X z * nth (gathM P W) z := Int.mul_le_mul_of_nonneg_right hXv (by omega)
    unfold prodF
    rw [Int.mul_comm (nth (gathM P W) z)]
    omega
  · rw [tot_up h3 hz]
    have hk : v * kidUp P (nth (totalsM P W (enM P (chF P X v)))) z P.length ≤ kidUp P (prodF P W X) z P.length := by
      rw [← kidUp_mulc]
      refine kidUp_le _ fun y hy e => ?_
      obtain ⟨k1, k2, k3⟩ := kid_of h3 hy e
      exact ih y k3 hy (.inr (by rw [k2]; omega))
    by_cases he : endB P z = true
    · have e0 : enA P W (chF P X v) z = 0 := by
        unfold enA chF; rw [if_pos he, if_neg htop]; simp
      rw [e0, kidUp_end _ he]
      have := mul_nn (a := nth (gathM P W) z) (b := nth X z) (by omega) (by omega)
      unfold prodF; omega
    · have e0 : enA P W (chF P X v) z = 0 := by unfold enA; rw [if_neg he]
      rw [e0, Int.zero_add, (flat_iff ht).1 hf z hz (by simpa using he)]
      exact hk
theorem doob_high {P W X : List Int} (h : evenB P W X = true) : ∀ z, z < P.length → prodF P W X z ≤ nth (totalsM P W (pkM P X)) z := by
  obtain ⟨ht, hx, hf, hX⟩ := evenB_parts h
  obtain ⟨h1, h2, h3, h4⟩ := treeB_iff.1 ht
  refine tree_back fun z hz ih => ?_
  have hk := kidUp_le (P := P) (F := prodF P W X) (G := nth (totalsM P W (pkM P X))) (z := z) P.length (fun y hy e => ih y (kid_of h3 hy e).2.2 hy)
  unfold pkM at hk ⊢
  rw [tot_up h3 hz]
  by_cases he : endB P z = true
  · have hw := tree_wei ht z
    have hge : nth X z ≤ topM P X z := by
      rcases Nat.eq_zero_or_pos z with e | e
      · subst e; rw [topM_zero]; omega
      · rw [topM_succ h3 hz e]; omega
    have e0 : enA P W (topM P X) z = topM P X z * nth W z := by unfold enA; rw [if_pos he]
    rw [e0, kidUp_end _ he]
    have a2 : nth X z * nth W z ≤ topM P X z * nth W z := Int.mul_le_mul_of_nonneg_right hge (by omega)
    unfold prodF
    rw [gath_end ht hz he, Int.mul_comm (nth W z)]; omega
  · have e0 : enA P W (topM P X) z = 0 := by unfold enA; rw [if_neg he]
    rw [e0, Int.zero_add, (flat_iff ht).1 hf z hz (by simpa using he)]
    exact hk
/-- The chance times the level is at most the number of the root. -/
theorem chance_le {P W X : List Int} {v : Int} (h : lcB P W X v = true) : ¬ nth X 0 * (lcV P W X v).2 < (lcV P W X v).1 * v := by
  obtain ⟨he, hv⟩ := lcB_parts h
  obtain ⟨ht, _⟩ := evenB_parts he
  have hn := (treeB_iff.1 ht).1.1
  have h1 := doob_low he hv.1 0 (by omega) (.inl rfl)
  obtain ⟨f1, f2⟩ := lc_fit he v
  obtain ⟨c1, c2⟩ := low_cross f1 f2
  rw [lcV, h]
  simp only [cond_true]
  change v * lcS P W X v ≤ nth (gathM P W) 0 * nth X 0 at h1
  generalize lcS P W X v = T at *
  generalize nth (gathM P W) 0 = s at *
  generalize lowA T s = A at *
  generalize lowB T s = B at *
  generalize nth X 0 = x at *
  intro hlt
  have k1 : x * B * s < A * v * s := Int.mul_lt_mul_of_pos_right hlt f2.1
  have k2 : v * T * B ≤ s * x * B := Int.mul_le_mul_of_nonneg_right h1 (by omega)
  have k3 : A * v * s = v * T * B := by rw [Int.mul_right_comm, c1, Int.mul_right_comm, Int.mul_comm T v]
  have k4 : x * B * s = s * x * B := by rw [Int.mul_comm s x, Int.mul_right_comm]
  omega
theorem largest_ge {P W X : List Int} (h : evenB P W X = true) : nth X 0 * (lmV P W X).2 ≤ (lmV P W X).1 := by
  obtain ⟨ht, _⟩ := evenB_parts h
  have hn := (treeB_iff.1 ht).1.1
  have h1 := doob_high h 0 (by omega)
  obtain ⟨f1, f2⟩ := lm_fit h
  obtain ⟨c1, c2⟩ := low_cross f1 f2
  rw [lmV, h]
  simp only [cond_true]
  change nth (gathM P W) 0 * nth X 0 ≤ lmS P W X at h1
  generalize lmS P W X = T at *
  generalize nth (gathM P W) 0 = s at *
  generalize lowA T s = A at *
  generalize lowB T s = B at *
  generalize nth X 0 = x at *
  refine Int.le_of_mul_le_mul_right (a := s) ?_ f2.1
  have k2 : s * x * B ≤ T * B := Int.mul_le_mul_of_nonneg_right h1 (by omega)
  have k4 : x * B * s = s * x * B := by rw [Int.mul_comm s x, Int.mul_right_comm]
  omega
/-- The value of a house is at least the price and the mean below. -/
theorem cap_pay {P W X : List Int} (ht : treeB P W = true) (z : Nat) (hz : z < P.length) : payS P W X z ≤ nth (capM P W X) z := by
  obtain ⟨h1, h2, h3, h4⟩ := treeB_iff.1 ht
  rw [cap_rec h3 h1.2 z hz]
  split <;> omega
theorem cap_tot {P W X : List Int} (ht : treeB P W = true) : ∀ z, z < P.length → nth (totalsM P W (pvM P X)) z ≤ nth (capM P W X) z := by
  obtain ⟨h1, h2, h3, h4⟩ := treeB_iff.1 ht
  rw [pv_en]
  refine tree_back fun z hz ih => ?_
  have hk := kidUp_le (P := P) (F := nth (totalsM P W (enM P (nth X)))) (G := nth (capM P W X)) (z := z) P.length (fun y hy e => ih y (kid_of h3 hy e).2.2 hy)
  rw [tot_up h3 hz, cap_rec h3 h1.2 z hz, ← kidUp_sum h3 h1.1]
  by_cases he : endB P z = true
  · have e0 : enA P W (nth X) z = nth X z * nth W z := by unfold enA; rw [if_pos he]
    rw [e0, kidUp_end _ he, if_pos he, payS, gath_end ht hz he, Int.mul_comm]; omega
  · have e0 : enA P W (nth X) z = 0 := by unfold enA; rw [if_neg he]
    rw [e0, if_neg he]; omega
theorem flat_tot {P W X : List Int} (ht : treeB P W = true) (hf : flatB P W X = true) : ∀ z, z < P.length → nth (totalsM P W (pvM P X)) z = payS P W X z := by
  obtain ⟨h1, h2, h3, h4⟩ := treeB_iff.1 ht
  rw [pv_en]
  refine tree_back fun z hz ih => ?_
  have hk := kidUp_same (P := P) (F := nth (totalsM P W (enM P (nth X)))) (G := prodF P W X) (z := z) P.length (fun y hy e => ih y (kid_of h3 hy e).2.2 hy)
  rw [tot_up h3 hz]
  by_cases he : endB P z = true
  · have e0 : enA P W (nth X) z = nth X z * nth W z := by unfold enA; rw [if_pos he]
    rw [e0, kidUp_end _ he, payS, gath_end ht hz he, Int.mul_comm]; omega
  · have e0 : enA P W (nth X) z = 0 := by unfold enA; rw [if_neg he]
    rw [e0, Int.zero_add, hk]
    exact ((flat_iff ht).1 hf z hz (by simpa using he)).symm
theorem fall_cap {P W X : List Int} (ht : treeB P W = true) (hf : fallB P W X = true) : ∀ z, z < P.length → nth (capM P W X) z = payS P W X z := by
  obtain ⟨h1, h2, h3, h4⟩ := treeB_iff.1 ht
  refine tree_back fun z hz ih => ?_
  have hk := kidUp_same (P := P) (F := nth (capM P W X)) (G := prodF P W X) (z := z) P.length (fun y hy e => ih y (kid_of h3 hy e).2.2 hy)
  rw [cap_rec h3 h1.2 z hz, ← kidUp_sum h3 h1.1, hk]
  by_cases he : endB P z = true
  · rw [if_pos he]
  · rw [if_neg he]
    have := fallB_iff.1 hf z hz
    rw [drA_eq ht hz, if_neg he] at this
    have e : prodF P W X z = payS P W X z := rfl
    omega
end Go.Proofs.Ytojipjjfndgbhaa
