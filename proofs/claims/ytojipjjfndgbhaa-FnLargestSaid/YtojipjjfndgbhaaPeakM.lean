import Derived.Test.YtojipjjfndgbhaaFairM
/- Greatest numbers on ways to ends, and sums over ends. Plain part. -/
set_option linter.unusedVariables false
namespace Go.Proofs.Ytojipjjfndgbhaa
open Go.ChangeShapes Go.WideShapes Go.ChangeAt Go.RowKit
/-- Numbers of the ends. -/
def enTo (P : List Int) (F : Nat → Int) (k : Nat) : List Int := (List.range k).map fun i => F (nth (endsM P) i).toNat
def enM (P : List Int) (F : Nat → Int) : List Int := enTo P F (endsM P).length
theorem enTo_len (P : List Int) (F : Nat → Int) (k : Nat) : (enTo P F k).length = k := by simp [enTo]
theorem enTo_succ (P : List Int) (F : Nat → Int) (k : Nat) : enTo P F (k + 1) = enTo P F k ++ [F (nth (endsM P) k).toNat] := by simp [enTo, List.range_succ]
theorem enTo_nth {P : List Int} {F : Nat → Int} {k i : Nat} (h : i < k) : nth (enTo P F k) i = F (nth (endsM P) i).toNat := by simp [nth, enTo, h]
theorem en_bd {P : List Int} {F : Nat → Int} {lo hi : Int} (h : ∀ x, x < P.length → lo ≤ F x ∧ F x ≤ hi) (h0 : lo ≤ 0 ∧ 0 ≤ hi) {k : Nat} (hk : k ≤ (endsM P).length) (i : Nat) : lo ≤ nth (enTo P F k) i ∧ nth (enTo P F k) i ≤ hi := by
  by_cases hi : i < k
  · rw [enTo_nth hi]
    obtain ⟨y, hy, hl, _⟩ := ends_nth (P := P) (i := i) (by omega)
    rw [hy, Int.toNat_natCast]; exact h y hl
  · rw [nth_out (by rw [enTo_len]; omega)]; exact h0
theorem pv_en (P X : List Int) : pvM P X = enM P (nth X) := rfl
/-- The numbers of the ends at their nodes, times their weights. -/
def enA (P W : List Int) (F : Nat → Int) (x : Nat) : Int := if endB P x = true then F x * nth W x else 0
theorem spread_hit {P W : List Int} {F : Nat → Int} {x : Nat} (hx : x < P.length) : ∀ i, i ≤ (endsM P).length → (∃ j, j < i ∧ nth (endsM P) j = (x : Int)) → nth (spreadTo P W (enM P F) i) x = F x * nth W x
  | 0, _, h => by obtain ⟨j, hj, _⟩ := h; omega
  | i + 1, hi, h => by
    rw [spreadTo]
    have hl := spreadTo_len P W (enM P F) i
    by_cases e : nth (endsM P) i = (x : Int)
    · rw [e, Int.toNat_natCast, nth_set_same (by omega), enM, enTo_nth (by omega), e, Int.toNat_natCast]
    · obtain ⟨y, hy, _⟩ := ends_nth (P := P) (i := i) (by omega)
      rw [hy] at e ⊢
      rw [Int.toNat_natCast, nth_set_ne (by omega)]
      refine spread_hit hx i (by omega) ?_
      obtain ⟨j, hj, h2⟩ := h
      by_cases e2 : j = i
      · subst e2; rw [hy] at h2; exact absurd h2 e
      · exact ⟨j, by omega, h2⟩
theorem spread_miss {P W : List Int} {F : Nat → Int} {x : Nat} : ∀ i, i ≤ (endsM P).length → (∀ j, j < i → nth (endsM P) j ≠ (x : Int)) → nth (spreadTo P W (enM P F) i) x = 0
  | 0, _, _ => by
    rw [spreadTo]; unfold nth; rw [List.getElem?_replicate]; split <;> rfl
  | i + 1, hi, h => by
    rw [spreadTo]
    obtain ⟨y, hy, _⟩ := ends_nth (P := P) (i := i) (by omega)
    have e := h i (by omega)
    rw [hy] at e ⊢
    rw [Int.toNat_natCast, nth_set_ne (by omega)]
    exact spread_miss i (by omega) (fun j hj => h j (by omega))
theorem ends_has {P : List Int} {x : Nat} (hx : x < P.length) (he : endB P x = true) : ∃ j, j < (endsM P).length ∧ nth (endsM P) j = (x : Int) := by
  have hm : (x : Int) ∈ endsM P := by
    simp only [endsM, endsTo, List.mem_map, List.mem_filter, List.mem_range]
    exact ⟨x, ⟨hx, he⟩, rfl⟩
  obtain ⟨j, hj, h⟩ := List.getElem_of_mem hm
  exact ⟨j, hj, by rw [nth_eq hj]; exact h⟩
theorem spread_en {P W : List Int} {F : Nat → Int} {x : Nat} (hx : x < P.length) : nth (spreadM P W (enM P F)) x = enA P W F x := by
  unfold enA
  by_cases he : endB P x = true
  · rw [if_pos he]; exact spread_hit hx _ (Nat.le_refl _) (ends_has hx he)
  · rw [if_neg he]
    refine spread_miss _ (Nat.le_refl _) fun j hj e => ?_
    obtain ⟨y, hy, _, h2⟩ := ends_nth hj
    rw [hy] at e
    obtain rfl : y = x := by omega
    exact he h2
/-- What the totals are. -/
theorem tot_up {P W : List Int} {F : Nat → Int} (hp : parB P = true) {z : Nat} (hz : z < P.length) : nth (totalsM P W (enM P F)) z = enA P W F z + kidUp P (nth (totalsM P W (enM P F))) z P.length := by
  have := gath_up (a := spreadM P W (enM P F)) hp (spreadTo_len _ _ _ _) z hz
  rw [spread_en hz] at this
  exact this
theorem sumTo_setd (xs : List Int) (i : Nat) (v : Int) (hi : i < xs.length) : ∀ k, sumTo (xs.set i v) k = sumTo xs k + (if i < k then v - nth xs i else 0)
  | 0 => by simp [sumTo]
  | k + 1 => by
    rw [sumTo, sumTo, sumTo_setd xs i v hi k]
    by_cases e : i = k
    · subst e; rw [nth_set_same hi, if_neg (by omega), if_pos (by omega)]; omega
    · rw [nth_set_ne e]
      by_cases h : i < k
      · rw [if_pos h, if_pos (by omega)]; omega
      · rw [if_neg h, if_neg (by omega)]; omega
theorem gath_sum {P a : List Int} (hp : parB P = true) (hl : a.length = P.length) : ∀ j, j + 1 ≤ P.length → sumTo (gathTo P a j) (P.length - j) = sumTo a P.length
  | 0, _ => rfl
  | j + 1, hj => by
    have ih := gath_sum hp hl j (by omega)
    obtain ⟨x, hx⟩ : ∃ x, x = P.length - 1 - j := ⟨_, rfl⟩
    have h1 := par_toNat hp (x := x) (by omega) (by omega)
    have hln := gathTo_len P a j
    rw [gathTo, gathS, ← hx, show P.length - (j + 1) = x by omega, sumTo_setd _ _ _ (by omega), if_pos h1.2]
    rw [show P.length - j = x + 1 by omega, sumTo] at ih
    omega
theorem root_sum {P a : List Int} (hp : parB P = true) (hl : a.length = P.length) (hn : 1 ≤ P.length) : nth (gathM P a) 0 = sumTo a P.length := by
  have h := gath_sum hp hl (P.length - 1) (by omega)
  rw [show P.length - (P.length - 1) = 0 + 1 by omega, sumTo, sumTo] at h
  rw [gathM]; omega
/-- The sum over the first k of a list of nodes. -/
def seTo (G : Nat → Int) (L : List Int) : Nat → Int
  | 0 => 0
  | k + 1 => seTo G L k + G (nth L k).toNat
theorem seTo_app (G : Nat → Int) (L M : List Int) : ∀ k, k ≤ L.length → seTo G (L ++ M) k = seTo G L k
  | 0, _ => rfl
  | k + 1, h => by
    rw [seTo, seTo, seTo_app G L M k (by omega)]
    congr 3
    unfold nth
    rw [List.getElem?_append_left (by omega)]
theorem se_ends {P : List Int} {G : Nat → Int} {a : List Int} : ∀ k, (∀ x, x < k → nth a x = if endB P x = true then G x else 0) → seTo G (endsTo P k) (endsTo P k).length = sumTo a k
  | 0, _ => rfl
  | k + 1, h => by
    have ih := se_ends k (fun x hx => h x (by omega))
    have hk := h k (by omega)
    rw [endsTo_succ, sumTo, hk, ← ih]
    by_cases e : endB P k = true
    · rw [if_pos e, if_pos e, List.length_append, List.length_singleton, seTo, seTo_app _ _ _ _ (Nat.le_refl _)]
      congr 2
      simp [nth]
    · rw [if_neg e, if_neg e]; omega
theorem tot_root {P W : List Int} {F : Nat → Int} (hp : parB P = true) (hn : 1 ≤ P.length) : nth (totalsM P W (enM P F)) 0 = seTo (fun x => F x * nth W x) (endsM P) (endsM P).length := by
  rw [totalsM, root_sum (a := spreadM P W (enM P F)) hp (spreadTo_len _ _ _ _) hn, endsM]
  refine (se_ends P.length fun x hx => ?_).symm
  rw [spread_en hx]; rfl
theorem se_bd {G : Nat → Int} {L : List Int} {lo hi : Int} (h : ∀ i, i < L.length → lo ≤ G (nth L i).toNat ∧ G (nth L i).toNat ≤ hi) : ∀ k : Nat, k ≤ L.length → lo * k ≤ seTo G L k ∧ seTo G L k ≤ hi * k
  | 0, _ => by simp [seTo]
  | k + 1, hk => by
    have ih := se_bd h k (by omega)
    have := h k (by omega)
    have e1 : lo * ((k + 1 : Nat) : Int) = lo * k + lo := by rw [Int.natCast_add, Int.mul_add]; simp
    have e2 : hi * ((k + 1 : Nat) : Int) = hi * k + hi := by rw [Int.natCast_add, Int.mul_add]; simp
    rw [seTo]; omega
/-- The greatest numbers on the ways to the ends. -/
def pkM (P X : List Int) : List Int := enM P (topM P X)
/-- Whether a number of at least a level stands on the way. -/
def chF (P X : List Int) (v : Int) (x : Nat) : Int := if v ≤ topM P X x then 1 else 0
theorem chF_bd (P X : List Int) (v : Int) (x : Nat) : 0 ≤ chF P X v x ∧ chF P X v x ≤ 1 := by unfold chF; split <;> omega
def lmS (P W X : List Int) : Int := nth (totalsM P W (pkM P X)) 0
def lcS (P W X : List Int) (v : Int) : Int := nth (totalsM P W (enM P (chF P X v))) 0
def lmV (P W X : List Int) : Int × Int := bif evenB P W X then (lowA (lmS P W X) (nth (gathM P W) 0), lowB (lmS P W X) (nth (gathM P W) 0)) else (0, 0)
def lcB (P W X : List Int) (v : Int) : Bool := evenB P W X && inB v 1 999
def lcV (P W X : List Int) (v : Int) : Int × Int := bif lcB P W X v then (lowA (lcS P W X v) (nth (gathM P W) 0), lowB (lcS P W X v) (nth (gathM P W) 0)) else (0, 0)
theorem top_bd {P W X : List Int} (ht : treeB P W = true) (hX : ∀ i, -999 ≤ nth X i ∧ nth X i ≤ 999) {x : Nat} (hx : x < P.length) : -999 ≤ topM P X x ∧ topM P X x ≤ 999 := by
  have := topM_bd (treeB_iff.1 ht).2.2.1 hX x x (Nat.le_refl _) hx
  omega
theorem top_nn {P W X : List Int} (ht : treeB P W = true) (hX : ∀ i, 0 ≤ nth X i ∧ nth X i ≤ 999) {x : Nat} (hx : x < P.length) : 0 ≤ topM P X x ∧ topM P X x ≤ 999 := by
  have := topM_bd (treeB_iff.1 ht).2.2.1 hX x x (Nat.le_refl _) hx
  omega
theorem pk_bd {P W X : List Int} (ht : treeB P W = true) (hX : ∀ i, -999 ≤ nth X i ∧ nth X i ≤ 999) (i : Nat) : -999 ≤ nth (pkM P X) i ∧ nth (pkM P X) i ≤ 999 :=
  en_bd (fun x hx => top_bd ht hX hx) (by omega) (Nat.le_refl _) i
end Go.Proofs.Ytojipjjfndgbhaa
