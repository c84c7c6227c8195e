import Derived.Test.YtfjonnpaoeillaaSharesM
/- Plain laws of splits: all splits are tried, the best one is best, that of a multiple of the weights' sum is in proportion. -/
set_option linter.unusedVariables false
namespace Go.Proofs.Ytfjonnpaoeillaa
open Go.ChangeShapes Go.WideShapes Go.ChangeAt Go.RowKit

def toI (l : List Nat) : List Int := l.map fun n : Nat => (n : Int)
theorem toI_len (l : List Nat) : (toI l).length = l.length := by simp [toI]
def nthN (l : List Nat) (i : Nat) : Nat := l[i]?.getD 0
theorem toI_nth (l : List Nat) (i : Nat) : nth (toI l) i = (nthN l i : Nat) := by
  unfold nth nthN toI
  rw [List.getElem?_map]
  cases l[i]? <;> rfl
theorem of_nn {xs : List Int} (h : ∀ x ∈ xs, 0 ≤ x) : ∃ l : List Nat, xs = toI l := by
  induction xs with
  | nil => exact ⟨[], rfl⟩
  | cons x r ih =>
    obtain ⟨l, rfl⟩ := ih fun y hy => h y (by simp [hy])
    obtain ⟨n, rfl⟩ := Int.eq_ofNat_of_zero_le (h x (by simp))
    exact ⟨n :: l, rfl⟩
theorem wsum_toI_from (l : List Nat) : ∀ a : Nat, a + l.sum ≤ 9223372036854775807 → (toI l).foldl (fun a x => wrap64 (a + x)) (a : Int) = ((a + l.sum : Nat) : Int) := by
  induction l with
  | nil => intro a _; simp [toI]
  | cons n l ih =>
    intro a h
    rw [List.sum_cons] at h
    have e : wrap64 ((a : Int) + (n : Int)) = ((a + n : Nat) : Int) := by unfold wrap64; omega
    show (toI l).foldl (fun a x => wrap64 (a + x)) (wrap64 ((a : Int) + (n : Int))) = _
    rw [e, ih (a + n) (by omega), List.sum_cons, Nat.add_assoc]
theorem wsum_toI (l : List Nat) (h : l.sum ≤ 9223372036854775807) : wsum (toI l) = (l.sum : Nat) := by
  have := wsum_toI_from l 0 (by omega)
  rw [Nat.zero_add] at this
  exact this
theorem sum_ge {l : List Nat} {n : Nat} (h : n ∈ l) : n ≤ l.sum := by
  induction l with
  | nil => cases h
  | cons a l ih =>
    rw [List.sum_cons]
    rcases List.mem_cons.1 h with rfl | h
    · omega
    · have := ih h; omega
theorem sum_le_mul {l : List Nat} {M : Nat} (h : ∀ n ∈ l, n ≤ M) : l.sum ≤ M * l.length := by
  induction l with
  | nil => simp
  | cons a l ih =>
    have h1 := h a (by simp)
    have h2 := ih fun n hn => h n (by simp [hn])
    rw [List.sum_cons, List.length_cons, Nat.mul_add]; omega
/-- The splits of n are the lists of the right length with the sum n. -/
theorem splitsM_mem (k : Nat) : ∀ n (r : List Int), r ∈ splitsM k n ↔ ∃ l : List Nat, r = toI l ∧ l.length = k + 1 ∧ l.sum = n := by
  induction k with
  | zero =>
    intro n r
    simp only [splitsM, List.mem_singleton]
    constructor
    · rintro rfl; exact ⟨[n], rfl, rfl, by simp⟩
    · rintro ⟨l, rfl, hl, hs⟩
      match l, hl with
      | [m], _ => simp at hs; subst hs; rfl
  | succ k ih =>
    intro n r
    simp only [splitsM, List.mem_flatMap, List.mem_map, List.mem_range]
    constructor
    · rintro ⟨f, hf, r', hr', rfl⟩
      obtain ⟨l, rfl, hl, hs⟩ := (ih _ _).1 hr'
      exact ⟨f :: l, rfl, by simp [hl], by rw [List.sum_cons, hs]; omega⟩
    · rintro ⟨l, rfl, hl, hs⟩
      match l, hl with
      | f :: l, hl =>
        rw [List.sum_cons] at hs
        exact ⟨f, by omega, toI l, (ih _ _).2 ⟨l, rfl, by simpa using hl, by omega⟩, rfl⟩

def prodTo (ws ss : List Nat) : Nat → Nat
  | 0 => 1
  | k + 1 => prodTo ws ss k * nthN ss k ^ nthN ws k
def prodN : List Nat → List Nat → Nat
  | w :: ws, s :: ss => Nat.mul (Nat.pow s w) (prodN ws ss)
  | _, _ => 1
theorem prodTo_cons (w s : Nat) (ws ss : List Nat) (k : Nat) : prodTo (w :: ws) (s :: ss) (k + 1) = s ^ w * prodTo ws ss k := by
  induction k with
  | zero => simp [prodTo, nthN]
  | succ k ih =>
    rw [prodTo, ih, prodTo, Nat.mul_assoc]
    simp [nthN]
theorem prodTo_all : ∀ (ws ss : List Nat), ss.length = ws.length → prodTo ws ss ws.length = prodN ws ss := by
  intro ws
  induction ws with
  | nil => intro ss _; simp [prodTo, prodN]
  | cons w ws ih =>
    intro ss h
    match ss, h with
    | s :: ss, h =>
      rw [List.length_cons, prodTo_cons, ih ss (by simpa using h)]; rfl
theorem nthN_le {l : List Nat} {M : Nat} (h : ∀ n ∈ l, n ≤ M) (i : Nat) : nthN l i ≤ M := by
  unfold nthN
  by_cases hi : i < l.length
  · rw [List.getElem?_eq_getElem hi]; exact h _ (List.getElem_mem hi)
  · rw [List.getElem?_eq_none (by omega)]; simp
theorem prodTo_le {ws ss : List Nat} (hw : ∀ n ∈ ws, n ≤ 4) (hs : ∀ n ∈ ss, n ≤ 12) (k : Nat) : prodTo ws ss k ≤ 20736 ^ k := by
  induction k with
  | zero => simp [prodTo]
  | succ k ih =>
    have h1 : nthN ss k ^ nthN ws k ≤ 12 ^ nthN ws k := Nat.pow_le_pow_left (nthN_le hs k) _
    have h2 : 12 ^ nthN ws k ≤ 12 ^ 4 := Nat.pow_le_pow_right (by omega) (nthN_le hw k)
    have h3 := Nat.mul_le_mul ih (show nthN ss k ^ nthN ws k ≤ 20736 by omega)
    rw [prodTo, Nat.pow_succ]; exact h3
theorem sgW_nat {ws ss : List Nat} (hw : ∀ n ∈ ws, n ≤ 4) (hs : ∀ n ∈ ss, n ≤ 12) (k : Nat) (hk : k ≤ 4) : sgW (toI ws) (toI ss) k = (prodTo ws ss k : Nat) := by
  induction k with
  | zero => rfl
  | succ k ih =>
    have h1 := prodTo_le hw hs (k + 1)
    have h2 : 20736 ^ (k + 1) ≤ 20736 ^ 4 := Nat.pow_le_pow_right (by omega) hk
    have hM : ∀ j, j ≤ nthN ws k → 12 ^ j ≤ 9223372036854775807 := fun j hj => by
      have h4 := nthN_le hw k
      have : 12 ^ j ≤ 12 ^ 4 := Nat.pow_le_pow_right (by omega) (by omega)
      omega
    rw [sgW, ih (by omega), toI_nth, toI_nth, Int.toNat_natCast, powW_nat _ _ 12 (nthN_le hs k) hM, ← Int.natCast_mul]
    show wrap64 ((prodTo ws ss (k + 1) : Nat) : Int) = _
    unfold wrap64; omega

theorem bI_most (ws : List Int) (L : List (List Int)) (i : Nat) : ∀ j, j < i → sgW ws (nthL L j) ws.length ≤ sgW ws (nthL L (bI ws L i)) ws.length := by
  induction i with
  | zero => intro j hj; omega
  | succ i ih =>
    intro j hj
    unfold bI
    by_cases h : sgW ws (nthL L (bI ws L i)) ws.length < sgW ws (nthL L i) ws.length
    · rw [if_pos h]
      by_cases e : j = i
      · subst e; exact Int.le_refl _
      · have := ih j (by omega); omega
    · rw [if_neg h]
      by_cases e : j = i
      · subst e; omega
      · exact ih j (by omega)
theorem bI_lt {ws : List Int} {L : List (List Int)} (h : 0 < L.length) : bI ws L L.length < L.length := by
  have := bI_le ws L L.length; omega
theorem bsOk_iff {ws : List Int} {n : Int} : bsOk ws n = true ↔ raceB ws = true ∧ 0 ≤ n ∧ n ≤ 12 := by rw [bsOk, Bool.and_eq_true, inB_iff]
/-- The weights of a race as natural numbers. -/
theorem race_nat {ws : List Int} (h : raceB ws = true) : ∃ l : List Nat, ws = toI l ∧ (1 ≤ l.length ∧ l.length ≤ 4) ∧ ∀ n ∈ l, 1 ≤ n ∧ n ≤ 4 := by
  obtain ⟨h1, h2, h3⟩ := raceB_iff.1 h
  obtain ⟨l, rfl⟩ := of_nn (xs := ws) fun x hx => by have := h3 x hx; omega
  rw [toI_len] at h1 h2
  refine ⟨l, rfl, ⟨h1, h2⟩, fun n hn => ?_⟩
  have := h3 (n : Int) (List.mem_map.2 ⟨n, hn, rfl⟩)
  omega
/-- The best split is one of the splits, and none has more growth. -/
theorem bs_split {ws : List Int} {n : Int} (h : bsOk ws n = true) : bsV ws n ∈ bsL ws n ∧ ∀ r ∈ bsL ws n, sgW ws r ws.length ≤ sgW ws (bsV ws n) ws.length := by
  have hp : 0 < (bsL ws n).length := splitsM_pos _ _
  have hlt := bI_lt (ws := ws) hp
  rw [bsV, h]
  show nthL (bsL ws n) (bI ws (bsL ws n) (bsL ws n).length) ∈ bsL ws n ∧ ∀ r ∈ bsL ws n, sgW ws r ws.length ≤ sgW ws (nthL (bsL ws n) (bI ws (bsL ws n) (bsL ws n).length)) ws.length
  refine ⟨by rw [nthL_eq hlt]; exact List.getElem_mem hlt, fun r hr => ?_⟩
  obtain ⟨j, hj, rfl⟩ := List.getElem_of_mem hr
  rw [← nthL_eq hj]
  exact bI_most _ _ _ _ hj
theorem sgOk_iff {ws ss : List Int} : sgOk ws ss = true ↔ raceB ws = true ∧ ss.length = ws.length ∧ (∀ x ∈ ss, 0 ≤ x ∧ x ≤ 12) ∧ wsum ss ≤ 12 := by
  simp [sgOk, allB_iff, and_assoc]
theorem split_most {ws ss : List Int} (h : sgOk ws ss = true) : bsOk ws (wsum ss) = true ∧ sgOk ws (bsV ws (wsum ss)) = true ∧ sgV ws ss ≤ sgV ws (bsV ws (wsum ss)) := by
  obtain ⟨h1, h2, h3, h4⟩ := sgOk_iff.1 h
  obtain ⟨wn, rfl, hl, hw⟩ := race_nat h1
  obtain ⟨sn, rfl⟩ := of_nn (xs := ss) fun x hx => (h3 x hx).1
  rw [toI_len, toI_len] at h2
  have hs12 : ∀ n ∈ sn, n ≤ 12 := fun n hn => by have := h3 (n : Int) (List.mem_map.2 ⟨n, hn, rfl⟩); omega
  have hsum := sum_le_mul hs12
  have hsum2 := Nat.mul_le_mul_left 12 (show sn.length ≤ 4 by omega)
  have hws := wsum_toI sn (by omega)
  rw [hws] at h4 ⊢
  have hb : bsOk (toI wn) ((sn.sum : Nat) : Int) = true := bsOk_iff.2 ⟨h1, by omega, h4⟩
  obtain ⟨hm, hmost⟩ := bs_split hb
  have hin : toI sn ∈ bsL (toI wn) ((sn.sum : Nat) : Int) := by
    rw [bsL, Int.toNat_natCast, toI_len]
    exact (splitsM_mem _ _ _).2 ⟨sn, rfl, by omega, rfl⟩
  have hle := hmost _ hin
  rw [bsL, Int.toNat_natCast, toI_len] at hm
  obtain ⟨bn, hbn, hbl, hbs⟩ := (splitsM_mem _ _ _).1 hm
  have hb12 : ∀ n ∈ bn, n ≤ 12 := fun n hn => by have := sum_ge hn; omega
  have hok : sgOk (toI wn) (bsV (toI wn) ((sn.sum : Nat) : Int)) = true := by
    refine sgOk_iff.2 ⟨h1, by rw [hbn, toI_len, toI_len]; omega, fun x hx => ?_, by rw [hbn, wsum_toI _ (by omega)]; omega⟩
    rw [hbn] at hx
    obtain ⟨n, hn, rfl⟩ := List.mem_map.1 hx
    have := hb12 n hn; omega
  refine ⟨hb, hok, ?_⟩
  rw [sgV, sgV, h, hok]
  show sgW (toI wn) (toI sn) (toI sn).length ≤ sgW (toI wn) (bsV (toI wn) ((sn.sum : Nat) : Int)) (bsV (toI wn) ((sn.sum : Nat) : Int)).length
  have e1 : (toI sn).length = (toI wn).length := by rw [toI_len, toI_len, h2]
  have e2 : (bsV (toI wn) ((sn.sum : Nat) : Int)).length = (toI wn).length := by rw [hbn, toI_len, toI_len]; omega
  rw [e1, e2]
  exact hle

/-! Splits in proportion. -/
def mx (t P : Nat) : List Nat → Nat → Nat → Nat → Bool → Bool
  | [], w, n, acc, same => (same && Nat.beq n (Nat.mul w t)) || Nat.blt (Nat.mul acc (Nat.pow n w)) P
  | v :: r, w, n, acc, same => allTo (fun f => mx t P r v (Nat.sub n f) (Nat.mul acc (Nat.pow f w)) (same && Nat.beq f (Nat.mul w t))) (Nat.succ n)
theorem mx_ok (t P : Nat) : ∀ (r : List Nat) (w n acc : Nat) (same : Bool), mx t P r w n acc same = true → ∀ s : List Nat, s.length = r.length + 1 → s.sum = n →
    (same = true ∧ s = (w :: r).map (· * t)) ∨ acc * prodN (w :: r) s < P := by
  intro r
  induction r with
  | nil =>
    intro w n acc same h s hl hs
    match s, hl with
    | [m], _ =>
      simp at hs; subst hs
      simp only [mx, Bool.or_eq_true, Bool.and_eq_true] at h
      rcases h with ⟨h1, h2⟩ | h
      · exact .inl ⟨h1, by have : m = w * t := Nat.eq_of_beq_eq_true h2; simp [this]⟩
      · right
        have : acc * m ^ w < P := by simpa [Nat.blt_eq] using h
        show acc * (m ^ w * 1) < P
        rw [Nat.mul_one]; exact this
  | cons v r ih =>
    intro w n acc same h s hl hs
    match s, hl with
    | f :: s, hl =>
      rw [List.sum_cons] at hs
      rw [mx] at h
      have h1 := allTo_at h (i := f) (by omega)
      rcases ih v _ _ _ h1 s (by simpa using hl) (by show s.sum = n - f; omega) with ⟨h2, h3⟩ | h2
      · rw [Bool.and_eq_true] at h2
        have : f = w * t := Nat.eq_of_beq_eq_true h2.2
        exact .inl ⟨h2.1, by rw [List.map_cons, ← h3, this]⟩
      · right
        have e : acc * prodN (w :: v :: r) (f :: s) = acc * f ^ w * prodN (v :: r) s := by
          show acc * (f ^ w * prodN (v :: r) s) = _
          rw [Nat.mul_assoc]
        rw [e]; exact h2
def mulAll (t : Nat) : List Nat → List Nat
  | [] => []
  | w :: r => Nat.mul w t :: mulAll t r
theorem mulAll_eq (t : Nat) (l : List Nat) : mulAll t l = l.map (· * t) := by
  induction l with
  | nil => rfl
  | cons w l ih => rw [mulAll, ih]; rfl
def sumL : List Nat → Nat
  | [] => 0
  | w :: r => Nat.add w (sumL r)
theorem sumL_eq (l : List Nat) : sumL l = l.sum := by
  induction l with
  | nil => rfl
  | cons w l ih => rw [sumL, ih, List.sum_cons]; rfl
def raceChk : Nat → List Nat → Bool
  | 0, [] => true
  | 0, w :: r => allTo (fun t => Nat.blt 12 (Nat.mul (sumL (w :: r)) (Nat.succ t)) || mx (Nat.succ t) (prodN (w :: r) (mulAll (Nat.succ t) (w :: r))) r w (Nat.mul (sumL (w :: r)) (Nat.succ t)) 1 true) 12
  | k + 1, l => allTo (fun i => raceChk k (Nat.succ i :: l)) 4
theorem raceChk_at : ∀ (k : Nat) (l m : List Nat), raceChk k l = true → m.length = k → (∀ n ∈ m, 1 ≤ n ∧ n ≤ 4) → raceChk 0 (m ++ l) = true := by
  intro k
  induction k with
  | zero => intro l m h hm _; obtain rfl := List.length_eq_zero_iff.1 hm; exact h
  | succ k ih =>
    intro l m h hm hb
    obtain ⟨m', z, rfl⟩ : ∃ m' z, m = m' ++ [z] := ⟨m.dropLast, m.getLast (by intro e; subst e; simp at hm), (List.dropLast_concat_getLast _).symm⟩
    have hz := hb z (by simp)
    obtain ⟨i, rfl⟩ : ∃ i, z = i + 1 := ⟨z - 1, by omega⟩
    rw [raceChk] at h
    have h1 := allTo_at h (i := i) (by omega)
    rw [List.append_assoc]
    exact ih _ m' h1 (by simpa using hm) fun n hn => hb n (by simp [hn])
theorem race_1 : raceChk 1 [] = true := by decide +kernel
theorem race_2 : raceChk 2 [] = true := by decide +kernel
theorem race_3 : raceChk 3 [] = true := by decide +kernel
theorem race_4 : raceChk 4 [] = true := by decide +kernel
theorem zero_of_sum {l : List Nat} (h : l.sum = 0) : l = l.map fun _ => 0 := by
  induction l with
  | nil => rfl
  | cons a l ih =>
    rw [List.sum_cons] at h
    rw [List.map_cons, ← ih (by omega), show a = 0 by omega]
theorem prop_most {wn : List Nat} (hl : 1 ≤ wn.length ∧ wn.length ≤ 4) (hw : ∀ n ∈ wn, 1 ≤ n ∧ n ≤ 4) {t : Nat} (ht : 1 ≤ t) (hs : wn.sum * t ≤ 12) (s : List Nat) (hsl : s.length = wn.length) (hss : s.sum = wn.sum * t) :
    s = wn.map (· * t) ∨ prodN wn s < prodN wn (wn.map (· * t)) := by
  have h0 : raceChk 0 (wn ++ []) = true := by
    have hk : wn.length = 1 ∨ wn.length = 2 ∨ wn.length = 3 ∨ wn.length = 4 := by omega
    rcases hk with e | e | e | e
    · exact raceChk_at 1 [] wn race_1 e hw
    · exact raceChk_at 2 [] wn race_2 e hw
    · exact raceChk_at 3 [] wn race_3 e hw
    · exact raceChk_at 4 [] wn race_4 e hw
  rw [List.append_nil] at h0
  match wn, hl with
  | w :: r, hl =>
    have hw1 := hw w (by simp)
    have ht12 : t ≤ 12 := by
      have h1 : 1 ≤ (w :: r).sum := by rw [List.sum_cons]; omega
      have := Nat.mul_le_mul_right t h1
      omega
    obtain ⟨t, rfl⟩ : ∃ z, t = z + 1 := ⟨t - 1, by omega⟩
    rw [raceChk] at h0
    have h1 := allTo_at h0 (i := t) (by omega)
    rw [Bool.or_eq_true, mulAll_eq, sumL_eq] at h1
    have h2 := h1.resolve_left (by
      intro hc
      have : 12 < (w :: r).sum * (t + 1) := by simpa [Nat.blt_eq] using hc
      omega)
    rcases mx_ok _ _ _ _ _ _ _ h2 s (by simpa using hsl) hss with ⟨_, h3⟩ | h3
    · exact .inl h3
    · right; rw [Nat.one_mul] at h3; exact h3
theorem sum_map_mul (t : Nat) (l : List Nat) : (l.map (· * t)).sum = l.sum * t := by
  induction l with
  | nil => simp
  | cons a l ih => rw [List.map_cons, List.sum_cons, List.sum_cons, ih, Nat.add_mul]
/-- The best split of a multiple of the weights' sum is in proportion to the weights. -/
theorem best_prop {ws : List Int} {m : Int} (h : bsOk ws m = true) (hd : m % wsum ws = 0) (i : Nat) (hi : i < ws.length) : nth (bsV ws m) i = nth ws i * (m / wsum ws) := by
  obtain ⟨h1, h2, h3⟩ := bsOk_iff.1 h
  obtain ⟨wn, rfl, hl, hw⟩ := race_nat h1
  obtain ⟨m, rfl⟩ := Int.eq_ofNat_of_zero_le h2
  obtain ⟨hm, hmost⟩ := bs_split h
  rw [toI_len] at hi
  have hs4 := sum_le_mul (fun n hn => (hw n hn).2)
  have hpos : 1 ≤ wn.sum := by
    obtain ⟨w, r, rfl⟩ : ∃ w r, wn = w :: r := by
      cases wn with
      | nil => simp at hl
      | cons w r => exact ⟨w, r, rfl⟩
    have := hw w (by simp)
    rw [List.sum_cons]; omega
  rw [wsum_toI _ (by omega)] at hd ⊢
  have hdn : m % wn.sum = 0 := by exact_mod_cast hd
  obtain ⟨t, ht⟩ : ∃ t, m = wn.sum * t := Nat.dvd_of_mod_eq_zero hdn
  have hdiv : (m : Int) / (wn.sum : Nat) = (t : Nat) := by
    have : m / wn.sum = t := by rw [ht]; exact Nat.mul_div_cancel_left _ hpos
    rw [← this]; simp
  rw [hdiv]
  rw [bsL, Int.toNat_natCast, toI_len] at hm hmost
  obtain ⟨bn, hbn, hbl, hbs⟩ := (splitsM_mem _ _ _).1 hm
  have hb12 : ∀ n ∈ bn, n ≤ 12 := fun n hn => by have := sum_ge hn; omega
  have key : bn = wn.map (· * t) := by
    by_cases ht0 : t = 0
    · subst ht0
      rw [Nat.mul_zero] at ht
      have hz := zero_of_sum (l := bn) (by omega)
      apply List.ext_getElem (by simp; omega)
      intro j hj1 hj2
      have hz2 : bn[j] ∈ bn := List.getElem_mem hj1
      have := sum_ge hz2
      simp; omega
    · have hsum : (wn.map (· * t)).sum = m := by rw [sum_map_mul, ht]
      have hp12 : ∀ n ∈ wn.map (· * t), n ≤ 12 := fun n hn => by have := sum_ge hn; omega
      have hin : toI (wn.map (· * t)) ∈ splitsM (wn.length - 1) m := (splitsM_mem _ _ _).2 ⟨_, rfl, by simp; omega, hsum⟩
      have hle := hmost _ hin
      rw [hbn, sgW_nat (fun n hn => (hw n hn).2) hp12 _ hl.2, sgW_nat (fun n hn => (hw n hn).2) hb12 _ hl.2, prodTo_all _ _ (by simp), prodTo_all _ _ (by omega)] at hle
      rcases prop_most hl hw (show 1 ≤ t by omega) (by omega) bn (by omega) (by omega) with e | e
      · exact e
      · omega
  rw [hbn, key, toI_nth, toI_nth]
  have : nthN (wn.map (· * t)) i = nthN wn i * t := by
    unfold nthN; rw [List.getElem?_map, List.getElem?_eq_getElem hi]; rfl
  rw [this]; simp
theorem low_bd {p q : Int} (hp : 0 ≤ p ∧ p ≤ 100) (hq : 0 < q ∧ q ≤ 100) : (0 ≤ lowP p q ∧ lowP p q ≤ 100) ∧ 0 < lowQ p q ∧ lowQ p q ≤ 100 := by
  have hg := gcd_pos (a := p) (b := q) hq.1
  have d1 : ((Int.gcd p q : Nat) : Int) ∣ p := Int.gcd_dvd_left _ _
  have d2 : ((Int.gcd p q : Nat) : Int) ∣ q := Int.gcd_dvd_right _ _
  unfold lowP lowQ
  generalize ((Int.gcd p q : Nat) : Int) = G at hg d1 d2
  obtain ⟨x, rfl⟩ := d1
  obtain ⟨y, rfl⟩ := d2
  rw [Int.mul_tdiv_cancel_left _ (by omega), Int.mul_tdiv_cancel_left _ (by omega)]
  have a1 : 0 ≤ x := Int.not_lt.1 fun h => by have := Int.mul_neg_of_pos_of_neg (show 0 < G by omega) h; omega
  have a2 : 0 < y := Int.not_le.1 fun h => by have := Int.mul_nonpos_of_nonneg_of_nonpos (show 0 ≤ G by omega) h; omega
  have a3 : x ≤ G * x := by have := Int.mul_le_mul_of_nonneg_right hg.1 a1; omega
  have a4 : y ≤ G * y := by have := Int.mul_le_mul_of_nonneg_right hg.1 (show 0 ≤ y by omega); omega
  omega
theorem best_bd {a b x y n : Int} (h : bestOk a b x y n = true) : (0 ≤ bestV a b x y n ∧ bestV a b x y n ≤ 10) ∧ (0 ≤ n ∧ n ≤ 10) ∧ (0 ≤ fairA a b x y ∧ fairA a b x y ≤ 100) ∧ (0 < fairB a b x y ∧ fairB a b x y ≤ 100) ∧
    (0 ≤ bestV a b x y n * fairB a b x y ∧ bestV a b x y n * fairB a b x y ≤ 1000) ∧ 0 ≤ n * fairA a b x y ∧ n * fairA a b x y ≤ 1000 := by
  obtain ⟨h1, h2, h3⟩ := bestOk_iff.1 h
  have hp := bet_prods h1
  have hl := bestTo_le a b x y n n.toNat
  have hb := low_bd (p := fairX a b x y) (q := (x + y) * a) (by unfold fairX; omega) (by omega)
  have e1 : bestV a b x y n = (bestTo a b x y n n.toNat : Nat) := by rw [bestV, h]; rfl
  have e2 : fairA a b x y = lowP (fairX a b x y) ((x + y) * a) := by rw [fairA, h1]; rfl
  have e3 : fairB a b x y = lowQ (fairX a b x y) ((x + y) * a) := by rw [fairB, h1]; rfl
  rw [e1, e2, e3]
  have hb1 : (0 : Int) ≤ (bestTo a b x y n n.toNat : Nat) ∧ ((bestTo a b x y n n.toNat : Nat) : Int) ≤ 10 := by omega
  generalize ((bestTo a b x y n n.toNat : Nat) : Int) = B at hb1
  generalize lowP (fairX a b x y) ((x + y) * a) = P at hb
  generalize lowQ (fairX a b x y) ((x + y) * a) = Q at hb
  have m1 := Int.mul_nonneg hb1.1 (show 0 ≤ Q by omega)
  have m2 := Int.mul_le_mul hb1.2 hb.2.2 (by omega) (show (0 : Int) ≤ 10 by omega)
  have m3 := Int.mul_nonneg (show 0 ≤ n by omega) hb.1.1
  have m4 := Int.mul_le_mul h3 hb.1.2 (by omega) (show (0 : Int) ≤ 10 by omega)
  omega
/-- The best split of a race. -/
theorem bs_facts {ws : List Int} {m : Int} (h : bsOk ws m = true) : (0 ≤ m ∧ m ≤ 12) ∧ (1 ≤ wsum ws ∧ wsum ws ≤ 16) ∧ (bsV ws m).length = ws.length ∧ ∀ i, 0 ≤ nth ws i ∧ nth ws i ≤ 4 := by
  obtain ⟨h1, h2, h3⟩ := bsOk_iff.1 h
  obtain ⟨wn, rfl, hl, hw⟩ := race_nat h1
  have hs4 := sum_le_mul (fun n hn => (hw n hn).2)
  have hpos : 1 ≤ wn.sum := by
    obtain ⟨w, r, rfl⟩ : ∃ w r, wn = w :: r := by
      cases wn with
      | nil => simp at hl
      | cons w r => exact ⟨w, r, rfl⟩
    have := hw w (by simp)
    rw [List.sum_cons]; omega
  have hm := (bs_split h).1
  rw [bsL, toI_len] at hm
  have hlen := splitsM_rows _ _ _ hm
  refine ⟨⟨h2, h3⟩, ?_, by rw [hlen, toI_len]; omega, fun i => ?_⟩
  · rw [wsum_toI _ (by omega)]; omega
  · rw [toI_nth]
    have := nthN_le (M := 4) (fun n hn => (hw n hn).2) i
    omega
end Go.Proofs.Ytfjonnpaoeillaa
