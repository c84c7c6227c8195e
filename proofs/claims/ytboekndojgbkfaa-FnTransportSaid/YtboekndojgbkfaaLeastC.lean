import Derived.Test.YtboekndojgbkfaaLeastF
/- The walk of the reference's cheapest plan. -/
set_option linter.unusedVariables false
namespace Go.Proofs.Ytboekndojgbkfaa
open Go.ChangeShapes Go.WideShapes Go.ChangeAt Go.RowKit
/-- What stays so from unit to unit. -/
structure RunS (F : Int) (n : Nat) (C X : Nat → Nat → Int) (p q h l : Nat → Int) (u : Nat) : Prop where
  flow : Flow n C X p q h l (F * (40 - (u : Int))) F
  sh : sumG n h = u
  sl : sumG n l = u
  u40 : u ≤ 40
theorem spread_sumG {p : List Int} {n : Nat} (hp : spreadB p = true) (hn : p.length = n) : wsum p = sumG n (nth p) ∧ 1 ≤ sumG n (nth p) ∧ sumG n (nth p) ≤ 40 := by
  have h1 := spread_sumTo hp
  have h2 := (spreadB_iff.1 hp).2.2
  rw [hn] at h1
  have h3 : sumTo p n = sumG n (nth p) := by
    conv => lhs; rw [lst_of hn]
    exact lst_sum n (nth p) n (Nat.le_refl _)
  omega
theorem RunS.start {F : Int} {n : Nat} {C : Nat → Nat → Int} {p q : List Int} (hal : alikeB p q = true) (hn : p.length = n) (hF : 0 ≤ F) (hC : ∀ i k, i < n → k < n → 0 ≤ C i k ∧ C i k ≤ 99) {u : Nat} (hu : wsum p = u) : RunS F n C (fun _ _ => 0) (nth p) (nth q) (nth p) (nth q) u := by
  obtain ⟨s1, s2, s3, s4⟩ := alikeB_iff.1 hal
  have h1 := spread_sumG s1 hn
  have h2 := spread_sumG s2 (by omega : q.length = n)
  have hs := Flow.start (n := n) (C := C) (p := nth p) (q := nth q) (F := F) (fun i _ => (spread_nth s1 i).1) (fun i _ => (spread_nth s2 i).1) hC hF
  refine ⟨⟨hs.pos, hs.rows, hs.cols, hs.hpos, hs.lpos, ?_⟩, by omega, by omega, by omega⟩
  obtain ⟨π, h3, h4⟩ := hs.pot
  have : 0 ≤ F * (40 - (u : Int)) := Int.mul_nonneg hF (by omega)
  exact ⟨π, h3, fun y hy => by have := h4 y hy; omega⟩
/-- No distance is out of reach. -/
theorem RunS.low {F : Int} {n : Nat} {C X : Nat → Nat → Int} {p q h l : Nat → Int} {u : Nat} (R : RunS F n C X p q h l u) (hF : 0 ≤ F ∧ F ≤ 1099511627776) : ∀ s, Steps F (Arc n C X) (2 * n) (startBF F n h) s → ∀ y, y < 2 * n → -1000000000000000 ≤ s.d y ∧ s.d y ≤ F := by
  intro s hs y hy
  have h1 := R.flow.low hF.1 (R.flow.inv hF.1 hs) hy
  have h2 := R.u40
  have h3 : F * (40 - (u : Int)) ≤ 1099511627776 * 40 := Int.mul_le_mul hF.2 (by omega) (by omega) (by omega)
  omega
theorem RunS.told {F : Int} {n : Nat} {C X : Nat → Nat → Int} {p q h l : Nat → Int} {u : Nat} (R : RunS F n C X p q h l u) (hF : 0 ≤ F) : Told F n C X h (itR F n C X (startBF F n h) (2 * n)) :=
  ⟨R.flow.inv hF (itR_steps _ (Nat.zero_le _)), R.flow.fix hF⟩
/-- One unit more. -/
theorem RunS.next {F : Int} {n : Nat} {C X : Nat → Nat → Int} {p q h l : Nat → Int} {u : Nat} {s : BF} (R : RunS F n C X p q h l (u + 1)) (T : Told F n C X h s) (hF : 100 ≤ F) (hC : ∀ i k, i < n → k < n → 0 ≤ C i k ∧ C i k ≤ 99) {dep : Nat → Nat} {best k i : Nat} {Y : Nat → Nat → Int} (A : AugAt n C X s dep best k Y) (hb : best < n) (hlb : 0 < l best) (hi : i < n)
    (t1 : s.d (n + k) = s.d i + C i k) (t2 : s.d i = 0) (h0 : 0 < h i) : RunS F n C (upd2 Y i k (Y i k + 1)) p q (updI h i (h i - 1)) (updI l best (l best - 1)) u ∧ costN n C (upd2 Y i k (Y i k + 1)) = costN n C X + s.d (n + best) := by
  obtain ⟨h1, h2⟩ := AugAt.done R.flow T hF hC A hb hlb hi t1 t2 h0
  have e : F * (40 - ((u + 1 : Nat) : Int)) + F = F * (40 - (u : Int)) := by rw [Int.natCast_add]; grind
  rw [e] at h1
  refine ⟨⟨h1, ?_, ?_, by have := R.u40; omega⟩, h2⟩
  · rw [sumG_upd _ _ hi, R.sh]; omega
  · rw [sumG_upd _ _ hb, R.sl]; omega
/-- Where a unit stands on its way back: at an end k, or at a spot i with one unit laid to k. -/
def Place (F : Int) (n : Nat) (C X : Nat → Nat → Int) (s : BF) (dep : Nat → Nat) (best v : Nat) (Y : Nat → Nat → Int) : Prop :=
  (∃ k, k < n ∧ v = n + k ∧ AugAt n C X s dep best k Y) ∨ ∃ i k Y0, i < n ∧ k < n ∧ v = i ∧ AugAt n C X s dep best k Y0 ∧ Y = upd2 Y0 i k (Y0 i k + 1) ∧ dep i < dep (n + k) ∧ s.d (n + k) = s.d i + C i k ∧ s.d i < F
theorem Place.lt {F : Int} {n : Nat} {C X : Nat → Nat → Int} {s : BF} {dep : Nat → Nat} {best v : Nat} {Y : Nat → Nat → Int} (h : Place F n C X s dep best v Y) : v < 2 * n := by
  rcases h with ⟨k, h1, rfl, _⟩ | ⟨i, k, Y0, h1, _, rfl, _⟩ <;> omega
section
variable {F : Int} {n : Nat} {C X : Nat → Nat → Int} {p q h l : Nat → Int} {u : Nat} {s : BF} {dep : Nat → Nat} {best v : Nat} {Y : Nat → Nat → Int}
theorem Place.bd (R : RunS F n C X p q h l u) (hp : ∀ i, i < n → p i ≤ 40) (P : Place F n C X s dep best v Y) {i k : Nat} (hi : i < n) (hk : k < n) : 0 ≤ Y i k ∧ Y i k ≤ 41 := by
  have key : ∀ k' Z, AugAt n C X s dep best k' Z → 0 ≤ Z i k ∧ Z i k ≤ 40 := fun k' Z A => by
    have h1 := A.pos i k hi hk
    have h2 := sumG_one (f := Z i) (fun k hk => A.pos i k hi hk) hk
    rw [A.rows i hi, R.flow.rows i hi] at h2
    have := R.flow.hpos i hi; have := hp i hi
    omega
  rcases P with ⟨k', _, _, A⟩ | ⟨i', k', Y0, hi', hk', _, A, rfl, _⟩
  · have := key _ _ A; omega
  · have h1 := key _ _ A
    by_cases e : i = i' ∧ k = k'
    · obtain ⟨rfl, rfl⟩ := e; rw [upd2_at]; omega
    · rw [upd2_ne _ _ e]; omega
/-- The next place on the way back. -/
theorem Place.back (R : RunS F n C X p q h l (u + 1)) (T : Told F n C X h s) (hF : 100 ≤ F) (hC : ∀ i k, i < n → k < n → 0 ≤ C i k ∧ C i k ≤ 99) (hb : best < n) (hlb : 0 < l best)
    (hd : ∀ x y, y < 2 * n → s.b y = ((x : Nat) : Int) → dep x < dep y) (P : Place F n C X s dep best v Y) :
    (∃ i k, i < n ∧ k < n ∧ v = n + k ∧ s.b v = (i : Int) ∧ dep i < dep v ∧ Place F n C X s dep best i (upd2 Y i k (Y i k + 1))) ∨
    (v < n ∧ s.b v = -1 ∧ 0 < h v ∧ RunS F n C Y p q (updI h v (h v - 1)) (updI l best (l best - 1)) u ∧ costN n C Y = costN n C X + s.d (n + best)) ∨
    (∃ k, v < n ∧ k < n ∧ s.b v = ((n + k : Nat) : Int) ∧ dep (n + k) < dep v ∧ Place F n C X s dep best (n + k) (upd2 Y v k (Y v k - 1))) := by
  have hs : ∃ i, i < n ∧ 0 < h i := sumG_pos (by rw [R.sh]; omega)
  rcases P with ⟨k, hk, rfl, A⟩ | ⟨i, k, Y0, hi, hk, rfl, A, rfl, d1, t1, t2⟩
  · obtain ⟨i, hi, e1, e2, e3⟩ := T.behind hF hC hs hk
    have := hd _ _ (by omega) e1
    exact .inl ⟨i, k, hi, hk, rfl, e1, this, .inr ⟨i, k, Y, hi, hk, rfl, A, rfl, this, e2, e3⟩⟩
  · rcases T.before hi t2 with ⟨e1, e2, e3⟩ | ⟨k2, hk2, e1, e2, e3⟩
    · obtain ⟨h1, h2⟩ := RunS.next R T hF hC A hb hlb hi t1 e2 e3
      exact .inr (.inl ⟨hi, e1, e3, h1, h2⟩)
    · have d2 := hd _ _ (by omega) e1
      obtain ⟨A2, _⟩ := A.next hi hk2 d1 d2 t1 e3 e2
      exact .inr (.inr ⟨k2, hi, hk2, e1, d2, .inl ⟨k2, hk2, rfl, A2⟩⟩)
end
end Go.Proofs.Ytboekndojgbkfaa
