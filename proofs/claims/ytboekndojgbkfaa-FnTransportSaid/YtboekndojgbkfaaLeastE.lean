import Derived.Test.YtboekndojgbkfaaLeastD
import Derived.Test.YtboekndojgbkfaaPlan4
/- The reference's least cost. -/
set_option linter.unusedVariables false
namespace Go.Proofs.Ytboekndojgbkfaa
open Go.ChangeShapes Go.WideShapes Go.ChangeAt Go.RowKit
/-- The cost of a full flow of least cost. -/
def IsLeast (p q : List Int) (T : List (List Int)) (v : Int) : Prop := ∃ (F : Int) (X : Nat → Nat → Int) (h l : Nat → Int), RunS F p.length (cellT T) X (nth p) (nth q) h l 0 ∧ v = costN p.length (cellT T) X
theorem RunS.plan {F : Int} {n : Nat} {C X : Nat → Nat → Int} {p q h l : Nat → Int} (R : RunS F n C X p q h l 0) : PlanN n X p q := by
  obtain ⟨h1, h2⟩ := R.flow.none (by simpa using R.sh) (by simpa using R.sl)
  exact R.flow.plan h1 h2
theorem RunS.least {F : Int} {n : Nat} {C X Y : Nat → Nat → Int} {p q h l : Nat → Int} (R : RunS F n C X p q h l 0) (hY : PlanN n Y p q) : costN n C X ≤ costN n C Y := by
  obtain ⟨h1, h2⟩ := R.flow.none (by simpa using R.sh) (by simpa using R.sl)
  exact R.flow.least h1 h2 hY
theorem IsLeast.uniq {p q : List Int} {T : List (List Int)} {v v' : Int} (h : IsLeast p q T v) (k : IsLeast p q T v') : v = v' := by
  obtain ⟨F, X, a, b, R, rfl⟩ := h
  obtain ⟨F', X', a', b', R', rfl⟩ := k
  have h1 := R.least R'.plan
  have h2 := R'.least R.plan
  omega
def okC (p q : List Int) (T : List (List Int)) : Bool := alikeB p q && costsB p q T
open Classical in
noncomputable def leastV (p q : List Int) (T : List (List Int)) : Int := if h : okC p q T = true ∧ ∃ v, IsLeast p q T v then h.2.choose else 0
theorem leastV_no {p q : List Int} {T : List (List Int)} (h : okC p q T = false) : leastV p q T = 0 := by
  unfold leastV; rw [dif_neg]; rintro ⟨h1, _⟩; rw [h] at h1; cases h1
theorem leastV_is {p q : List Int} {T : List (List Int)} {v : Int} (h : okC p q T = true) (k : IsLeast p q T v) : leastV p q T = v := by
  unfold leastV
  rw [dif_pos ⟨h, v, k⟩]
  exact IsLeast.uniq (Exists.choose_spec (⟨v, k⟩ : ∃ v, IsLeast p q T v)) k
theorem tab_bd {n : Nat} {X : Nat → Nat → Int} {c : Int} (h : ∀ i k, i < n → k < n → 0 ≤ X i k ∧ X i k ≤ c) (hc : 0 ≤ c) (i k : Nat) : 0 ≤ cellT (tab n X) i k ∧ cellT (tab n X) i k ≤ c := by
  by_cases hi : i < n
  · by_cases hk : k < n
    · rw [tab_cell X hi hk]; exact h i k hi hk
    · rw [cellT, tab_row X hi, nth_out (by rw [lst_len]; omega)]; omega
  · rw [cellT, nthL_out (by rw [tab_len]; omega), nth_out (by simp)]; omega
theorem RunS.bd {F : Int} {n : Nat} {C X : Nat → Nat → Int} {p q h l : Nat → Int} {u : Nat} (R : RunS F n C X p q h l u) (hp : ∀ i, i < n → p i ≤ 40) (i k : Nat) (hi : i < n) (hk : k < n) : 0 ≤ X i k ∧ X i k ≤ 40 := by
  have := R.flow.pos i k hi hk; have := R.flow.cell_le hi hk; have := hp i hi; omega
set_option maxRecDepth 100000 in
theorem spec_LeastCost_any (w : World) (a b s : Option Addr) (n1 c1 n2 c2 n4 c4 : Nat) (p q : List Int) (C : List (List Int)) (hp : SL w a n1 c1 p) (hq : SL w b n2 c2 q) (hc : SS w s n4 c4 C) :
    Calls Try.prog 42 #[.slice a n1 c1, .slice b n2 c2, .slice s n4 c4] w fun e w' => e = .returned (.tuple #[.int .i64 (leastV p q C), .bool (okC p q C)]) ∧ Fr w w' := by
  have Hp := Lib.hid hp.len; have Hq := Lib.hid hq.len; have Hc := Lib.hid hc.len
  go_enter Try.func42, Try.ntmps42
  go_wp2_with fail
  refine (l10Alike_any _ _ _ _ _ _ _ _ _ hp hq).mono ?_
  rintro e w' ⟨rfl, rfl⟩
  cases h1 : alikeB p q
  · have HB : Hid (okC p q C = false) := Lib.hid (by rw [okC, h1]; rfl)
    go_wp2
    go_ret2
    exact ⟨by rw [leastV_no HB.out, HB.out]; rfl, Fr.refl _⟩
  · have H1 := Lib.hid h1
    clear h1
    go_wp2_with fail
    refine (l10Costs_any _ _ _ _ _ _ _ _ _ _ _ _ _ hp hq hc).mono ?_
    rintro e w' ⟨rfl, rfl⟩
    cases h2 : costsB p q C
    · have HB : Hid (okC p q C = false) := Lib.hid (by rw [okC, h2]; simp)
      go_wp2
      go_ret2
      exact ⟨by rw [leastV_no HB.out, HB.out]; rfl, Fr.refl _⟩
    · have HB : Hid (okC p q C = true) := Lib.hid (by rw [okC, H1.out, h2]; rfl)
      have H2 := Lib.hid h2
      obtain ⟨s1, s2, s3, s4⟩ := alikeB_iff.1 H1.out
      have l8 := (spreadB_iff.1 s1).1
      have hcr := costs_rows h2
      obtain rfl : n4 = n1 := by rw [← Hc.out, hcr.1, Hp.out]
      obtain rfl : n2 = n4 := by rw [← Hq.out, ← s3, Hp.out]
      have hcr2 := hcr.2
      have e3 := Hp.out; have e4 := Hq.out
      rw [e3, e4] at hcr2
      rw [e3] at l8
      have H3 := Lib.hid hcr2
      have H4 := Lib.hid (costs_cell h2)
      have H5 : Hid (∀ i, i < n2 → nth p i ≤ 40) := Lib.hid fun i _ => (spread_nth s1 i).2
      clear s1 s2 s3 s4 hcr hcr2 h2 e3 e4
      go_wp2_with fail
      refine (l10Cheapest_any _ _ _ _ _ _ _ _ _ _ _ hp hq hc H1.out H2.out).mono ?_
      rintro e w1 ⟨t, ct, X, h, l, rfl, hT, hR, f1⟩
      have HR := Lib.hid hR
      clear hR
      go_wp2_with fail
      refine (l10Cost_any _ _ _ _ _ _ _ _ hT (hc.fr f1) l8.2 (fun i hi => ⟨tab_rowLen X hi, H3.out i hi⟩) (fun i k => tab_bd (HR.out.bd H5.out) (by decide) i k) H4.out).mono ?_
      rintro e w2 ⟨rfl, f2⟩
      have HV : Hid (leastV p q C = costTo (tab n2 X) C n2 n2) := Lib.hid (by
        rw [tab_costN]
        refine leastV_is HB.out ⟨farS, X, h, l, ?_, ?_⟩
        · rw [Hp.out]; exact HR.out
        · rw [Hp.out])
      clear HR
      go_wp2
      go_ret2
      exact ⟨by rw [HV.out, HB.out]; rfl, f1.trans f2.fr⟩
end Go.Proofs.Ytboekndojgbkfaa
