import Derived.Test.YtboekndojgbkfaaPlan
/- Contracts of IsPlan, KeptUnits, IsUpward, IsCentred. -/
set_option linter.unusedVariables false
namespace Go.Proofs.Ytboekndojgbkfaa
open Go.ChangeShapes Go.WideShapes Go.ChangeAt Go.RowKit

def okB (p q : List Int) (T : List (List Int)) : Bool := alikeB p q && planB p q T
theorem okB_no1 {p q : List Int} {T : List (List Int)} (h : alikeB p q = false) : okB p q T = false := by rw [okB, h]; rfl
theorem okB_no2 {p q : List Int} {T : List (List Int)} (h : planB p q T = false) : okB p q T = false := by rw [okB, h]; simp
theorem okB_yes {p q : List Int} {T : List (List Int)} (h : alikeB p q = true) (h2 : planB p q T = true) : okB p q T = true := by rw [okB, h, h2]; rfl
theorem okB_iff {p q : List Int} {T : List (List Int)} : okB p q T = true ↔ alikeB p q = true ∧ planB p q T = true := by rw [okB, Bool.and_eq_true]
theorem plan_cell {p q : List Int} {T : List (List Int)} (h : planB p q T = true) (i k : Nat) : 0 ≤ cellT T i k ∧ cellT T i k ≤ 40 := by
  by_cases hi : i < T.length
  · exact rows_cell (planB_iff.1 h).2.1 i k hi
  · rw [cellT, nthL_out (by omega)]; simp [nth]
theorem plan_row {p q : List Int} {T : List (List Int)} (h : planB p q T = true) {i : Nat} (hi : i < T.length) : (nthL T i).length = q.length := (rowOk_iff.1 ((planB_iff.1 h).2.1 i hi)).1

/-- What is good for a walk behind a plan's check. -/
structure PlanF (p q : List Int) (T : List (List Int)) (n1 n2 n3 : Nat) : Prop where
  e2 : n2 = n1
  e3 : n3 = n1
  lo : 1 ≤ n1
  hi : n1 ≤ 8
  row : ∀ i, i < n1 → (nthL T i).length = n1
  cell : ∀ i k, 0 ≤ cellT T i k ∧ cellT T i k ≤ 40
  pn : ∀ i, 0 ≤ nth p i ∧ nth p i ≤ 40
  qn : ∀ i, 0 ≤ nth q i ∧ nth q i ≤ 40
theorem PlanF.of {p q : List Int} {T : List (List Int)} {n1 n2 n3 : Nat} (h1 : alikeB p q = true) (h2 : planB p q T = true) (e1 : p.length = n1) (e2 : q.length = n2) (e3 : T.length = n3) : PlanF p q T n1 n2 n3 := by
  obtain ⟨s1, s2, s3, s4⟩ := alikeB_iff.1 h1
  have g1 := (spreadB_iff.1 s1).1
  have g2 := (planB_iff.1 h2).1
  exact ⟨by omega, by omega, by omega, by omega, fun i hi => by rw [plan_row h2 (by omega)]; omega, plan_cell h2, spread_nth s1, spread_nth s2⟩

theorem l10Good_any (w : World) (a b t : Option Addr) (n1 c1 n2 c2 n3 c3 : Nat) (p q : List Int) (T : List (List Int)) (hp : SL w a n1 c1 p) (hq : SL w b n2 c2 q) (ht : SS w t n3 c3 T) :
    Calls Try.prog 83 #[.slice a n1 c1, .slice b n2 c2, .slice t n3 c3] w fun e w' => e = .returned (.bool (okB p q T)) ∧ Qt w w' := by
  cases h1 : alikeB p q
  · have HB := Lib.hid (okB_no1 (T := T) h1)
    go_enter Try.func83, Try.ntmps83
    go_wp2_with (go_at_call 71; refine (l10Alike_any _ _ _ _ _ _ _ _ _ hp hq).mono ?_; rintro e w' ⟨rfl, rfl⟩)
    go_ret
    exact ⟨ret_bool HB.out.symm, Qt.refl _⟩
  · have H1 := Lib.hid h1
    go_enter Try.func83, Try.ntmps83
    go_wp2_with fail
    refine (l10Alike_any _ _ _ _ _ _ _ _ _ hp hq).mono ?_
    rintro e w' ⟨rfl, rfl⟩
    go_wp2_with fail
    refine (l10Plan_any _ _ _ _ _ _ _ _ _ _ _ _ _ hp hq ht H1.out).mono ?_
    rintro e w1 ⟨rfl, f1⟩
    go_wp2
    go_ret
    exact ⟨ret_bool (by rw [okB, H1.out]; rfl), f1⟩

theorem spec_IsPlan_any (w : World) (a b t : Option Addr) (n1 c1 n2 c2 n3 c3 : Nat) (p q : List Int) (T : List (List Int)) (hp : SL w a n1 c1 p) (hq : SL w b n2 c2 q) (ht : SS w t n3 c3 T) :
    Calls Try.prog 21 #[.slice a n1 c1, .slice b n2 c2, .slice t n3 c3] w fun e w' => e = .returned (.tuple #[.bool (okB p q T), .bool (alikeB p q)]) ∧ Fr w w' := by
  cases h1 : alikeB p q
  · have HB := Lib.hid (okB_no1 (T := T) h1)
    go_enter Try.func21, Try.ntmps21
    go_wp2_with (go_at_call 71; refine (l10Alike_any _ _ _ _ _ _ _ _ _ hp hq).mono ?_; rintro e w' ⟨rfl, rfl⟩)
    go_ret2
    exact ⟨by rw [HB.out]; rfl, Fr.refl _⟩
  · have H1 := Lib.hid h1
    go_enter Try.func21, Try.ntmps21
    go_wp2_with fail
    refine (l10Alike_any _ _ _ _ _ _ _ _ _ hp hq).mono ?_
    rintro e w' ⟨rfl, rfl⟩
    go_wp2_with fail
    refine (l10Plan_any _ _ _ _ _ _ _ _ _ _ _ _ _ hp hq ht H1.out).mono ?_
    rintro e w1 ⟨rfl, f1⟩
    go_wp2
    go_ret2
    have HO : Hid (okB p q T = planB p q T) := Lib.hid (by rw [okB, H1.out]; rfl)
    exact ⟨by rw [HO.out]; rfl, f1.fr⟩

theorem impl_IsPlan_any (w : World) (a b t : Option Addr) (n1 c1 n2 c2 n3 c3 : Nat) (p q : List Int) (T : List (List Int)) (hp : SL w a n1 c1 p) (hq : SL w b n2 c2 q) (ht : SS w t n3 c3 T) :
    Calls Try.prog 23 #[.slice a n1 c1, .slice b n2 c2, .slice t n3 c3] w fun e w' => e = .returned (.tuple #[.bool (okB p q T), .bool (alikeB p q)]) ∧ Fr w w' := by
  cases h1 : alikeB p q
  · have HB := Lib.hid (okB_no1 (T := T) h1)
    go_enter Try.func23, Try.ntmps23
    go_wp2_with (go_at_call 74; refine (alike_any _ _ _ _ _ _ _ _ _ hp hq).mono ?_; rintro e w' ⟨rfl, rfl⟩)
    go_ret2
    exact ⟨by rw [HB.out]; rfl, Fr.refl _⟩
  · have H1 := Lib.hid h1
    go_enter Try.func23, Try.ntmps23
    go_wp2_with fail
    refine (alike_any _ _ _ _ _ _ _ _ _ hp hq).mono ?_
    rintro e w' ⟨rfl, rfl⟩
    go_wp2_with fail
    refine (isPlan_any _ _ _ _ _ _ _ _ _ _ _ _ _ hp hq ht H1.out).mono ?_
    rintro e w1 ⟨rfl, f1⟩
    go_wp2
    go_ret2
    have HO : Hid (okB p q T = planB p q T) := Lib.hid (by rw [okB, H1.out]; rfl)
    exact ⟨by rw [HO.out]; rfl, f1⟩

def keptV (p q : List Int) (T : List (List Int)) : Int := bif okB p q T then diagTo T T.length else 0

theorem impl_KeptUnits_any (w : World) (a b t : Option Addr) (n1 c1 n2 c2 n3 c3 : Nat) (p q : List Int) (T : List (List Int)) (hp : SL w a n1 c1 p) (hq : SL w b n2 c2 q) (ht : SS w t n3 c3 T) :
    Calls Try.prog 28 #[.slice a n1 c1, .slice b n2 c2, .slice t n3 c3] w fun e w' => e = .returned (.tuple #[.int .i64 (keptV p q T), .bool (okB p q T)]) ∧ Fr w w' := by
  have Hp := Lib.hid hp.len; have Hq := Lib.hid hq.len; have Ht := Lib.hid ht.len
  cases h1 : alikeB p q
  · have HB := Lib.hid (okB_no1 (T := T) h1)
    go_enter Try.func28, Try.ntmps28
    go_wp2_with (go_at_call 74; refine (alike_any _ _ _ _ _ _ _ _ _ hp hq).mono ?_; rintro e w' ⟨rfl, rfl⟩)
    go_ret2
    exact ⟨by rw [keptV, HB.out]; rfl, Fr.refl _⟩
  · have H1 := Lib.hid h1
    go_enter Try.func28, Try.ntmps28
    go_wp2_with fail
    refine (alike_any _ _ _ _ _ _ _ _ _ hp hq).mono ?_
    rintro e w' ⟨rfl, rfl⟩
    clear h1
    go_wp2_with fail
    refine (isPlan_any _ _ _ _ _ _ _ _ _ _ _ _ _ hp hq ht H1.out).mono ?_
    rintro e w1 ⟨rfl, f1⟩
    cases h2 : planB p q T
    · have HB := Lib.hid (okB_no2 h2)
      go_wp2
      go_ret2
      exact ⟨by rw [keptV, HB.out]; rfl, f1⟩
    · have HB := Lib.hid (okB_yes H1.out h2)
      have F := PlanF.of H1.out h2 Hp.out Hq.out Ht.out
      obtain ⟨rfl, rfl, lo, hi, row, cell, pn, qn⟩ := F
      have HR := Lib.hid row
      have HC := Lib.hid cell
      clear row cell pn qn
      have ht1 := ht.fr f1
      go_wp2
      go_loop [8, 24] (fun s i => ∃ j : Nat, j ≤ n3 ∧ i = .int .i64 j ∧ s = .int .i64 (diagTo T j)) (fun _ i => n3 - (intOf i).toNat)
      case atStart => exact ⟨0, by omega, rfl, rfl⟩
      case round =>
        obtain ⟨j, hj, rfl, rfl⟩ := hrel
        by_cases hlt : j < n3
        · obtain ⟨b3, o3, rfl, hc3⟩ := ht1.rows.resolve_left (by omega)
          obtain ⟨pr, mr, cr, hcell, hrow⟩ := hc3 j hlt
          clear hc3
          obtain rfl : mr = n3 := by rw [← hrow.len]; exact HR.out j hlt
          obtain ⟨br, orr, rfl, hcr⟩ := hrow.cells.resolve_left (by omega)
          replace hcr := hcr j hlt
          have b1 := diagTo_bd (n := mr) (fun i k _ => HC.out i k) j hj
          have b2 := HC.out j j
          unfold cellT at b2
          go_wp2
          go_round
          case rel => exact ⟨j + 1, by omega, by go_num, rfl⟩
          case measure => simp [intOf]; omega
        · obtain rfl : j = n3 := by omega
          go_wp2
          go_ret2
          exact ⟨by rw [keptV, HB.out, Ht.out]; rfl, f1⟩

theorem spec_KeptUnits_any (w : World) (a b t : Option Addr) (n1 c1 n2 c2 n3 c3 : Nat) (p q : List Int) (T : List (List Int)) (hp : SL w a n1 c1 p) (hq : SL w b n2 c2 q) (ht : SS w t n3 c3 T) :
    Calls Try.prog 27 #[.slice a n1 c1, .slice b n2 c2, .slice t n3 c3] w fun e w' => e = .returned (.tuple #[.int .i64 (keptV p q T), .bool (okB p q T)]) ∧ Fr w w' := by
  have Hp := Lib.hid hp.len; have Hq := Lib.hid hq.len; have Ht := Lib.hid ht.len
  go_enter Try.func27, Try.ntmps27
  go_wp2_with fail
  refine (l10Good_any _ _ _ _ _ _ _ _ _ _ _ _ _ hp hq ht).mono ?_
  rintro e w1 ⟨rfl, f1⟩
  cases h1 : okB p q T
  · have HB := Lib.hid h1
    go_wp2
    go_ret2
    exact ⟨by rw [keptV, HB.out]; rfl, f1.fr⟩
  · have HB := Lib.hid h1
    have F := PlanF.of (okB_iff.1 h1).1 (okB_iff.1 h1).2 Hp.out Hq.out Ht.out
    obtain ⟨rfl, rfl, lo, hi, row, cell, pn, qn⟩ := F
    have HR := Lib.hid row
    have HC := Lib.hid cell
    clear row cell pn qn
    have ht1 := ht.qt f1
    go_wp2
    go_loop [8, 9] (fun s i => ∃ j : Nat, j ≤ n3 ∧ i = .int .i64 j ∧ s = .int .i64 (diagTo T j)) (fun _ i => n3 - (intOf i).toNat)
    case atStart => exact ⟨0, by omega, rfl, rfl⟩
    case round =>
      obtain ⟨j, hj, rfl, rfl⟩ := hrel
      by_cases hlt : j < n3
      · obtain ⟨b3, o3, rfl, hc3⟩ := ht1.rows.resolve_left (by omega)
        obtain ⟨pr, mr, cr, hcell, hrow⟩ := hc3 j hlt
        clear hc3
        obtain rfl : mr = n3 := by rw [← hrow.len]; exact HR.out j hlt
        obtain ⟨br, orr, rfl, hcr⟩ := hrow.cells.resolve_left (by omega)
        replace hcr := hcr j hlt
        have b1 := diagTo_bd (n := mr) (fun i k _ => HC.out i k) j hj
        have b2 := HC.out j j
        unfold cellT at b2
        go_wp2
        go_round
        case rel => exact ⟨j + 1, by omega, by go_num, rfl⟩
        case measure => simp [intOf]; omega
      · obtain rfl : j = n3 := by omega
        go_wp2
        go_ret2
        exact ⟨by rw [keptV, HB.out, Ht.out]; rfl, f1.fr⟩

theorem SL.takeTo {w : World} {a : Option Addr} {n cap : Nat} {xs : List Int} (h : SL w a n cap xs) {i : Nat} (hi : i ≤ n) : SL w a i cap (xs.take i) := by
  obtain ⟨h1, h2, h3, h4, h6, h5⟩ := h
  refine ⟨by simp; omega, by omega, h3, fun x hx => h4 x (List.mem_of_mem_take hx), fun ha => ⟨by have := h6 ha; omega, (h6 ha).2⟩, ?_⟩
  rcases h5 with h5 | ⟨b, off, rfl, hc⟩
  · exact .inl (by omega)
  · refine .inr ⟨b, off, rfl, fun j hj => ?_⟩
    rw [hc j (by omega)]
    simp [nth, hj]
theorem sumTo_zero {xs : List Int} (h : ∀ k, 0 ≤ nth xs k) (i : Nat) : 0 ≤ sumTo xs i ∧ (sumTo xs i ≤ 0 ↔ ∀ k, k < i → nth xs k ≤ 0) := by
  induction i with
  | zero => simp [sumTo]
  | succ i ih =>
    have hi := h i
    refine ⟨by simp only [sumTo]; omega, fun hs k hk => ?_, fun hs => ?_⟩
    · simp only [sumTo] at hs
      by_cases e : k = i
      · subst e; omega
      · exact ih.2.1 (by omega) k (by omega)
    · have h1 := ih.2.2 fun k hk => hs k (by omega)
      have h2 := hs i (by omega)
      simp only [sumTo]; omega
theorem upRow_sum {T : List (List Int)} {i : Nat} (h : ∀ k, 0 ≤ cellT T i k ∧ cellT T i k ≤ 40) (hi : i ≤ (nthL T i).length) (h8 : (nthL T i).length ≤ 8) : upRow T i = decide (wsum ((nthL T i).take i) ≤ 0) := by
  have hw := wsum_take (xs := nthL T i) (M := 40) (by omega) (fun x hx => by
    obtain ⟨k, hk, rfl⟩ := List.getElem_of_mem hx
    have := h k; rw [cellT, nth_eq hk] at this; exact this) (by omega) i hi
  rw [hw, Bool.eq_iff_iff, upRow_iff, decide_eq_true_eq]
  exact (sumTo_zero (fun k => (h k).1) i).2.symm
def upV (p q : List Int) (T : List (List Int)) : Bool := okB p q T && upB T
def cenV (p q : List Int) (T : List (List Int)) : Bool := okB p q T && cenB p T

theorem impl_IsUpward_any (w : World) (a b t : Option Addr) (n1 c1 n2 c2 n3 c3 : Nat) (p q : List Int) (T : List (List Int)) (hp : SL w a n1 c1 p) (hq : SL w b n2 c2 q) (ht : SS w t n3 c3 T) :
    Calls Try.prog 30 #[.slice a n1 c1, .slice b n2 c2, .slice t n3 c3] w fun e w' => e = .returned (.tuple #[.bool (upV p q T), .bool (okB p q T)]) ∧ Fr w w' := by
  have Hp := Lib.hid hp.len; have Hq := Lib.hid hq.len; have Ht := Lib.hid ht.len
  cases h1 : alikeB p q
  · have HB := Lib.hid (okB_no1 (T := T) h1)
    go_enter Try.func30, Try.ntmps30
    go_wp2_with (go_at_call 74; refine (alike_any _ _ _ _ _ _ _ _ _ hp hq).mono ?_; rintro e w' ⟨rfl, rfl⟩)
    go_ret2
    exact ⟨by rw [upV, HB.out]; rfl, Fr.refl _⟩
  · have H1 := Lib.hid h1
    go_enter Try.func30, Try.ntmps30
    go_wp2_with fail
    refine (alike_any _ _ _ _ _ _ _ _ _ hp hq).mono ?_
    rintro e w' ⟨rfl, rfl⟩
    clear h1
    go_wp2_with fail
    refine (isPlan_any _ _ _ _ _ _ _ _ _ _ _ _ _ hp hq ht H1.out).mono ?_
    rintro e w1 ⟨rfl, f1⟩
    cases h2 : planB p q T
    · have HB := Lib.hid (okB_no2 h2)
      go_wp2
      go_ret2
      exact ⟨by rw [upV, HB.out]; rfl, f1⟩
    · have HB := Lib.hid (okB_yes H1.out h2)
      have F := PlanF.of H1.out h2 Hp.out Hq.out Ht.out
      obtain ⟨rfl, rfl, lo, hi, row, cell, pn, qn⟩ := F
      have HR := Lib.hid row
      have HC := Lib.hid cell
      clear row cell pn qn
      have ht1 := ht.fr f1
      go_wp2
      go_loop [23] (fun i => ∃ j : Nat, j ≤ n3 ∧ i = .int .i64 j ∧ Hid (∀ i, i < j → upRow T i = true)) (fun i => n3 - (intOf i).toNat)
      case atStart => exact ⟨0, by omega, rfl, Lib.hid (fun i hi => by omega)⟩
      case round =>
        obtain ⟨j, hj, rfl, hs⟩ := hrel
        by_cases hlt : j < n3
        · obtain ⟨b3, o3, rfl, hc3⟩ := ht1.rows.resolve_left (by omega)
          obtain ⟨pr, mr, cr, hcell, hrow⟩ := hc3 j hlt
          clear hc3
          obtain rfl : mr = n3 := by rw [← hrow.len]; exact HR.out j hlt
          obtain ⟨br, orr, rfl, _⟩ := hrow.cells.resolve_left (by omega)
          have hpre := hrow.takeTo (i := j) (by omega)
          have hcap := hrow.le
          have hmx := hrow.mx
          have HU := Lib.hid (upRow_sum (i := j) (HC.out j) (by rw [HR.out j hlt]; omega) (by rw [HR.out j hlt]; omega))
          by_cases hb : wsum ((nthL T j).take j) ≤ 0
          · have hb1 : decide (0 < wsum ((nthL T j).take j)) = false := by simp; omega
            have HY : Hid (upRow T j = true) := Lib.hid (by rw [HU.out]; simpa using hb)
            clear hb
            go_wp2_with (go_at_call 84; refine (total_any _ _ _ _ _ hpre).mono ?_; rintro e w' ⟨rfl, rfl⟩)
            go_round
            case rel => exact ⟨j + 1, by omega, by go_num, Lib.hid (fun i hi => by by_cases e : i = j; (· subst e; exact HY.out); (· exact hs.out i (by omega)))⟩
            case measure => simp [intOf]; omega
          · have hb1 : decide (0 < wsum ((nthL T j).take j)) = true := by simp; omega
            have HY : Hid (upRow T j = false) := Lib.hid (by rw [HU.out]; simpa using hb)
            clear hb
            go_wp2_with (go_at_call 84; refine (total_any _ _ _ _ _ hpre).mono ?_; rintro e w' ⟨rfl, rfl⟩)
            go_ret2
            exact ⟨by rw [upV, HB.out, upB_no (by rw [Ht.out]; exact hlt) HY.out]; rfl, f1⟩
        · obtain rfl : j = n3 := by omega
          go_wp2
          go_ret2
          exact ⟨by rw [upV, HB.out, upB_iff.2 (by rw [Ht.out]; exact hs.out)]; rfl, f1⟩

theorem spec_IsUpward_any (w : World) (a b t : Option Addr) (n1 c1 n2 c2 n3 c3 : Nat) (p q : List Int) (T : List (List Int)) (hp : SL w a n1 c1 p) (hq : SL w b n2 c2 q) (ht : SS w t n3 c3 T) :
    Calls Try.prog 29 #[.slice a n1 c1, .slice b n2 c2, .slice t n3 c3] w fun e w' => e = .returned (.tuple #[.bool (upV p q T), .bool (okB p q T)]) ∧ Fr w w' := by
  have Hp := Lib.hid hp.len; have Hq := Lib.hid hq.len; have Ht := Lib.hid ht.len
  go_enter Try.func29, Try.ntmps29
  go_wp2_with fail
  refine (l10Good_any _ _ _ _ _ _ _ _ _ _ _ _ _ hp hq ht).mono ?_
  rintro e w1 ⟨rfl, f1⟩
  cases h1 : okB p q T
  · have HB := Lib.hid h1
    go_wp2
    go_ret2
    exact ⟨by rw [upV, HB.out]; rfl, f1.fr⟩
  · have HB := Lib.hid h1
    have F := PlanF.of (okB_iff.1 h1).1 (okB_iff.1 h1).2 Hp.out Hq.out Ht.out
    obtain ⟨rfl, rfl, lo, hi, row, cell, pn, qn⟩ := F
    have HR := Lib.hid row
    have HC := Lib.hid cell
    clear row cell pn qn
    have ht1 := ht.qt f1
    go_wp2
    go_loop [8] (fun i => ∃ j : Nat, j ≤ n3 ∧ i = .int .i64 j ∧ Hid (∀ i, i < j → upRow T i = true)) (fun i => n3 - (intOf i).toNat)
    case atStart => exact ⟨0, by omega, rfl, Lib.hid (fun i hi => by omega)⟩
    case round =>
      obtain ⟨j, hj, rfl, hs⟩ := hrel
      by_cases hlt : j < n3
      · obtain ⟨b3, o3, rfl, hc3⟩ := ht1.rows.resolve_left (by omega)
        obtain ⟨pr, mr, cr, hcell, hrow⟩ := hc3 j hlt
        clear hc3
        obtain rfl : mr = n3 := by rw [← hrow.len]; exact HR.out j hlt
        obtain ⟨br, orr, rfl, hcr⟩ := hrow.cells.resolve_left (by omega)
        have HCR := Lib.hid hcr
        clear hcr
        go_wp2
        go_loop [9] (fun i => ∃ k : Nat, k ≤ j ∧ i = .int .i64 k ∧ Hid (∀ i, i < k → cellT T j i ≤ 0)) (fun i => j - (intOf i).toNat)
        case atStart => exact ⟨0, by omega, rfl, Lib.hid (fun i hi => by omega)⟩
        case round =>
          obtain ⟨k, hk, rfl, hk2⟩ := hrel
          by_cases hkt : k < j
          · have hcc := HCR.out k (by omega)
            by_cases hb : cellT T j k ≤ 0
            · have HK := Lib.hid hb
              have hb1 : decide (0 < nth (nthL T j) k) = false := by unfold cellT at hb; simp; omega
              clear hb
              go_wp2
              go_round
              case rel => exact ⟨k + 1, by omega, by go_num, Lib.hid (fun i hi => by by_cases e : i = k; (· subst e; exact HK.out); (· exact hk2.out i (by omega)))⟩
              case measure => simp [intOf]; omega
            · have HK : Hid (0 < cellT T j k) := Lib.hid (Int.not_le.1 hb)
              have hb1 : decide (0 < nth (nthL T j) k) = true := by unfold cellT at hb; simp; omega
              clear hb
              go_wp2
              go_ret2
              exact ⟨by rw [upV, HB.out, upB_no (by rw [Ht.out]; exact hlt) (upRow_no hkt HK.out)]; rfl, f1.fr⟩
          · obtain rfl : k = j := by omega
            go_wp2
            go_round
            case rel => exact ⟨k + 1, by omega, by go_num, Lib.hid (fun i hi => by by_cases e : i = k; (· subst e; exact upRow_iff.2 hk2.out); (· exact hs.out i (by omega)))⟩
            case measure => simp [intOf]; omega
      · obtain rfl : j = n3 := by omega
        go_wp2
        go_ret2
        exact ⟨by rw [upV, HB.out, upB_iff.2 (by rw [Ht.out]; exact hs.out)]; rfl, f1.fr⟩

theorem weighted_any (w : World) (a : Option Addr) (n cap : Nat) (xs : List Int) (h : SL w a n cap xs) (h8 : n ≤ 8) (hb : ∀ i, 0 ≤ nth xs i ∧ nth xs i ≤ 40) :
    Calls Try.prog 75 #[.slice a n cap] w fun e w' => e = .returned (.int .i64 (momTo xs n)) ∧ w = w' := by
  have HB := Lib.hid hb
  clear hb
  go_enter Try.func75, Try.ntmps75
  go_wp2
  go_loop [3, 8] (fun s i => ∃ k : Nat, k ≤ n ∧ i = .int .i64 k ∧ s = .int .i64 (momTo xs k)) (fun _ i => n - (intOf i).toNat)
  case atStart => exact ⟨0, Nat.zero_le _, rfl, rfl⟩
  case round =>
    obtain ⟨k, hk, rfl, rfl⟩ := hrel
    by_cases hlt : k < n
    · obtain ⟨b, off, rfl, hc⟩ := h.cells.resolve_left (by omega)
      replace hc := hc k hlt
      have b1 := momTo_bd (M := 40) (by omega) HB.out k (by omega)
      have b2 := mul_bd (HB.out k) (show (0 : Int) ≤ (k : Int) ∧ (k : Int) ≤ 8 by omega)
      have b3 : 0 ≤ (k : Int) * nth xs k ∧ (k : Int) * nth xs k ≤ 320 := by rw [Int.mul_comm]; omega
      go_wp2
      go_round
      case rel => exact ⟨k + 1, by omega, by go_num, by first | rfl | (rw [Int.mul_comm (k : Int)]; rfl)⟩
      case measure => simp [intOf]; omega
    · obtain rfl : k = n := by omega
      go_wp2
      go_ret
      exact ⟨rfl, rfl⟩

theorem l10Moment_any (w : World) (a : Option Addr) (n cap : Nat) (xs : List Int) (h : SL w a n cap xs) (h8 : n ≤ 8) (hb : ∀ i, 0 ≤ nth xs i ∧ nth xs i ≤ 40) :
    Calls Try.prog 73 #[.slice a n cap] w fun e w' => e = .returned (.int .i64 (momTo xs n)) ∧ w = w' := by
  have HB := Lib.hid hb
  clear hb
  go_enter Try.func73, Try.ntmps73
  go_wp2
  go_loop [3, 4] (fun s i => ∃ k : Nat, k ≤ n ∧ i = .int .i64 k ∧ s = .int .i64 (momTo xs k)) (fun _ i => n - (intOf i).toNat)
  case atStart => exact ⟨0, Nat.zero_le _, rfl, rfl⟩
  case round =>
    obtain ⟨k, hk, rfl, rfl⟩ := hrel
    by_cases hlt : k < n
    · obtain ⟨b, off, rfl, hc⟩ := h.cells.resolve_left (by omega)
      replace hc := hc k hlt
      have b1 := momTo_bd (M := 40) (by omega) HB.out k (by omega)
      have b2 := mul_bd (HB.out k) (show (0 : Int) ≤ (k : Int) ∧ (k : Int) ≤ 8 by omega)
      have b3 : 0 ≤ (k : Int) * nth xs k ∧ (k : Int) * nth xs k ≤ 320 := by rw [Int.mul_comm]; omega
      go_wp2
      go_round
      case rel => exact ⟨k + 1, by omega, by go_num, by first | rfl | (rw [Int.mul_comm (k : Int)]; rfl)⟩
      case measure => simp [intOf]; omega
    · obtain rfl : k = n := by omega
      go_wp2
      go_ret
      exact ⟨rfl, rfl⟩

theorem impl_IsCentred_any (w : World) (a b t : Option Addr) (n1 c1 n2 c2 n3 c3 : Nat) (p q : List Int) (T : List (List Int)) (hp : SL w a n1 c1 p) (hq : SL w b n2 c2 q) (ht : SS w t n3 c3 T) :
    Calls Try.prog 37 #[.slice a n1 c1, .slice b n2 c2, .slice t n3 c3] w fun e w' => e = .returned (.tuple #[.bool (cenV p q T), .bool (okB p q T)]) ∧ Fr w w' := by
  have Hp := Lib.hid hp.len; have Hq := Lib.hid hq.len; have Ht := Lib.hid ht.len
  cases h1 : alikeB p q
  · have HB := Lib.hid (okB_no1 (T := T) h1)
    go_enter Try.func37, Try.ntmps37
    go_wp2_with (go_at_call 74; refine (alike_any _ _ _ _ _ _ _ _ _ hp hq).mono ?_; rintro e w' ⟨rfl, rfl⟩)
    go_ret2
    exact ⟨by rw [cenV, HB.out]; rfl, Fr.refl _⟩
  · have H1 := Lib.hid h1
    go_enter Try.func37, Try.ntmps37
    go_wp2_with fail
    refine (alike_any _ _ _ _ _ _ _ _ _ hp hq).mono ?_
    rintro e w' ⟨rfl, rfl⟩
    clear h1
    go_wp2_with fail
    refine (isPlan_any _ _ _ _ _ _ _ _ _ _ _ _ _ hp hq ht H1.out).mono ?_
    rintro e w1 ⟨rfl, f1⟩
    cases h2 : planB p q T
    · have HB := Lib.hid (okB_no2 h2)
      go_wp2
      go_ret2
      exact ⟨by rw [cenV, HB.out]; rfl, f1⟩
    · have HB := Lib.hid (okB_yes H1.out h2)
      have F := PlanF.of H1.out h2 Hp.out Hq.out Ht.out
      obtain ⟨rfl, rfl, lo, hi, row, cell, pn, qn⟩ := F
      have HR := Lib.hid row
      have HC := Lib.hid cell
      have HPN := Lib.hid pn
      clear row cell pn qn
      go_wp2
      go_loopw [23] (fun i wr => ∃ j : Nat, j ≤ n3 ∧ i = .int .i64 j ∧ Hid (∀ i, i < j → cenRow p T i = true) ∧ Fr w wr) (fun i _ => n3 - (intOf i).toNat)
      case atStart => exact ⟨0, by omega, rfl, Lib.hid (fun i hi => by omega), f1⟩
      case round =>
        clear f1
        obtain ⟨j, hj, rfl, hs, hf⟩ := hrel
        by_cases hlt : j < n3
        · obtain ⟨b3, o3, rfl, hc3⟩ := (ht.fr hf).rows.resolve_left (by omega)
          obtain ⟨pr, mr, cr, hcell, hrow⟩ := hc3 j hlt
          clear hc3
          obtain ⟨bp, op, rfl, hcp⟩ := (hp.fr hf).cells.resolve_left (by omega)
          replace hcp := hcp j hlt
          obtain rfl : mr = n3 := by rw [← hrow.len]; exact HR.out j hlt
          have i1 : (0 : Int) ≤ (j : Int) := by omega
          have i2 : (j : Int) < (mr : Int) := by omega
          have b2 := mul_bd (HPN.out j) (show (0 : Int) ≤ (j : Int) ∧ (j : Int) ≤ 8 by omega)
          have HB1 : Hid (cenRow p T j = (momTo (nthL T j) mr == nth p j * j)) := Lib.hid (by rw [cenRow, HR.out j hlt])
          by_cases he : momTo (nthL T j) mr = nth p j * j
          · have HY : Hid (cenRow p T j = true) := Lib.hid (by rw [HB1.out]; simpa using he)
            have hb : (momTo (nthL T j) mr != nth p j * j) = false := by simp [he]
            clear he
            go_wp2
            have e1 : IntKind.i64.wrap (nth p j * (j : Int)) = nth p j * (j : Int) := IntWalk.i64_in _ (by omega)
            go_quiet ((go_at_call 75; exact qofe (weighted_any _ _ _ _ _ (hrow.drewN _) (by omega) (HC.out j))))
            clear e1
            go_wp2
            go_roundw
            case rel => exact ⟨j + 1, by omega, by go_num, Lib.hid (fun i hi => by by_cases e : i = j; (· subst e; exact HY.out); (· exact hs.out i (by omega))), hf.drew' _⟩
            case measure => simp [intOf]; omega
          · have HY : Hid (cenRow p T j = false) := Lib.hid (by rw [HB1.out]; simpa using he)
            have hb : (momTo (nthL T j) mr != nth p j * j) = true := by simp [he]
            clear he
            go_wp2
            have e1 : IntKind.i64.wrap (nth p j * (j : Int)) = nth p j * (j : Int) := IntWalk.i64_in _ (by omega)
            go_quiet ((go_at_call 75; exact qofe (weighted_any _ _ _ _ _ (hrow.drewN _) (by omega) (HC.out j))))
            clear e1
            go_wp2
            go_ret2
            exact ⟨by rw [cenV, HB.out, cenB_no (by rw [Ht.out]; exact hlt) HY.out]; rfl, hf.drew' _⟩
        · obtain rfl : j = n3 := by omega
          go_wp2
          go_ret2
          exact ⟨by rw [cenV, HB.out, cenB_iff.2 (by rw [Ht.out]; exact hs.out)]; rfl, hf⟩

theorem spec_IsCentred_any (w : World) (a b t : Option Addr) (n1 c1 n2 c2 n3 c3 : Nat) (p q : List Int) (T : List (List Int)) (hp : SL w a n1 c1 p) (hq : SL w b n2 c2 q) (ht : SS w t n3 c3 T) :
    Calls Try.prog 36 #[.slice a n1 c1, .slice b n2 c2, .slice t n3 c3] w fun e w' => e = .returned (.tuple #[.bool (cenV p q T), .bool (okB p q T)]) ∧ Fr w w' := by
  have Hp := Lib.hid hp.len; have Hq := Lib.hid hq.len; have Ht := Lib.hid ht.len
  go_enter Try.func36, Try.ntmps36
  go_wp2_with fail
  refine (l10Good_any _ _ _ _ _ _ _ _ _ _ _ _ _ hp hq ht).mono ?_
  rintro e w1 ⟨rfl, f1⟩
  cases h1 : okB p q T
  · have HB := Lib.hid h1
    go_wp2
    go_ret2
    exact ⟨by rw [cenV, HB.out]; rfl, f1.fr⟩
  · have HB := Lib.hid h1
    have F := PlanF.of (okB_iff.1 h1).1 (okB_iff.1 h1).2 Hp.out Hq.out Ht.out
    obtain ⟨rfl, rfl, lo, hi, row, cell, pn, qn⟩ := F
    have HR := Lib.hid row
    have HC := Lib.hid cell
    have HPN := Lib.hid pn
    clear row cell pn qn
    go_wp2
    go_loopw [8] (fun i wr => ∃ j : Nat, j ≤ n3 ∧ i = .int .i64 j ∧ Hid (∀ i, i < j → cenRow p T i = true) ∧ Fr w wr) (fun i _ => n3 - (intOf i).toNat)
    case atStart => exact ⟨0, by omega, rfl, Lib.hid (fun i hi => by omega), f1.fr⟩
    case round =>
      clear f1
      obtain ⟨j, hj, rfl, hs, hf⟩ := hrel
      by_cases hlt : j < n3
      · obtain ⟨b3, o3, rfl, hc3⟩ := (ht.fr hf).rows.resolve_left (by omega)
        obtain ⟨pr, mr, cr, hcell, hrow⟩ := hc3 j hlt
        clear hc3
        obtain ⟨bp, op, rfl, hcp⟩ := (hp.fr hf).cells.resolve_left (by omega)
        replace hcp := hcp j hlt
        obtain rfl : mr = n3 := by rw [← hrow.len]; exact HR.out j hlt
        have i1 : (0 : Int) ≤ (j : Int) := by omega
        have i2 : (j : Int) < (mr : Int) := by omega
        have b2 := mul_bd (HPN.out j) (show (0 : Int) ≤ (j : Int) ∧ (j : Int) ≤ 8 by omega)
        have HB1 : Hid (cenRow p T j = (momTo (nthL T j) mr == nth p j * j)) := Lib.hid (by rw [cenRow, HR.out j hlt])
        by_cases he : momTo (nthL T j) mr = nth p j * j
        · have HY : Hid (cenRow p T j = true) := Lib.hid (by rw [HB1.out]; simpa using he)
          have hb : (momTo (nthL T j) mr != nth p j * j) = false := by simp [he]
          clear he
          go_wp2
          have e1 : IntKind.i64.wrap (nth p j * (j : Int)) = nth p j * (j : Int) := IntWalk.i64_in _ (by omega)
          go_quiet ((go_at_call 73; exact qofe (l10Moment_any _ _ _ _ _ (hrow.drewN _) (by omega) (HC.out j))))
          clear e1
          go_wp2
          go_roundw
          case rel => exact ⟨j + 1, by omega, by go_num, Lib.hid (fun i hi => by by_cases e : i = j; (· subst e; exact HY.out); (· exact hs.out i (by omega))), hf.drew' _⟩
          case measure => simp [intOf]; omega
        · have HY : Hid (cenRow p T j = false) := Lib.hid (by rw [HB1.out]; simpa using he)
          have hb : (momTo (nthL T j) mr != nth p j * j) = true := by simp [he]
          clear he
          go_wp2
          have e1 : IntKind.i64.wrap (nth p j * (j : Int)) = nth p j * (j : Int) := IntWalk.i64_in _ (by omega)
          go_quiet ((go_at_call 73; exact qofe (l10Moment_any _ _ _ _ _ (hrow.drewN _) (by omega) (HC.out j))))
          clear e1
          go_wp2
          go_ret2
          exact ⟨by rw [cenV, HB.out, cenB_no (by rw [Ht.out]; exact hlt) HY.out]; rfl, hf.drew' _⟩
      · obtain rfl : j = n3 := by omega
        go_wp2
        go_ret2
        exact ⟨by rw [cenV, HB.out, cenB_iff.2 (by rw [Ht.out]; exact hs.out)]; rfl, hf⟩

end Go.Proofs.Ytboekndojgbkfaa
