import Derived.Test.YtboekndojgbkfaaPlan2
/- Contracts of IsWider, PlanCost, ArePotentials. -/
set_option linter.unusedVariables false
namespace Go.Proofs.Ytboekndojgbkfaa
open Go.ChangeShapes Go.WideShapes Go.ChangeAt Go.RowKit

def wideV (p q : List Int) : Bool := alikeB p q && widerB p q
theorem widerB_noM {p q : List Int} (h : momTo p p.length ≠ momTo q q.length) : widerB p q = false := by rw [widerB, momB, beq_eq_false_iff_ne.2 h]; rfl
theorem widerB_noS {p q : List Int} {s : Nat} (hs : s < p.length) (h : belTo p s s < belTo q s s) : widerB p q = false := by rw [widerB, belB_no hs h]; simp

theorem l10Below_any (w : World) (a : Option Addr) (n cap : Nat) (xs : List Int) (s : Nat) (h : SL w a n cap xs) (h8 : n ≤ 8) (hs : s ≤ n) (hb : ∀ i, 0 ≤ nth xs i ∧ nth xs i ≤ 40) :
    Calls Try.prog 72 #[.slice a n cap, .int .i64 s] w fun e w' => e = .returned (.int .i64 (belTo xs s s)) ∧ w = w' := by
  have HB := Lib.hid hb
  clear hb
  go_enter Try.func72, Try.ntmps72
  go_wp2
  go_loop [5, 6] (fun t i => ∃ k : Nat, k ≤ s ∧ i = .int .i64 k ∧ t = .int .i64 (belTo xs s k)) (fun _ i => s - (intOf i).toNat)
  case atStart => exact ⟨0, Nat.zero_le _, rfl, rfl⟩
  case round =>
    obtain ⟨k, hk, rfl, rfl⟩ := hrel
    by_cases hlt : k < s
    · obtain ⟨b, off, rfl, hc⟩ := h.cells.resolve_left (by omega)
      replace hc := hc k (by omega)
      have b1 := belTo_bd (M := 40) (by omega) HB.out s k hk (by omega)
      have b2 := mul_bd (HB.out k) (show (0 : Int) ≤ (s : Int) - (k : Int) ∧ (s : Int) - (k : Int) ≤ 8 by omega)
      have i1 : (k : Int) < (n : Int) := by omega
      go_wp2
      go_round
      case rel => exact ⟨k + 1, by omega, by go_num, rfl⟩
      case measure => simp [intOf]; omega
    · obtain rfl : k = s := by omega
      go_wp2
      go_ret
      exact ⟨rfl, rfl⟩

theorem spec_IsWider_any (w : World) (a b : Option Addr) (n1 c1 n2 c2 : Nat) (p q : List Int) (hp : SL w a n1 c1 p) (hq : SL w b n2 c2 q) :
    Calls Try.prog 16 #[.slice a n1 c1, .slice b n2 c2] w fun e w' => e = .returned (.tuple #[.bool (wideV p q), .bool (alikeB p q)]) ∧ Fr w w' := by
  have Hp := Lib.hid hp.len; have Hq := Lib.hid hq.len
  cases h1 : alikeB p q
  · have HV : Hid (wideV p q = false) := Lib.hid (by rw [wideV, h1]; rfl)
    go_enter Try.func16, Try.ntmps16
    go_wp2_with (go_at_call 71; refine (l10Alike_any _ _ _ _ _ _ _ _ _ hp hq).mono ?_; rintro e w' ⟨rfl, rfl⟩)
    go_ret2
    exact ⟨by rw [HV.out]; rfl, Fr.refl _⟩
  · obtain ⟨s1, s2, s3, s4⟩ := alikeB_iff.1 h1
    have g1 := (spreadB_iff.1 s1).1
    rw [Hp.out] at g1
    have hn : n2 = n1 := by rw [← Hp.out, ← Hq.out, s3]
    subst hn
    have HPN := Lib.hid (spread_nth s1)
    have HQN := Lib.hid (spread_nth s2)
    have HV : Hid (wideV p q = widerB p q) := Lib.hid (by rw [wideV, h1]; rfl)
    clear s1 s2 s3 s4
    go_enter Try.func16, Try.ntmps16
    go_wp2_with (go_at_call 71; refine (l10Alike_any _ _ _ _ _ _ _ _ _ hp hq).mono ?_; rintro e w' ⟨rfl, rfl⟩)
    clear h1
    go_loop [6] (fun i => ∃ k : Nat, k ≤ n2 ∧ i = .int .i64 k ∧ Hid (∀ s, s < k → belTo q s s ≤ belTo p s s)) (fun i => n2 - (intOf i).toNat)
    case atStart => exact ⟨0, Nat.zero_le _, rfl, Lib.hid (fun i hi => by omega)⟩
    case round =>
      obtain ⟨k, hk, rfl, hs⟩ := hrel
      by_cases hlt : k < n2
      · by_cases hb : belTo q k k ≤ belTo p k k
        · have HY := Lib.hid hb
          have hb1 : decide (belTo p k k < belTo q k k) = false := by simp; omega
          clear hb
          go_wp2_with fail
          refine (l10Below_any _ _ _ _ _ _ hp (by omega) (by omega) HPN.out).mono ?_
          rintro e w' ⟨rfl, rfl⟩
          go_wp2_with fail
          refine (l10Below_any _ _ _ _ _ _ hq (by omega) (by omega) HQN.out).mono ?_
          rintro e w' ⟨rfl, rfl⟩
          go_wp2
          go_round
          case rel => exact ⟨k + 1, by omega, by go_num, Lib.hid (fun i hi => by by_cases e : i = k; (· subst e; exact HY.out); (· exact hs.out i (by omega)))⟩
          case measure => simp [intOf]; omega
        · have HY : Hid (belTo p k k < belTo q k k) := Lib.hid (Int.not_le.1 hb)
          have hb1 : decide (belTo p k k < belTo q k k) = true := by simp; omega
          clear hb
          go_wp2_with fail
          refine (l10Below_any _ _ _ _ _ _ hp (by omega) (by omega) HPN.out).mono ?_
          rintro e w' ⟨rfl, rfl⟩
          go_wp2_with fail
          refine (l10Below_any _ _ _ _ _ _ hq (by omega) (by omega) HQN.out).mono ?_
          rintro e w' ⟨rfl, rfl⟩
          go_wp2
          go_ret2
          exact ⟨by rw [HV.out, widerB_noS (by rw [Hp.out]; exact hlt) HY.out]; rfl, Fr.refl _⟩
      · obtain rfl : k = n2 := by omega
        go_wp2_with fail
        refine (l10Moment_any _ _ _ _ _ hp (by omega) HPN.out).mono ?_
        rintro e w' ⟨rfl, rfl⟩
        go_wp2_with fail
        refine (l10Moment_any _ _ _ _ _ hq (by omega) HQN.out).mono ?_
        rintro e w' ⟨rfl, rfl⟩
        go_wp2
        go_ret2
        exact ⟨by rw [HV.out, widerB, belB_iff.2 (by rw [Hp.out]; exact hs.out), Bool.and_true, momB, Hp.out, Hq.out]; rfl, Fr.refl _⟩

theorem impl_IsWider_any (w : World) (a b : Option Addr) (n1 c1 n2 c2 : Nat) (p q : List Int) (hp : SL w a n1 c1 p) (hq : SL w b n2 c2 q) :
    Calls Try.prog 18 #[.slice a n1 c1, .slice b n2 c2] w fun e w' => e = .returned (.tuple #[.bool (wideV p q), .bool (alikeB p q)]) ∧ Fr w w' := by
  have Hp := Lib.hid hp.len; have Hq := Lib.hid hq.len
  cases h1 : alikeB p q
  · have HV : Hid (wideV p q = false) := Lib.hid (by rw [wideV, h1]; rfl)
    go_enter Try.func18, Try.ntmps18
    go_wp2_with (go_at_call 74; refine (alike_any _ _ _ _ _ _ _ _ _ hp hq).mono ?_; rintro e w' ⟨rfl, rfl⟩)
    go_ret2
    exact ⟨by rw [HV.out]; rfl, Fr.refl _⟩
  · obtain ⟨s1, s2, s3, s4⟩ := alikeB_iff.1 h1
    have g1 := (spreadB_iff.1 s1).1
    rw [Hp.out] at g1
    have hn : n2 = n1 := by rw [← Hp.out, ← Hq.out, s3]
    subst hn
    have HPN := Lib.hid (spread_nth s1)
    have HQN := Lib.hid (spread_nth s2)
    have HV : Hid (wideV p q = widerB p q) := Lib.hid (by rw [wideV, h1]; rfl)
    have H1 := Lib.hid h1
    clear s1 s2 s3 s4
    by_cases hm : momTo p n2 = momTo q n2
    rotate_left
    · have HM := Lib.hid hm
      have hb : (momTo p n2 != momTo q n2) = true := by simp [hm]
      clear hm
      go_enter Try.func18, Try.ntmps18
      go_wp2_with (go_at_call 74; refine (alike_any _ _ _ _ _ _ _ _ _ hp hq).mono ?_; rintro e w' ⟨rfl, rfl⟩)
      refine (weighted_any _ _ _ _ _ hp (by omega) HPN.out).mono ?_
      rintro e w' ⟨rfl, rfl⟩
      go_wp2_with fail
      refine (weighted_any _ _ _ _ _ hq (by omega) HQN.out).mono ?_
      rintro e w' ⟨rfl, rfl⟩
      go_wp2
      go_ret2
      exact ⟨by rw [HV.out, widerB_noM (by rw [Hp.out, Hq.out]; exact HM.out)]; rfl, Fr.refl _⟩
    have HM := Lib.hid hm
    have hb : (momTo p n2 != momTo q n2) = false := by simp [hm]
    clear hm
    go_enter Try.func18, Try.ntmps18
    go_wp2_with (go_at_call 74; refine (alike_any _ _ _ _ _ _ _ _ _ hp hq).mono ?_; rintro e w' ⟨rfl, rfl⟩)
    refine (weighted_any _ _ _ _ _ hp (by omega) HPN.out).mono ?_
    rintro e w' ⟨rfl, rfl⟩
    go_wp2_with fail
    refine (weighted_any _ _ _ _ _ hq (by omega) HQN.out).mono ?_
    rintro e w' ⟨rfl, rfl⟩
    clear h1
    go_wp2
    clear hb
    go_loop [21] (fun i => ∃ k : Nat, k ≤ n2 ∧ i = .int .i64 k ∧ Hid (∀ s, s < k → belTo q s s ≤ belTo p s s)) (fun i => n2 - (intOf i).toNat)
    case atStart => exact ⟨0, Nat.zero_le _, rfl, Lib.hid (fun i hi => by omega)⟩
    case round =>
      obtain ⟨s, hk, rfl, hs⟩ := hrel
      by_cases hlt : s < n2
      · go_wp2
        go_loop [7, 8, 25] (fun x y i => ∃ k : Nat, k ≤ s ∧ i = .int .i64 k ∧ x = .int .i64 (belTo p s k) ∧ y = .int .i64 (belTo q s k)) (fun _ _ i => s - (intOf i).toNat)
        case atStart => exact ⟨0, Nat.zero_le _, rfl, rfl, rfl⟩
        case round =>
          obtain ⟨k, hk2, rfl, rfl, rfl⟩ := hrel
          by_cases hkt : k < s
          · obtain ⟨bp, op, rfl, hcp⟩ := hp.cells.resolve_left (by omega)
            replace hcp := hcp k (by omega)
            obtain ⟨bq, oq, rfl, hcq⟩ := hq.cells.resolve_left (by omega)
            replace hcq := hcq k (by omega)
            have b1 := belTo_bd (M := 40) (by omega) HPN.out s k hk2 (by omega)
            have b2 := mul_bd (HPN.out k) (show (0 : Int) ≤ (s : Int) - (k : Int) ∧ (s : Int) - (k : Int) ≤ 8 by omega)
            have b3 := belTo_bd (M := 40) (by omega) HQN.out s k hk2 (by omega)
            have b4 := mul_bd (HQN.out k) (show (0 : Int) ≤ (s : Int) - (k : Int) ∧ (s : Int) - (k : Int) ≤ 8 by omega)
            have i1 : (k : Int) < (n2 : Int) := by omega
            go_wp2
            go_round
            case rel => exact ⟨k + 1, by omega, by go_num, rfl, rfl⟩
            case measure => simp [intOf]; omega
          · obtain rfl : k = s := by omega
            by_cases hb : belTo q k k ≤ belTo p k k
            · have HY := Lib.hid hb
              have hb1 : decide (belTo p k k < belTo q k k) = false := by simp; omega
              clear hb
              go_wp2
              go_round
              case rel => exact ⟨k + 1, by omega, by go_num, Lib.hid (fun i hi => by by_cases e : i = k; (· subst e; exact HY.out); (· exact hs.out i (by omega)))⟩
              case measure => simp [intOf]; omega
            · have HY : Hid (belTo p k k < belTo q k k) := Lib.hid (Int.not_le.1 hb)
              have hb1 : decide (belTo p k k < belTo q k k) = true := by simp; omega
              clear hb
              go_wp2
              go_ret2
              exact ⟨by rw [HV.out, widerB_noS (by rw [Hp.out]; exact hlt) HY.out]; rfl, Fr.refl _⟩
      · obtain rfl : s = n2 := by omega
        go_wp2
        go_ret2
        exact ⟨by rw [HV.out, widerB, belB_iff.2 (by rw [Hp.out]; exact hs.out), Bool.and_true, momB, Hp.out, Hq.out, HM.out]; simp, Fr.refl _⟩

theorem areCosts_any (w : World) (a b t : Option Addr) (n1 c1 n2 c2 n3 c3 : Nat) (p q : List Int) (C : List (List Int)) (hp : SL w a n1 c1 p) (hq : SL w b n2 c2 q) (ht : SS w t n3 c3 C) :
    Calls Try.prog 82 #[.slice a n1 c1, .slice b n2 c2, .slice t n3 c3] w fun e w' => e = .returned (.bool (costsB p q C)) ∧ w = w' := by
  have Hp := Lib.hid hp.len; have Hq := Lib.hid hq.len; have Ht := Lib.hid ht.len
  have m1 : n1 ≤ 9223372036854775807 := by have := hp.le; have := hp.mx; omega
  have m2 : n2 ≤ 9223372036854775807 := by have := hq.le; have := hq.mx; omega
  have m3 : n3 ≤ 9223372036854775807 := by have := ht.le; have := ht.mx; omega
  by_cases hne : n3 = n1
  rotate_left
  · have hb : ((n3 : Int) != (n1 : Int)) = true := by simp; omega
    have HN := Lib.hid hne
    clear hne
    go_enter Try.func82, Try.ntmps82
    go_wp2
    go_ret
    exact ⟨ret_bool (costsB_noLen (by rw [Ht.out, Hp.out]; exact HN.out)).symm, rfl⟩
  subst hne
  go_enter Try.func82, Try.ntmps82
  go_wp2
  go_loop [16] (fun i => ∃ k : Nat, k ≤ n3 ∧ i = .int .i64 k ∧ Hid (∀ s, s < k → costRow n2 C s = true)) (fun i => n3 - (intOf i).toNat)
  case atStart => exact ⟨0, Nat.zero_le _, rfl, Lib.hid (fun i hi => by omega)⟩
  case round =>
    obtain ⟨k, hk, rfl, hs⟩ := hrel
    by_cases hlt : k < n3
    · obtain ⟨b3, o3, rfl, hc3⟩ := ht.rows.resolve_left (by omega)
      obtain ⟨pr, mr, cr, hcell, hrow⟩ := hc3 k hlt
      clear hc3
      have Hr := Lib.hid hrow.len
      have hmr : mr ≤ 9223372036854775807 := by have := hrow.le; have := hrow.mx; omega
      by_cases hl : mr = n2
      rotate_left
      · have hb : ((mr : Int) != (n2 : Int)) = true := by simp; omega
        have HL : Hid (costRow n2 C k = false) := Lib.hid (by rw [costRow, Hr.out, beq_eq_false_iff_ne.2 hl]; rfl)
        clear hl
        go_wp2
        go_ret
        exact ⟨ret_bool (costsB_noRow (by rw [Ht.out]; exact hlt) (by rw [Hq.out]; exact HL.out)).symm, rfl⟩
      subst hl
      cases hall : allB (nthL C k) 0 99
      · have HL : Hid (costRow mr C k = false) := Lib.hid (by rw [costRow, hall]; simp)
        go_wp2_with (go_at_call 81; refine (allWithin_any _ _ _ _ _ _ _ hrow).mono ?_; rintro e w' ⟨rfl, rfl⟩)
        go_ret
        exact ⟨ret_bool (costsB_noRow (by rw [Ht.out]; exact hlt) (by rw [Hq.out]; exact HL.out)).symm, rfl⟩
      · have HL : Hid (costRow mr C k = true) := Lib.hid (by rw [costRow, hall, Hr.out]; simp)
        go_wp2_with (go_at_call 81; refine (allWithin_any _ _ _ _ _ _ _ hrow).mono ?_; rintro e w' ⟨rfl, rfl⟩)
        clear hall
        go_round
        case rel => exact ⟨k + 1, by omega, by go_num, Lib.hid (fun i hi => by by_cases e : i = k; (· subst e; exact HL.out); (· exact hs.out i (by omega)))⟩
        case measure => simp [intOf]; omega
    · obtain rfl : k = n3 := by omega
      go_wp2
      go_ret
      exact ⟨ret_bool (costsB_iff.2 ⟨by rw [Ht.out, Hp.out], by rw [Ht.out, Hq.out]; exact hs.out⟩).symm, rfl⟩

theorem l10Costs_any (w : World) (a b t : Option Addr) (n1 c1 n2 c2 n3 c3 : Nat) (p q : List Int) (C : List (List Int)) (hp : SL w a n1 c1 p) (hq : SL w b n2 c2 q) (ht : SS w t n3 c3 C) :
    Calls Try.prog 79 #[.slice a n1 c1, .slice b n2 c2, .slice t n3 c3] w fun e w' => e = .returned (.bool (costsB p q C)) ∧ w = w' := by
  have Hp := Lib.hid hp.len; have Hq := Lib.hid hq.len; have Ht := Lib.hid ht.len
  have m1 : n1 ≤ 9223372036854775807 := by have := hp.le; have := hp.mx; omega
  have m2 : n2 ≤ 9223372036854775807 := by have := hq.le; have := hq.mx; omega
  have m3 : n3 ≤ 9223372036854775807 := by have := ht.le; have := ht.mx; omega
  go_enter Try.func79, Try.ntmps79
  go_wp2
  go_loop [7] (fun i => ∃ k : Nat, k ≤ n3 ∧ i = .int .i64 k ∧ Hid (∀ s, s < k → costRow n2 C s = true)) (fun i => n3 - (intOf i).toNat)
  case atStart => exact ⟨0, Nat.zero_le _, rfl, Lib.hid (fun i hi => by omega)⟩
  case round =>
    obtain ⟨k, hk, rfl, hs⟩ := hrel
    by_cases hlt : k < n3
    · obtain ⟨b3, o3, rfl, hc3⟩ := ht.rows.resolve_left (by omega)
      obtain ⟨pr, mr, cr, hcell, hrow⟩ := hc3 k hlt
      clear hc3
      have Hr := Lib.hid hrow.len
      have hmr : mr ≤ 9223372036854775807 := by have := hrow.le; have := hrow.mx; omega
      go_wp2
      go_loop [8] (fun i => ∃ j : Nat, j ≤ mr ∧ i = .int .i64 j ∧ Hid (allB ((nthL C k).take j) 0 99 = true)) (fun i => mr - (intOf i).toNat)
      case atStart => exact ⟨0, Nat.zero_le _, rfl, Lib.hid rfl⟩
      case round =>
        obtain ⟨j, hj, rfl, ha⟩ := hrel
        by_cases hjt : j < mr
        · obtain ⟨br, orr, rfl, hcr⟩ := hrow.cells.resolve_left (by omega)
          replace hcr := hcr j hjt
          have hks : j < (nthL C k).length := by rw [Hr.out]; exact hjt
          have HS := Lib.hid (allB_snoc (nthL C k) 0 99 j hks)
          have HKS := Lib.hid hks
          clear hks
          cases hb : inB (nth (nthL C k) j) 0 99
          · have HL : Hid (costRow n2 C k = false) := Lib.hid (by rw [costRow, allB_no HKS.out hb]; simp)
            go_wp2_with (go_at_call 106; refine (l1In_any _ _ _ _).mono ?_; rintro e w' ⟨rfl, rfl⟩)
            go_ret
            exact ⟨ret_bool (costsB_noRow (by rw [Ht.out]; exact hlt) (by rw [Hq.out]; exact HL.out)).symm, rfl⟩
          · have HB := Lib.hid hb
            go_wp2_with (go_at_call 106; refine (l1In_any _ _ _ _).mono ?_; rintro e w' ⟨rfl, rfl⟩)
            go_round
            case rel => exact ⟨j + 1, by omega, by go_num, Lib.hid (by rw [HS.out, ha.out, HB.out]; rfl)⟩
            case measure => simp [intOf]; omega
        · obtain rfl : j = mr := by omega
          have HA : Hid (allB (nthL C k) 0 99 = true) := Lib.hid (by rw [← List.take_of_length_le (l := nthL C k) (i := j) (by rw [Hr.out]; omega)]; exact ha.out)
          by_cases hl : j = n2
          rotate_left
          · have hb : ((j : Int) != (n2 : Int)) = true := by simp; omega
            have HL : Hid (costRow n2 C k = false) := Lib.hid (by rw [costRow, Hr.out, beq_eq_false_iff_ne.2 hl]; rfl)
            clear hl
            go_wp2
            go_ret
            exact ⟨ret_bool (costsB_noRow (by rw [Ht.out]; exact hlt) (by rw [Hq.out]; exact HL.out)).symm, rfl⟩
          subst hl
          have HL : Hid (costRow j C k = true) := Lib.hid (by rw [costRow, HA.out, Hr.out]; simp)
          go_wp2
          go_round
          case rel => exact ⟨k + 1, by omega, by go_num, Lib.hid (fun i hi => by by_cases e : i = k; (· subst e; exact HL.out); (· exact hs.out i (by omega)))⟩
          case measure => simp [intOf]; omega
    · obtain rfl : k = n3 := by omega
      by_cases hne : k = n1
      · subst hne
        go_wp2
        go_ret
        exact ⟨ret_bool (by rw [costsB_iff.2 ⟨by rw [Ht.out, Hp.out], by rw [Ht.out, Hq.out]; exact hs.out⟩]), rfl⟩
      · have HN := Lib.hid hne
        have hb : ((k : Int) == (n1 : Int)) = false := beq_eq_false_iff_ne.2 (by omega)
        clear hne
        go_wp2
        go_ret
        exact ⟨ret_bool (costsB_noLen (by rw [Ht.out, Hp.out]; exact HN.out)).symm, rfl⟩

end Go.Proofs.Ytboekndojgbkfaa
