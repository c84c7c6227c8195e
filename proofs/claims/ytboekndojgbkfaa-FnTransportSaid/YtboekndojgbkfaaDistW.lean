import Derived.Test.YtboekndojgbkfaaOrdersM
import Derived.Test.YtboekndojgbkfaaAboveW
import Derived.Test.YtboekndojgbkfaaTabLaw
/- Contracts of DistanceOf, AreAlike, MixSpreads, EarthDistance. -/
set_option linter.unusedVariables false
namespace Go.Proofs.Ytboekndojgbkfaa
open Go.ChangeShapes Go.WideShapes Go.ChangeAt Go.RowKit
theorem spec_IsSpread_any (w : World) (a : Option Addr) (n cap : Nat) (xs : List Int) (h : SL w a n cap xs) :
    Calls Try.prog 53 #[.slice a n cap] w fun e w' => e = .returned (.bool (spreadB xs)) ∧ w = w' := by
  go_enter Try.func53, Try.ntmps53
  go_wp2_with fail
  refine (l10Spread_any _ _ _ _ _ h).mono ?_
  rintro e w' ⟨rfl, rfl⟩
  go_wp2
  go_ret
  exact ⟨rfl, rfl⟩
theorem impl_AreAlike_any (w : World) (a b : Option Addr) (n1 c1 n2 c2 : Nat) (p q : List Int) (hp : SL w a n1 c1 p) (hq : SL w b n2 c2 q) :
    Calls Try.prog 50 #[.slice a n1 c1, .slice b n2 c2] w fun e w' => e = .returned (.tuple #[.bool (alikeB p q), .bool (spreadB p && spreadB q)]) ∧ w = w' := by
  cases h1 : spreadB p
  · have H1 := Lib.hid h1
    have HA : Hid (alikeB p q = false) := Lib.hid (by rw [alikeB, h1]; rfl)
    go_enter Try.func50, Try.ntmps50
    go_wp2_with (go_at_call 52; refine (impl_IsSpread_any _ _ _ _ _ hp).mono ?_; rintro e w' ⟨rfl, rfl⟩; rw [H1.out])
    go_ret2
    exact ⟨by rw [HA.out]; rfl, rfl⟩
  · cases h2 : spreadB q
    · have H1 := Lib.hid h1
      have H2 := Lib.hid h2
      have HA : Hid (alikeB p q = false) := Lib.hid (by rw [alikeB, h1, h2]; rfl)
      clear h1 h2
      go_enter Try.func50, Try.ntmps50
      go_wp2_with fail
      refine (impl_IsSpread_any _ _ _ _ _ hp).mono ?_
      rintro e w' ⟨rfl, rfl⟩
      rw [H1.out]
      go_wp2_with fail
      refine (impl_IsSpread_any _ _ _ _ _ hq).mono ?_
      rintro e w' ⟨rfl, rfl⟩
      rw [H2.out]
      go_wp2
      go_ret2
      exact ⟨by rw [HA.out]; rfl, rfl⟩
    · have H1 := Lib.hid h1
      have H2 := Lib.hid h2
      clear h1 h2
      go_enter Try.func50, Try.ntmps50
      go_wp2_with fail
      refine (impl_IsSpread_any _ _ _ _ _ hp).mono ?_
      rintro e w' ⟨rfl, rfl⟩
      rw [H1.out]
      go_wp2_with fail
      refine (impl_IsSpread_any _ _ _ _ _ hq).mono ?_
      rintro e w' ⟨rfl, rfl⟩
      rw [H2.out]
      go_wp2_with fail
      refine (alike_any _ _ _ _ _ _ _ _ _ hp hq).mono ?_
      rintro e w' ⟨rfl, rfl⟩
      go_wp2
      go_ret2
      exact ⟨rfl, rfl⟩
theorem spec_AreAlike_any (w : World) (a b : Option Addr) (n1 c1 n2 c2 : Nat) (p q : List Int) (hp : SL w a n1 c1 p) (hq : SL w b n2 c2 q) :
    Calls Try.prog 51 #[.slice a n1 c1, .slice b n2 c2] w fun e w' => e = .returned (.tuple #[.bool (alikeB p q), .bool (spreadB p && spreadB q)]) ∧ w = w' := by
  cases h1 : spreadB p
  · have H1 := Lib.hid h1
    have HA : Hid (alikeB p q = false) := Lib.hid (by rw [alikeB, h1]; rfl)
    go_enter Try.func51, Try.ntmps51
    go_wp2_with (go_at_call 99; refine (l10Spread_any _ _ _ _ _ hp).mono ?_; rintro e w' ⟨rfl, rfl⟩; rw [H1.out])
    go_ret2
    exact ⟨by rw [HA.out]; rfl, rfl⟩
  · cases h2 : spreadB q
    · have H1 := Lib.hid h1
      have H2 := Lib.hid h2
      have HA : Hid (alikeB p q = false) := Lib.hid (by rw [alikeB, h1, h2]; rfl)
      clear h1 h2
      go_enter Try.func51, Try.ntmps51
      go_wp2_with fail
      refine (l10Spread_any _ _ _ _ _ hp).mono ?_
      rintro e w' ⟨rfl, rfl⟩
      rw [H1.out]
      go_wp2_with fail
      refine (l10Spread_any _ _ _ _ _ hq).mono ?_
      rintro e w' ⟨rfl, rfl⟩
      rw [H2.out]
      go_wp2
      go_ret2
      exact ⟨by rw [HA.out]; rfl, rfl⟩
    · have H1 := Lib.hid h1
      have H2 := Lib.hid h2
      clear h1 h2
      go_enter Try.func51, Try.ntmps51
      go_wp2_with fail
      refine (l10Spread_any _ _ _ _ _ hp).mono ?_
      rintro e w' ⟨rfl, rfl⟩
      rw [H1.out]
      go_wp2_with fail
      refine (l10Spread_any _ _ _ _ _ hq).mono ?_
      rintro e w' ⟨rfl, rfl⟩
      rw [H2.out]
      go_wp2_with fail
      refine (l10Alike_any _ _ _ _ _ _ _ _ _ hp hq).mono ?_
      rintro e w' ⟨rfl, rfl⟩
      go_wp2
      go_ret2
      exact ⟨rfl, rfl⟩
/-- What is known behind a test that two spreads are alike. -/
structure AlikeF (p q : List Int) (n1 n2 : Nat) : Prop where
  e : n2 = n1
  lo : 1 ≤ n1
  hi : n1 ≤ 8
  pn : ∀ i, 0 ≤ nth p i ∧ nth p i ≤ 40
  qn : ∀ i, 0 ≤ nth q i ∧ nth q i ≤ 40
theorem AlikeF.of {p q : List Int} {n1 n2 : Nat} (h : alikeB p q = true) (e1 : p.length = n1) (e2 : q.length = n2) : AlikeF p q n1 n2 := by
  obtain ⟨s1, s2, s3, s4⟩ := alikeB_iff.1 h
  have g1 := (spreadB_iff.1 s1).1
  exact ⟨by omega, by omega, by omega, spread_nth s1, spread_nth s2⟩
theorem impl_DistanceOf_any (w : World) (a b : Option Addr) (n1 c1 n2 c2 : Nat) (p q : List Int) (hp : SL w a n1 c1 p) (hq : SL w b n2 c2 q) :
    Calls Try.prog 48 #[.slice a n1 c1, .slice b n2 c2] w fun e w' => e = .returned (.tuple #[.int .i64 (distV p q), .bool (alikeB p q)]) ∧ Fr w w' := by
  have Hp := Lib.hid hp.len; have Hq := Lib.hid hq.len
  cases h1 : alikeB p q
  · have HV : Hid (distV p q = 0) := Lib.hid (by rw [distV, h1]; rfl)
    have H1 := Lib.hid h1
    go_enter Try.func48, Try.ntmps48
    go_wp2_with (go_at_call 74; refine (alike_any _ _ _ _ _ _ _ _ _ hp hq).mono ?_; rintro e w' ⟨rfl, rfl⟩; rw [H1.out])
    go_ret2
    exact ⟨by rw [HV.out]; rfl, Fr.refl _⟩
  · obtain ⟨e1, e2, e3, e4, e5⟩ := AlikeF.of h1 Hp.out Hq.out
    subst e1
    have HPN := Lib.hid e4; have HQN := Lib.hid e5
    have HV : Hid (distV p q = distTo p q n2) := Lib.hid (by rw [distV, h1, Hp.out]; rfl)
    have H1 := Lib.hid h1
    clear e4 e5 h1
    go_enter Try.func48, Try.ntmps48
    go_wp2_with (go_at_call 74; refine (alike_any _ _ _ _ _ _ _ _ _ hp hq).mono ?_; rintro e w' ⟨rfl, rfl⟩; rw [H1.out])
    go_loop [6, 15] (fun x i => ∃ k : Nat, k ≤ n2 ∧ i = .int .i64 k ∧ x = .int .i64 (distTo p q k)) (fun _ i => n2 - (intOf i).toNat)
    case atStart => exact ⟨0, Nat.zero_le _, rfl, rfl⟩
    case round =>
      obtain ⟨k, hk, rfl, rfl⟩ := hrel
      by_cases hlt : k < n2
      · obtain ⟨x3, o3, rfl, hc3⟩ := hp.cells.resolve_left (by omega)
        obtain ⟨x4, o4, rfl, hc4⟩ := hq.cells.resolve_left (by omega)
        replace hc3 := hc3 k hlt
        replace hc4 := hc4 k hlt
        have i1 : (0 : Int) ≤ (k : Int) := by omega
        have i2 : (k : Int) < (n2 : Int) := by omega
        have b1 := HPN.out k; have b2 := HQN.out k
        have b3 := dist_bd HPN.out HQN.out k
        have E1 : Hid (distTo p q (k + 1) = distTo p q k + max 0 (nth p k - nth q k)) := Lib.hid (by rw [distTo, Int.max_comm])
        by_cases hm : 0 ≤ nth p k - nth q k
        all_goals
          go_wp2
          go_round
          case rel => exact ⟨k + 1, by omega, by go_num, by rw [E1.out]; first | rfl | (congr 1; omega) | (congr 2; omega)⟩
          case measure => simp [intOf]; omega
      · obtain rfl : k = n2 := by omega
        go_wp2
        go_ret2
        exact ⟨by rw [HV.out]; rfl, Fr.refl _⟩
theorem spec_DistanceOf_any (w : World) (a b : Option Addr) (n1 c1 n2 c2 : Nat) (p q : List Int) (hp : SL w a n1 c1 p) (hq : SL w b n2 c2 q) :
    Calls Try.prog 49 #[.slice a n1 c1, .slice b n2 c2] w fun e w' => e = .returned (.tuple #[.int .i64 (distV p q), .bool (alikeB p q)]) ∧ Fr w w' := by
  have Hp := Lib.hid hp.len; have Hq := Lib.hid hq.len
  cases h1 : alikeB p q
  · have HV : Hid (distV p q = 0) := Lib.hid (by rw [distV, h1]; rfl)
    have H1 := Lib.hid h1
    go_enter Try.func49, Try.ntmps49
    go_wp2_with (go_at_call 71; refine (l10Alike_any _ _ _ _ _ _ _ _ _ hp hq).mono ?_; rintro e w' ⟨rfl, rfl⟩; rw [H1.out])
    go_ret2
    exact ⟨by rw [HV.out]; rfl, Fr.refl _⟩
  · obtain ⟨e1, e2, e3, e4, e5⟩ := AlikeF.of h1 Hp.out Hq.out
    subst e1
    have HPN := Lib.hid e4; have HQN := Lib.hid e5
    have HV : Hid (distV p q = distTo p q n2) := Lib.hid (by rw [distV, h1, Hp.out]; rfl)
    have H1 := Lib.hid h1
    clear e4 e5 h1
    go_enter Try.func49, Try.ntmps49
    go_wp2_with (go_at_call 71; refine (l10Alike_any _ _ _ _ _ _ _ _ _ hp hq).mono ?_; rintro e w' ⟨rfl, rfl⟩; rw [H1.out])
    go_loopw [6, 7] (fun x i wr => ∃ k : Nat, k ≤ n2 ∧ i = .int .i64 k ∧ x = .int .i64 (distTo p q k) ∧ Qt w wr) (fun _ i _ => n2 - (intOf i).toNat)
    case atStart => exact ⟨0, Nat.zero_le _, rfl, rfl, Qt.refl _⟩
    case round =>
      obtain ⟨k, hk, rfl, rfl, hQ⟩ := hrel
      by_cases hlt : k < n2
      · obtain ⟨x3, o3, rfl, hc3⟩ := (hp.qt hQ).cells.resolve_left (by omega)
        obtain ⟨x4, o4, rfl, hc4⟩ := (hq.qt hQ).cells.resolve_left (by omega)
        replace hc3 := hc3 k hlt
        replace hc4 := hc4 k hlt
        have i1 : (0 : Int) ≤ (k : Int) := by omega
        have i2 : (k : Int) < (n2 : Int) := by omega
        have b1 := HPN.out k; have b2 := HQN.out k
        have b3 := dist_bd HPN.out HQN.out k
        have b4 := dist_bd HPN.out HQN.out (k + 1)
        have E1 : Hid (distTo p q (k + 1) = distTo p q k + max (nth p k - nth q k) 0) := Lib.hid rfl
        rw [E1.out] at b4
        have e1 : IntKind.i64.wrap (nth p k - nth q k) = nth p k - nth q k := IntWalk.i64_in _ (by omega)
        have e2 : IntKind.i64.wrap (distTo p q k + max (nth p k - nth q k) 0) = distTo p q k + max (nth p k - nth q k) 0 := IntWalk.i64_in _ (by omega)
        go_wp2
        go_quiet ((go_at_call 98; exact qofe (l1Most_any _ _ _)))
        go_wp2
        go_roundw
        case rel => exact ⟨k + 1, by omega, by go_num, by rw [E1.out], hQ.drewN _⟩
        case measure => simp [intOf]; omega
      · obtain rfl : k = n2 := by omega
        go_wp2
        go_ret2
        exact ⟨by rw [HV.out]; rfl, hQ.fr⟩
end Go.Proofs.Ytboekndojgbkfaa
