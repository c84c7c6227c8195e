import Derived.Test.YtboekndojgbkfaaAbove
/- Contracts of IsAbove. -/
set_option linter.unusedVariables false
namespace Go.Proofs.Ytboekndojgbkfaa
open Go.ChangeShapes Go.WideShapes Go.ChangeAt Go.RowKit
def upL (xs : List Int) (k : Nat) : List Int := (List.range k).map fun i => sumTo xs (i + 1)
theorem upL_len (xs : List Int) (k : Nat) : (upL xs k).length = k := by simp [upL]
theorem upL_nth {xs : List Int} {k i : Nat} (h : i < k) : nth (upL xs k) i = sumTo xs (i + 1) := by simp [nth, upL, h]
theorem upL_succ (xs : List Int) (k : Nat) : upL xs (k + 1) = upL xs k ++ [sumTo xs (k + 1)] := by simp [upL, List.range_succ]
theorem sumTo_bdN {xs : List Int} (h : ∀ i, 0 ≤ nth xs i ∧ nth xs i ≤ 40) (k : Nat) : 0 ≤ sumTo xs k ∧ sumTo xs k ≤ 40 * k := by
  induction k with
  | zero => simp [sumTo]
  | succ k ih => have := h k; rw [sumTo]; omega
theorem upTo_any (w : World) (a : Option Addr) (n cap : Nat) (xs : List Int) (h : SL w a n cap xs) (hb : ∀ i, 0 ≤ nth xs i ∧ nth xs i ≤ 40) (hn : n ≤ 8) :
    Calls Try.prog 101 #[.slice a n cap] w (RetS (upL xs n) w) := by
  have HB := Lib.hid hb
  have o0 := Own.made0 (B := w.heap.size) w (Nat.le_refl _)
  have F0 := (Fr.refl w).alloc (.cells #[] 3)
  clear hb
  go_enter Try.func101, Try.ntmps101
  go_wp2
  go_loopw [3, 4, 10] (fun o s i wr => ∃ (k : Nat) (p : Option Addr) (c : Nat), k ≤ n ∧ i = .int .i64 k ∧ s = .int .i64 (sumTo xs k) ∧ o = .slice p k c ∧ Own w.heap.size wr p k c (upL xs k) ∧ Fr w wr) (fun _ _ i _ => n - (intOf i).toNat)
  case atStart => exact ⟨0, _, _, Nat.zero_le _, rfl, rfl, rfl, o0, F0⟩
  case round =>
    clear o0 F0
    obtain ⟨k, p, c, hk, rfl, rfl, rfl, op, F⟩ := hrel
    by_cases hlt : k < n
    · obtain ⟨b, off, rfl, hc⟩ := (h.fr F).cells.resolve_left (by omega)
      replace hc := hc k hlt
      have b1 := sumTo_bdN HB.out k
      have b2 := HB.out k
      have hS : Hid (sumTo xs k + nth xs k = sumTo xs (k + 1)) := Lib.hid rfl
      have zz := F.size
      go_wp2_with (at_builtin; refine ap_int _ rfl _ _ rfl w.heap.size p k c _ _ rfl rfl op zz (by unfold I64; omega) (by omega) ?_)
      intro g' c' w' hown hgr _
      have F2 := F.grown hgr (fun q hq => (op.blk q hq).1)
      rw [hS.out, ← upL_succ] at hown
      go_wp2
      go_roundw
      case rel => exact ⟨k + 1, _, _, by omega, by go_num, by rw [hS.out], rfl, hown, F2⟩
      case measure => simp [intOf]; omega
    · obtain rfl : k = n := by omega
      go_wp2
      go_ret
      exact ⟨_, _, _, rfl, op, F, by omega⟩
set_option maxRecDepth 100000 in
theorem impl_IsAbove_any (w : World) (a b : Option Addr) (n1 c1 n2 c2 : Nat) (p q : List Int) (hp : SL w a n1 c1 p) (hq : SL w b n2 c2 q) :
    Calls Try.prog 60 #[.slice a n1 c1, .slice b n2 c2] w fun e w' => e = .returned (.tuple #[.bool (aboV p q), .bool (alikeB p q)]) ∧ Fr w w' := by
  have Hp := Lib.hid hp.len; have Hq := Lib.hid hq.len
  cases h1 : alikeB p q
  · have HV : Hid (aboV p q = false) := Lib.hid (by rw [aboV, h1]; rfl)
    have H1 := Lib.hid h1
    go_enter Try.func60, Try.ntmps60
    go_wp2_with (go_at_call 74; refine (alike_any _ _ _ _ _ _ _ _ _ hp hq).mono ?_; rintro e w' ⟨rfl, rfl⟩; rw [H1.out])
    go_ret2
    exact ⟨by rw [HV.out]; rfl, Fr.refl _⟩
  · obtain ⟨s1, s2, s3, s4⟩ := alikeB_iff.1 h1
    have g1 := (spreadB_iff.1 s1).1
    rw [Hp.out] at g1
    have hn : n2 = n1 := by rw [← Hp.out, ← Hq.out, s3]
    subst hn
    have HPN := Lib.hid (spread_nth s1)
    have HQN := Lib.hid (spread_nth s2)
    have HV : Hid (aboV p q = aboB p q) := Lib.hid (by rw [aboV, h1]; rfl)
    have H1 := Lib.hid h1
    clear s1 s2 s3 s4 h1
    go_enter Try.func60, Try.ntmps60
    go_wp2_with (go_at_call 74; refine (alike_any _ _ _ _ _ _ _ _ _ hp hq).mono ?_; rintro e w' ⟨rfl, rfl⟩; rw [H1.out])
    refine (upTo_any _ _ _ _ _ hp HPN.out (by omega)).mono ?_
    rintro e w1 ⟨a3, n3, c3, rfl, o3, f3, -⟩
    have e3 : n3 = n2 := by rw [← o3.len, upL_len]
    subst e3
    go_wp2_with fail
    refine (upTo_any _ _ _ _ _ (hq.fr f3) HQN.out (by omega)).mono ?_
    rintro e w2 ⟨a4, n4, c4, rfl, o4, f4, -⟩
    have e4 : n4 = n3 := by rw [← o4.len, upL_len]
    subst e4
    have S3 := (o3.fr f4).sl
    have S4 := o4.sl
    have F := f3.trans f4
    clear o3 o4 f3 f4
    go_wp2
    go_loopw [19] (fun i wr => ∃ k : Nat, k ≤ n4 ∧ i = .int .i64 k ∧ Hid (∀ s, s < k → sumTo p (s + 1) ≤ sumTo q (s + 1)) ∧ Qt w2 wr) (fun i _ => n4 - (intOf i).toNat)
    case atStart => exact ⟨0, Nat.zero_le _, rfl, Lib.hid (fun i hi => by omega), Qt.refl _⟩
    case round =>
      obtain ⟨k, hk, rfl, hs, hQ⟩ := hrel
      by_cases hlt : k < n4
      · obtain ⟨x3, o3, rfl, hc3⟩ := (S3.qt hQ).cells.resolve_left (by omega)
        obtain ⟨x4, o4, rfl, hc4⟩ := (S4.qt hQ).cells.resolve_left (by omega)
        replace hc3 := hc3 k hlt
        replace hc4 := hc4 k hlt
        rw [upL_nth hlt] at hc3 hc4
        have i1 : (0 : Int) ≤ (k : Int) := by omega
        have i2 : (k : Int) < (n4 : Int) := by omega
        by_cases hb : sumTo p (k + 1) ≤ sumTo q (k + 1)
        · have HY := Lib.hid hb
          have hb1 : decide (sumTo q (k + 1) < sumTo p (k + 1)) = false := by simp; omega
          clear hb
          go_wp2
          go_quiet (fail)
          go_wp2
          go_roundw
          case rel => exact ⟨k + 1, by omega, by go_num, Lib.hid (fun i hi => by by_cases e : i = k; (· subst e; exact HY.out); (· exact hs.out i (by omega))), hQ.drewN _⟩
          case measure => simp [intOf]; omega
        · have HY : Hid (sumTo q (k + 1) < sumTo p (k + 1)) := Lib.hid (Int.not_le.1 hb)
          have hb1 : decide (sumTo q (k + 1) < sumTo p (k + 1)) = true := by simp; omega
          clear hb
          go_wp2
          go_quiet (fail)
          go_wp2
          go_ret2
          exact ⟨by rw [HV.out, aboB_no (by rw [Hp.out]; exact hlt) HY.out]; rfl, F.trans (hQ.drewN _).fr⟩
      · obtain rfl : k = n4 := by omega
        go_wp2
        go_ret2
        exact ⟨by rw [HV.out, aboB_iff.2 (by rw [Hp.out]; exact hs.out)]; rfl, F.trans hQ.fr⟩
set_option maxRecDepth 100000 in
theorem spec_IsAbove_any (w : World) (a b : Option Addr) (n1 c1 n2 c2 : Nat) (p q : List Int) (hp : SL w a n1 c1 p) (hq : SL w b n2 c2 q) :
    Calls Try.prog 61 #[.slice a n1 c1, .slice b n2 c2] w fun e w' => e = .returned (.tuple #[.bool (aboV p q), .bool (alikeB p q)]) ∧ Fr w w' := by
  have Hp := Lib.hid hp.len; have Hq := Lib.hid hq.len
  cases h1 : alikeB p q
  · have HV : Hid (aboV p q = false) := Lib.hid (by rw [aboV, h1]; rfl)
    have H1 := Lib.hid h1
    go_enter Try.func61, Try.ntmps61
    go_wp2_with (go_at_call 71; refine (l10Alike_any _ _ _ _ _ _ _ _ _ hp hq).mono ?_; rintro e w' ⟨rfl, rfl⟩; rw [H1.out])
    go_ret2
    exact ⟨by rw [HV.out]; rfl, Fr.refl _⟩
  · obtain ⟨s1, s2, s3, s4⟩ := alikeB_iff.1 h1
    have g1 := (spreadB_iff.1 s1).1
    rw [Hp.out] at g1
    have hn : n2 = n1 := by rw [← Hp.out, ← Hq.out, s3]
    subst hn
    have HPN := Lib.hid (spread_nth s1)
    have HQN := Lib.hid (spread_nth s2)
    have HV : Hid (aboV p q = aboB p q) := Lib.hid (by rw [aboV, h1]; rfl)
    have H1 := Lib.hid h1
    clear s1 s2 s3 s4 h1
    go_enter Try.func61, Try.ntmps61
    go_wp2_with (go_at_call 71; refine (l10Alike_any _ _ _ _ _ _ _ _ _ hp hq).mono ?_; rintro e w' ⟨rfl, rfl⟩; rw [H1.out])
    go_loop [6, 7, 8] (fun x y i => ∃ k : Nat, k ≤ n2 ∧ i = .int .i64 k ∧ x = .int .i64 (sumTo p k) ∧ y = .int .i64 (sumTo q k) ∧ Hid (∀ s, s < k → sumTo p (s + 1) ≤ sumTo q (s + 1))) (fun _ _ i => n2 - (intOf i).toNat)
    case atStart => exact ⟨0, Nat.zero_le _, rfl, rfl, rfl, Lib.hid (fun i hi => by omega)⟩
    case round =>
      obtain ⟨k, hk, rfl, rfl, rfl, hs⟩ := hrel
      by_cases hlt : k < n2
      · obtain ⟨x3, o3, rfl, hc3⟩ := hp.cells.resolve_left (by omega)
        obtain ⟨x4, o4, rfl, hc4⟩ := hq.cells.resolve_left (by omega)
        replace hc3 := hc3 k hlt
        replace hc4 := hc4 k hlt
        have i1 : (0 : Int) ≤ (k : Int) := by omega
        have i2 : (k : Int) < (n2 : Int) := by omega
        have b1 := sumTo_bdN HPN.out k; have b2 := sumTo_bdN HQN.out k
        have b3 := HPN.out k; have b4 := HQN.out k
        have E1 : Hid (sumTo p k + nth p k = sumTo p (k + 1)) := Lib.hid rfl
        have E2 : Hid (sumTo q k + nth q k = sumTo q (k + 1)) := Lib.hid rfl
        by_cases hb : sumTo p k + nth p k ≤ sumTo q k + nth q k
        · have HY := Lib.hid hb
          have hb1 : decide (sumTo q k + nth q k < sumTo p k + nth p k) = false := by simp; omega
          clear hb
          go_wp2
          go_round
          case rel => exact ⟨k + 1, by omega, by go_num, by rw [E1.out], by rw [E2.out], Lib.hid (fun i hi => by by_cases e : i = k; (· subst e; exact HY.out); (· exact hs.out i (by omega)))⟩
          case measure => simp [intOf]; omega
        · have HY : Hid (sumTo q (k + 1) < sumTo p (k + 1)) := Lib.hid (Int.not_le.1 hb)
          have hb1 : decide (sumTo q k + nth q k < sumTo p k + nth p k) = true := by simp; omega
          clear hb
          go_wp2
          go_ret2
          exact ⟨by rw [HV.out, aboB_no (by rw [Hp.out]; exact hlt) HY.out]; rfl, Fr.refl _⟩
      · obtain rfl : k = n2 := by omega
        go_wp2
        go_ret2
        exact ⟨by rw [HV.out, aboB_iff.2 (by rw [Hp.out]; exact hs.out)]; rfl, Fr.refl _⟩
end Go.Proofs.Ytboekndojgbkfaa
