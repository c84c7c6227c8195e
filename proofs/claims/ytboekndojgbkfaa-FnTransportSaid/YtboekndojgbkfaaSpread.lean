import Derived.Test.YtboekndojgbkfaaLists
/- Contracts of chapter 10's spreads. -/
set_option linter.unusedVariables false
namespace Go.Proofs.Ytboekndojgbkfaa
open Go.ChangeShapes Go.WideShapes Go.ChangeAt Go.RowKit

def spreadB (xs : List Int) : Bool := inB xs.length 1 8 && allB xs 0 40 && inB (wsum xs) 1 40

theorem impl_IsSpread_any (w : World) (a : Option Addr) (n cap : Nat) (xs : List Int) (h : SL w a n cap xs) :
    Calls Try.prog 52 #[.slice a n cap] w fun e w' => e = .returned (.bool (spreadB xs)) ∧ w = w' := by
  have Hl := Lib.hid h.len
  cases h1 : inB n 1 8 <;> cases h2 : allB xs 0 40
  all_goals
    have H1 := Lib.hid h1
    have H2 := Lib.hid h2
    go_enter Try.func52, Try.ntmps52
    go_wp2_with (first
      | (go_at_call 100; refine (within_any _ _ _ _).mono ?_; rintro e w' ⟨rfl, rfl⟩)
      | (go_at_call 84; refine (total_any _ _ _ _ _ h).mono ?_; rintro e w' ⟨rfl, rfl⟩)
      | (go_at_call 81; refine (allWithin_any _ _ _ _ _ _ _ h).mono ?_; rintro e w' ⟨rfl, rfl⟩))
    go_ret
    exact ⟨ret_bool (by rw [spreadB, Hl.out, H1.out, H2.out]; rfl), rfl⟩

theorem l10Row_any (w : World) (a : Option Addr) (n cap : Nat) (xs : List Int) (m : Int) (h : SL w a n cap xs) :
    Calls Try.prog 113 #[.slice a n cap, .int .i64 m] w fun e w' => e = .returned (.bool (allB xs 0 40 && ((n : Int) == m))) ∧ w = w' := by
  obtain ⟨hlen, hle, hmx, hrng, _, hcells⟩ := h
  have Hlen := Lib.hid hlen; clear hlen
  go_enter Try.func113, Try.ntmps113
  go_wp2
  go_loop [5] (fun i => ∃ k : Nat, k ≤ n ∧ i = .int .i64 k ∧ Hid (allB (xs.take k) 0 40 = true)) (fun i => n - (intOf i).toNat)
  case atStart => exact ⟨0, Nat.zero_le _, rfl, Lib.hid rfl⟩
  case round =>
    obtain ⟨k, hk, rfl, hall⟩ := hrel
    by_cases hlt : k < n
    · obtain ⟨b, off, rfl, hc0⟩ := hcells.resolve_left (by omega)
      have hc := hc0 k hlt
      clear hc0
      have hks := Hlen.out ▸ hlt
      have HS := Lib.hid (allB_snoc xs 0 40 k hks)
      cases hb : inB (nth xs k) 0 40 with
      | true =>
        have HB := Lib.hid hb
        go_wp2_with (go_at_call 106; refine (l1In_any _ _ _ _).mono ?_; rintro e w' ⟨rfl, rfl⟩)
        go_round
        case rel => exact ⟨k + 1, by omega, by go_num, Lib.hid (by rw [HS.out, hall.out, HB.out]; rfl)⟩
        case measure => simp [intOf]; omega
      | false =>
        have HB := Lib.hid hb
        go_wp2_with (go_at_call 106; refine (l1In_any _ _ _ _).mono ?_; rintro e w' ⟨rfl, rfl⟩)
        go_ret
        exact ⟨ret_bool (by rw [allB_no hks HB.out]; simp), rfl⟩
    · go_wp2
      go_ret
      exact ⟨ret_bool (by rw [← List.take_of_length_le (l := xs) (i := k) (by rw [Hlen.out]; omega), hall.out]; simp), rfl⟩

theorem l10Spread_any (w : World) (a : Option Addr) (n cap : Nat) (xs : List Int) (h : SL w a n cap xs) :
    Calls Try.prog 99 #[.slice a n cap] w fun e w' => e = .returned (.bool (spreadB xs)) ∧ w = w' := by
  have Hl := Lib.hid h.len
  cases h1 : inB n 1 8 <;> cases h2 : allB xs 0 40
  all_goals
    have H1 := Lib.hid h1
    have H2 := Lib.hid h2
    go_enter Try.func99, Try.ntmps99
    go_wp2_with (first
      | (go_at_call 106; refine (l1In_any _ _ _ _).mono ?_; rintro e w' ⟨rfl, rfl⟩)
      | (go_at_call 112; refine (l10Sum_any _ _ _ _ _ h).mono ?_; rintro e w' ⟨rfl, rfl⟩)
      | (go_at_call 113; refine (l10Row_any _ _ _ _ _ _ h).mono ?_; rintro e w' ⟨rfl, rfl⟩))
    go_ret
    exact ⟨ret_bool (by rw [spreadB, Hl.out, H1.out, H2.out]; rfl), rfl⟩

def alikeB (xs ys : List Int) : Bool := spreadB xs && spreadB ys && (xs.length == ys.length) && (wsum xs == wsum ys)

theorem alike_any (w : World) (a b : Option Addr) (n c m d : Nat) (xs ys : List Int) (h : SL w a n c xs) (k : SL w b m d ys) :
    Calls Try.prog 74 #[.slice a n c, .slice b m d] w fun e w' => e = .returned (.bool (alikeB xs ys)) ∧ w = w' := by
  have Hl := Lib.hid h.len
  have Hk := Lib.hid k.len
  by_cases hnm : n = m
  · subst hnm
    cases h1 : spreadB xs <;> cases h2 : spreadB ys
    all_goals
      have H1 := Lib.hid h1
      have H2 := Lib.hid h2
      go_enter Try.func74, Try.ntmps74
      go_wp2_with (first
        | (go_at_call_of 52 (Value.slice a n c); refine (impl_IsSpread_any _ _ _ _ _ h).mono ?_; rintro e w' ⟨rfl, rfl⟩)
        | (go_at_call_of 52 (Value.slice b n d); refine (impl_IsSpread_any _ _ _ _ _ k).mono ?_; rintro e w' ⟨rfl, rfl⟩)
        | (go_at_call_of 84 (Value.slice a n c); refine (total_any _ _ _ _ _ h).mono ?_; rintro e w' ⟨rfl, rfl⟩)
        | (go_at_call_of 84 (Value.slice b n d); refine (total_any _ _ _ _ _ k).mono ?_; rintro e w' ⟨rfl, rfl⟩))
      go_ret
      exact ⟨ret_bool (by rw [alikeB, Hl.out, Hk.out, H1.out, H2.out]; simp), rfl⟩
  · have hne : ((n : Int) == (m : Int)) = false := beq_eq_false_iff_ne.2 (by omega)
    have HN := Lib.hid hnm
    clear hnm
    cases h1 : spreadB xs <;> cases h2 : spreadB ys
    all_goals
      have H1 := Lib.hid h1
      have H2 := Lib.hid h2
      go_enter Try.func74, Try.ntmps74
      go_wp2_with (first
        | (go_at_call_of 52 (Value.slice a n c); refine (impl_IsSpread_any _ _ _ _ _ h).mono ?_; rintro e w' ⟨rfl, rfl⟩)
        | (go_at_call_of 52 (Value.slice b m d); refine (impl_IsSpread_any _ _ _ _ _ k).mono ?_; rintro e w' ⟨rfl, rfl⟩))
      go_ret
      exact ⟨ret_bool (by rw [alikeB, Hl.out, Hk.out, H1.out, H2.out]; simp [HN.out]), rfl⟩

theorem l10Alike_any (w : World) (a b : Option Addr) (n c m d : Nat) (xs ys : List Int) (h : SL w a n c xs) (k : SL w b m d ys) :
    Calls Try.prog 71 #[.slice a n c, .slice b m d] w fun e w' => e = .returned (.bool (alikeB xs ys)) ∧ w = w' := by
  have Hl := Lib.hid h.len
  have Hk := Lib.hid k.len
  by_cases hnm : n = m
  · subst hnm
    cases h1 : spreadB xs <;> cases h2 : spreadB ys
    all_goals
      have H1 := Lib.hid h1
      have H2 := Lib.hid h2
      go_enter Try.func71, Try.ntmps71
      go_wp2_with (first
        | (go_at_call_of 99 (Value.slice a n c); refine (l10Spread_any _ _ _ _ _ h).mono ?_; rintro e w' ⟨rfl, rfl⟩)
        | (go_at_call_of 99 (Value.slice b n d); refine (l10Spread_any _ _ _ _ _ k).mono ?_; rintro e w' ⟨rfl, rfl⟩)
        | (go_at_call_of 112 (Value.slice a n c); refine (l10Sum_any _ _ _ _ _ h).mono ?_; rintro e w' ⟨rfl, rfl⟩)
        | (go_at_call_of 112 (Value.slice b n d); refine (l10Sum_any _ _ _ _ _ k).mono ?_; rintro e w' ⟨rfl, rfl⟩))
      go_ret
      exact ⟨ret_bool (by rw [alikeB, Hl.out, Hk.out, H1.out, H2.out]; simp), rfl⟩
  · have hne : ((n : Int) == (m : Int)) = false := beq_eq_false_iff_ne.2 (by omega)
    have HN := Lib.hid hnm
    clear hnm
    cases h1 : spreadB xs <;> cases h2 : spreadB ys
    all_goals
      have H1 := Lib.hid h1
      have H2 := Lib.hid h2
      go_enter Try.func71, Try.ntmps71
      go_wp2_with (first
        | (go_at_call_of 99 (Value.slice a n c); refine (l10Spread_any _ _ _ _ _ h).mono ?_; rintro e w' ⟨rfl, rfl⟩)
        | (go_at_call_of 99 (Value.slice b m d); refine (l10Spread_any _ _ _ _ _ k).mono ?_; rintro e w' ⟨rfl, rfl⟩))
      go_ret
      exact ⟨ret_bool (by rw [alikeB, Hl.out, Hk.out, H1.out, H2.out]; simp [HN.out]), rfl⟩

end Go.Proofs.Ytboekndojgbkfaa
