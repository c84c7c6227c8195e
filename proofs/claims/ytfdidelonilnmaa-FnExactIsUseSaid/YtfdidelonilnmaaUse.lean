import Derived.Test.YtfdidelonilnmaaLists
/- Contracts of chapter 11's uses: IsUse, IsRising, IsConcave. -/
set_option linter.unusedVariables false
namespace Go.Proofs.Ytfdidelonilnmaa
open Go.ChangeShapes Go.WideShapes Go.ChangeAt Go.RowKit

def useB (xs : List Int) : Bool := inB xs.length 1 13 && allB xs 0 999
theorem useB_iff {xs : List Int} : useB xs = true ↔ 1 ≤ xs.length ∧ xs.length ≤ 13 ∧ ∀ x ∈ xs, 0 ≤ x ∧ x ≤ 999 := by
  simp only [useB, Bool.and_eq_true, inB_iff, allB_iff]
  exact ⟨fun ⟨⟨h1, h2⟩, h3⟩ => ⟨by omega, by omega, h3⟩, fun ⟨h1, h2, h3⟩ => ⟨⟨by omega, by omega⟩, h3⟩⟩
theorem useB_nth {xs : List Int} (h : useB xs = true) (i : Nat) : 0 ≤ nth xs i ∧ nth xs i ≤ 999 := by
  by_cases hi : i < xs.length
  · exact (useB_iff.1 h).2.2 _ (nth_mem hi)
  · rw [nth_out (by omega)]; omega

theorem impl_IsUse_any (w : World) (a : Option Addr) (n cap : Nat) (xs : List Int) (h : SL w a n cap xs) :
    Calls Try.prog 17 #[.slice a n cap] w fun e w' => e = .returned (.bool (useB xs)) ∧ w = w' := by
  have Hl := Lib.hid h.len
  cases h1 : inB n 1 13 with
  | true =>
    have H1 := Lib.hid h1
    go_enter Try.func17, Try.ntmps17
    go_wp2_with (first
      | (go_at_call 56; refine (within_any _ _ _ _).mono ?_; rintro e w' ⟨rfl, rfl⟩)
      | (go_at_call 57; refine (allWithin_any _ _ _ _ _ _ _ h).mono ?_; rintro e w' ⟨rfl, rfl⟩))
    go_ret
    exact ⟨ret_bool (by rw [useB, Hl.out, H1.out]; rfl), rfl⟩
  | false =>
    have H1 := Lib.hid h1
    go_enter Try.func17, Try.ntmps17
    go_wp2_with (first
      | (go_at_call 56; refine (within_any _ _ _ _).mono ?_; rintro e w' ⟨rfl, rfl⟩)
      | (go_at_call 57; refine (allWithin_any _ _ _ _ _ _ _ h).mono ?_; rintro e w' ⟨rfl, rfl⟩))
    go_ret
    exact ⟨ret_bool (by rw [useB, Hl.out, H1.out]; rfl), rfl⟩

theorem l11Use_any (w : World) (a : Option Addr) (n cap : Nat) (xs : List Int) (h : SL w a n cap xs) :
    Calls Try.prog 55 #[.slice a n cap] w fun e w' => e = .returned (.bool (useB xs)) ∧ w = w' := by
  obtain ⟨hlen, hle, hmx, hrng, hcells⟩ := h
  have Hlen := Lib.hid hlen; clear hlen
  go_enter Try.func55, Try.ntmps55
  go_wp2
  go_loop [3] (fun i => ∃ k : Nat, k ≤ n ∧ i = .int .i64 k ∧ Hid (allB (xs.take k) 0 999 = true)) (fun i => n - (intOf i).toNat)
  case atStart => exact ⟨0, Nat.zero_le _, rfl, Lib.hid rfl⟩
  case round =>
    obtain ⟨k, hk, rfl, hall⟩ := hrel
    by_cases hlt : k < n
    · obtain ⟨b, off, rfl, hc0⟩ := hcells.resolve_left (by omega)
      have hc := hc0 k hlt
      clear hc0
      have hks := Hlen.out ▸ hlt
      have HS := Lib.hid (allB_snoc xs 0 999 k hks)
      cases hb : inB (nth xs k) 0 999 with
      | true =>
        have HB := Lib.hid hb
        go_wp2_with (go_at_call 58; refine (l1In_any _ _ _ _).mono ?_; rintro e w' ⟨rfl, rfl⟩)
        go_round
        case rel => exact ⟨k + 1, by omega, by go_num, Lib.hid (by rw [HS.out, hall.out, HB.out]; rfl)⟩
        case measure => simp [intOf]; omega
      | false =>
        have HB := Lib.hid hb
        go_wp2_with (go_at_call 58; refine (l1In_any _ _ _ _).mono ?_; rintro e w' ⟨rfl, rfl⟩)
        go_ret
        exact ⟨ret_bool (by rw [useB, allB_no hks HB.out]; simp), rfl⟩
    · go_wp2_with (go_at_call 58; refine (l1In_any _ _ _ _).mono ?_; rintro e w' ⟨rfl, rfl⟩)
      go_ret
      exact ⟨ret_bool (by rw [useB, Hlen.out, ← List.take_of_length_le (l := xs) (i := k) (by rw [Hlen.out]; omega), hall.out]; simp), rfl⟩

theorem spec_IsUse_any (w : World) (a : Option Addr) (n cap : Nat) (xs : List Int) (h : SL w a n cap xs) :
    Calls Try.prog 15 #[.slice a n cap] w fun e w' => e = .returned (.bool (useB xs)) ∧ w = w' := by
  go_enter Try.func15, Try.ntmps15
  go_wp2_with (go_at_call 55; refine (l11Use_any _ _ _ _ _ h).mono ?_; rintro e w' ⟨rfl, rfl⟩)
  go_ret
  exact ⟨rfl, rfl⟩

theorem walk_FnExactIsUse (a0 : Option Addr) (n0 c0 : Nat) (x0 : List Int) (w : World) (h0 : SL w a0 n0 c0 x0) :
    Calls Try.prog 3 #[.slice a0 n0 c0] w fun e w' => e = .returned (.bool true) ∧ Fr w w' := by
  by_cases hn : n0 ≤ 1048576
  · go_enter Try.func3, Try.ntmps3
    go_wp2_with fail
    refine (toIntS_any _ _ _ _ _ h0 hn).mono ?_
    rintro e w1 ⟨a1, n1, c1, rfl, o1, f1⟩
    go_wp2_with fail
    refine (spec_IsUse_any _ _ _ _ _ o1.sl).mono ?_
    rintro e w' ⟨rfl, rfl⟩
    go_wp2_with fail
    refine (toIntS_any _ _ _ _ _ (h0.fr f1) hn).mono ?_
    rintro e w2 ⟨a2, n2, c2, rfl, o2, f2⟩
    go_wp2_with fail
    refine (impl_IsUse_any _ _ _ _ _ o2.sl).mono ?_
    rintro e w' ⟨rfl, rfl⟩
    go_wp2_with fail
    refine (toIntS_any _ _ _ _ _ (h0.fr (f1.trans f2)) hn).mono ?_
    rintro e w3 ⟨a3, n3, c3, rfl, o3, f3⟩
    go_wp2_with fail
    refine (eqIntS_any _ _ _ _ _ _ _ _ _ (o2.fr f3).sl o3.sl).mono ?_
    rintro e w4 ⟨rfl, f4⟩
    have hd : decide (x0 = x0) = true := by simp
    go_wp2
    go_ret
    exact ⟨rfl, ((f1.trans f2).trans f3).trans f4⟩
  · go_enter Try.func3, Try.ntmps3
    go_wp2
    go_ret
    exact ⟨rfl, Fr.refl _⟩

end Go.Proofs.Ytfdidelonilnmaa
