import Derived.Test.YtfdidelonilnmaaLists
/- Contracts of chapter 11's uses: IsUse, IsRising, IsConcave. -/
set_option linter.unusedVariables false
namespace Go.Proofs.Ytfdidelonilnmaa
open Go.ChangeShapes Go.WideShapes Go.ChangeAt Go.RowKit

def useB (xs : List Int) : Bool := inB xs.length 1 13 && allB xs 0 999
theorem useB_iff {xs : List Int} : useB xs = true ↔ 1 ≤ xs.length ∧ xs.length ≤ 13 ∧ ∀ x ∈ xs, 0 ≤ x ∧ x ≤ 999 := by
  simp only [useB, Bool.and_eq_true, inB_iff, allB_iff]
  exact ⟨fun ⟨⟨h1, h2⟩, h3⟩ => ⟨by omega, by omega, h3⟩, fun ⟨h1, h2, h3⟩ => ⟨⟨by omega, by omega⟩, h3⟩⟩
theorem useB_nth {xs : List Int} (h : useB xs = true) (i : Nat) : 0 ≤ nth xs i ∧ nth xs i ≤ 999 := by
  by_cases hi : i < xs.length
  · exact (useB_iff.1 h).2.2 _ (nth_mem hi)
  · rw [nth_out (by omega)]; omega

theorem impl_IsUse_any (w : World) (a : Option Addr) (n cap : Nat) (xs : List Int) (h : SL w a n cap xs) :
    Calls Try.prog 17 #[.slice a n cap] w fun e w' => e = .returned (.bool (useB xs)) ∧ w = w' := by
  have Hl := Lib.hid h.len
  cases h1 : inB n 1 13 with
  | true =>
    have H1 := Lib.hid h1
    go_enter Try.func17, Try.ntmps17
    go_wp2_with (first
      | (go_at_call 56; refine (within_any _ _ _ _).mono ?_; rintro e w' ⟨rfl, rfl⟩)
      | (go_at_call 57; refine (allWithin_any _ _ _ _ _ _ _ h).mono ?_; rintro e w' ⟨rfl, rfl⟩))
    go_ret
    exact ⟨ret_bool (by rw [useB, Hl.out, H1.out]; rfl), rfl⟩
  | false =>
    have H1 := Lib.hid h1
    go_enter Try.func17, Try.ntmps17
    go_wp2_with (first
      | (go_at_call 56; refine (within_any _ _ _ _).mono ?_; rintro e w' ⟨rfl, rfl⟩)
      | (go_at_call 57; refine (allWithin_any _ _ _ _ _ _ _ h).mono ?_; rintro e w' ⟨rfl, rfl⟩))
    go_ret
    exact ⟨ret_bool (by rw [useB, Hl.out, H1.out]; rfl), rfl⟩

theorem l11Use_any (w : World) (a : Option Addr) (n cap : Nat) (xs : List Int) (h : SL w a n cap xs) :
    Calls Try.prog 55 #[.slice a n cap] w fun e w' => e = .returned (.bool (useB xs)) ∧ w = w' := by
  obtain ⟨hlen, hle, hmx, hrng, _, hcells⟩ := h
  have Hlen := Lib.hid hlen; clear hlen
  go_enter Try.func55, Try.ntmps55
  go_wp2
  go_loop [3] (fun i => ∃ k : Nat, k ≤ n ∧ i = .int .i64 k ∧ Hid (allB (xs.take k) 0 999 = true)) (fun i => n - (intOf i).toNat)
  case atStart => exact ⟨0, Nat.zero_le _, rfl, Lib.hid rfl⟩
  case round =>
    obtain ⟨k, hk, rfl, hall⟩ := hrel
    by_cases hlt : k < n
    · obtain ⟨b, off, rfl, hc0⟩ := hcells.resolve_left (by omega)
      have hc := hc0 k hlt
      clear hc0
      have hks := Hlen.out ▸ hlt
      have HS := Lib.hid (allB_snoc xs 0 999 k hks)
      cases hb : inB (nth xs k) 0 999 with
      | true =>
        have HB := Lib.hid hb
        go_wp2_with (go_at_call 58; refine (l1In_any _ _ _ _).mono ?_; rintro e w' ⟨rfl, rfl⟩)
        go_round
        case rel => exact ⟨k + 1, by omega, by go_num, Lib.hid (by rw [HS.out, hall.out, HB.out]; rfl)⟩
        case measure => simp [intOf]; omega
      | false =>
        have HB := Lib.hid hb
        go_wp2_with (go_at_call 58; refine (l1In_any _ _ _ _).mono ?_; rintro e w' ⟨rfl, rfl⟩)
        go_ret
        exact ⟨ret_bool (by rw [useB, allB_no hks HB.out]; simp), rfl⟩
    · go_wp2_with (go_at_call 58; refine (l1In_any _ _ _ _).mono ?_; rintro e w' ⟨rfl, rfl⟩)
      go_ret
      exact ⟨ret_bool (by rw [useB, Hlen.out, ← List.take_of_length_le (l := xs) (i := k) (by rw [Hlen.out]; omega), hall.out]; simp), rfl⟩

theorem spec_IsUse_any (w : World) (a : Option Addr) (n cap : Nat) (xs : List Int) (h : SL w a n cap xs) :
    Calls Try.prog 15 #[.slice a n cap] w fun e w' => e = .returned (.bool (useB xs)) ∧ w = w' := by
  go_enter Try.func15, Try.ntmps15
  go_wp2_with (go_at_call 55; refine (l11Use_any _ _ _ _ _ h).mono ?_; rintro e w' ⟨rfl, rfl⟩)
  go_ret
  exact ⟨rfl, rfl⟩

def risB (xs : List Int) : Bool := decide (∀ i, i < xs.length → 1 ≤ i → nth xs (i - 1) ≤ nth xs i)
def conB (xs : List Int) : Bool := decide (∀ i, i < xs.length → 2 ≤ i → nth xs i - nth xs (i - 1) ≤ nth xs (i - 1) - nth xs (i - 2))

theorem impl_IsRising_any (w : World) (a : Option Addr) (n cap : Nat) (xs : List Int) (h : SL w a n cap xs) :
    Calls Try.prog 22 #[.slice a n cap] w fun e w' => e = .returned (.tuple #[.bool (useB xs && risB xs), .bool (useB xs)]) ∧ Fr w w' := by
  have H := h
  have Hl := Lib.hid h.len; have hm : n ≤ 9223372036854775807 := by have := h.le; have := h.mx; omega
  cases hu : useB xs with
  | false =>
    have HU := Lib.hid hu
    go_enter Try.func22, Try.ntmps22
    go_wp2_with (go_at_call 17; refine (impl_IsUse_any _ _ _ _ _ h).mono ?_; rintro e w' ⟨rfl, rfl⟩)
    go_ret2
    exact ⟨rfl, Fr.refl _⟩
  | true =>
    have HU := Lib.hid hu
    go_enter Try.func22, Try.ntmps22
    go_wp2_with (go_at_call 17; refine (impl_IsUse_any _ _ _ _ _ h).mono ?_; rintro e w' ⟨rfl, rfl⟩)
    clear h hu
    go_loopw [4] (fun i wr => ∃ k : Nat, 1 ≤ k ∧ k ≤ n + 1 ∧ i = .int .i64 k ∧ Hid (∀ i, i < k → 1 ≤ i → nth xs (i - 1) ≤ nth xs i) ∧ Fr w wr) (fun i _ => n + 1 - (intOf i).toNat)
    case atStart => exact ⟨1, by omega, by omega, rfl, Lib.hid (fun i h1 h2 => by omega), Fr.refl _⟩
    case round =>
      obtain ⟨k, hk1, hk, rfl, hs, hf⟩ := hrel
      by_cases hlt : k < n
      · obtain ⟨b, off, rfl, hc0⟩ := (H.fr hf).cells.resolve_left (by omega)
        obtain ⟨j, rfl⟩ : ∃ j, k = j + 1 := ⟨k - 1, by omega⟩
        have hc1 := hc0 (j + 1) hlt
        have hc2 := hc0 j (by omega)
        clear hc0
        have e1 : IntKind.i64.wrap (((j + 1 : Nat) : Int) - 1) = (j : Int) := by rw [IntWalk.i64_in _ (by omega)]; omega
        have i1 : (0 : Int) ≤ ((j + 1 : Nat) : Int) := by omega
        have i2 : ((j + 1 : Nat) : Int) < (n : Int) := by omega
        have i3 : (0 : Int) ≤ (j : Int) := by omega
        have i4 : (j : Int) < (n : Int) := by omega
        by_cases he : nth xs (j + 1) < nth xs j
        · have HE := Lib.hid he
          go_wp2
          go_quiet (fail)
          go_wp2
          go_ret2
          refine ⟨?_, hf.drew' _⟩
          have : risB xs = false := by
            rw [risB, decide_eq_false_iff_not]; intro q
            have := q (j + 1) (by rw [Hl.out]; omega) (by omega)
            have := HE.out; simp only [Nat.add_sub_cancel] at *; omega
          rw [this]; rfl
        · have HE := Lib.hid he
          go_wp2
          go_quiet (fail)
          go_wp2
          go_roundw
          case rel =>
            refine ⟨j + 1 + 1, by omega, by omega, by go_num, Lib.hid (fun i hi h1 => ?_), hf.drew' _⟩
            by_cases e : i = j + 1
            · subst e; have := HE.out; simp only [Nat.add_sub_cancel]; omega
            · exact hs.out i (by omega) h1
          case measure => simp [intOf]; omega
      · go_wp2
        go_ret2
        refine ⟨?_, hf⟩
        have : risB xs = true := by
          rw [risB, decide_eq_true_eq]; intro i h1 h2
          exact hs.out i (by rw [Hl.out] at h1; omega) h2
        rw [this]; rfl

theorem spec_IsRising_any (w : World) (a : Option Addr) (n cap : Nat) (xs : List Int) (h : SL w a n cap xs) :
    Calls Try.prog 21 #[.slice a n cap] w fun e w' => e = .returned (.tuple #[.bool (useB xs && risB xs), .bool (useB xs)]) ∧ Fr w w' := by
  have H := h
  have Hl := Lib.hid h.len; have hm : n ≤ 9223372036854775807 := by have := h.le; have := h.mx; omega
  cases hu : useB xs with
  | false =>
    have HU := Lib.hid hu
    go_enter Try.func21, Try.ntmps21
    go_wp2_with (go_at_call 55; refine (l11Use_any _ _ _ _ _ h).mono ?_; rintro e w' ⟨rfl, rfl⟩)
    go_ret2
    exact ⟨rfl, Fr.refl _⟩
  | true =>
    have HU := Lib.hid hu
    go_enter Try.func21, Try.ntmps21
    go_wp2_with (go_at_call 55; refine (l11Use_any _ _ _ _ _ h).mono ?_; rintro e w' ⟨rfl, rfl⟩)
    clear h hu
    go_loopw [4] (fun i wr => ∃ k : Nat, 1 ≤ k ∧ k ≤ n + 1 ∧ i = .int .i64 k ∧ Hid (∀ i, i < k → 1 ≤ i → nth xs (i - 1) ≤ nth xs i) ∧ Fr w wr) (fun i _ => n + 1 - (intOf i).toNat)
    case atStart => exact ⟨1, by omega, by omega, rfl, Lib.hid (fun i h1 h2 => by omega), Fr.refl _⟩
    case round =>
      obtain ⟨k, hk1, hk, rfl, hs, hf⟩ := hrel
      by_cases hlt : k < n
      · obtain ⟨b, off, rfl, hc0⟩ := (H.fr hf).cells.resolve_left (by omega)
        obtain ⟨j, rfl⟩ : ∃ j, k = j + 1 := ⟨k - 1, by omega⟩
        have hc1 := hc0 (j + 1) hlt
        have hc2 := hc0 j (by omega)
        clear hc0
        have e1 : IntKind.i64.wrap (((j + 1 : Nat) : Int) - 1) = (j : Int) := by rw [IntWalk.i64_in _ (by omega)]; omega
        have i1 : (0 : Int) ≤ ((j + 1 : Nat) : Int) := by omega
        have i2 : ((j + 1 : Nat) : Int) < (n : Int) := by omega
        have i3 : (0 : Int) ≤ (j : Int) := by omega
        have i4 : (j : Int) < (n : Int) := by omega
        by_cases he : nth xs (j + 1) < nth xs j
        · have HE := Lib.hid he
          go_wp2
          go_quiet (fail)
          go_wp2
          go_ret2
          refine ⟨?_, hf.drew' _⟩
          have : risB xs = false := by
            rw [risB, decide_eq_false_iff_not]; intro q
            have := q (j + 1) (by rw [Hl.out]; omega) (by omega)
            have := HE.out; simp only [Nat.add_sub_cancel] at *; omega
          rw [this]; rfl
        · have HE := Lib.hid he
          go_wp2
          go_quiet (fail)
          go_wp2
          go_roundw
          case rel =>
            refine ⟨j + 1 + 1, by omega, by omega, by go_num, Lib.hid (fun i hi h1 => ?_), hf.drew' _⟩
            by_cases e : i = j + 1
            · subst e; have := HE.out; simp only [Nat.add_sub_cancel]; omega
            · exact hs.out i (by omega) h1
          case measure => simp [intOf]; omega
      · go_wp2
        go_ret2
        refine ⟨?_, hf⟩
        have : risB xs = true := by
          rw [risB, decide_eq_true_eq]; intro i h1 h2
          exact hs.out i (by rw [Hl.out] at h1; omega) h2
        rw [this]; rfl

theorem impl_IsConcave_any (w : World) (a : Option Addr) (n cap : Nat) (xs : List Int) (h : SL w a n cap xs) :
    Calls Try.prog 20 #[.slice a n cap] w fun e w' => e = .returned (.tuple #[.bool (useB xs && conB xs), .bool (useB xs)]) ∧ Fr w w' := by
  have H := h
  have Hl := Lib.hid h.len; have hm : n ≤ 9223372036854775807 := by have := h.le; have := h.mx; omega
  cases hu : useB xs with
  | false =>
    have HU := Lib.hid hu
    go_enter Try.func20, Try.ntmps20
    go_wp2_with (go_at_call 17; refine (impl_IsUse_any _ _ _ _ _ h).mono ?_; rintro e w' ⟨rfl, rfl⟩)
    go_ret2
    exact ⟨rfl, Fr.refl _⟩
  | true =>
    have HU := Lib.hid hu
    go_enter Try.func20, Try.ntmps20
    go_wp2_with (go_at_call 17; refine (impl_IsUse_any _ _ _ _ _ h).mono ?_; rintro e w' ⟨rfl, rfl⟩)
    clear h hu
    go_loopw [4] (fun i wr => ∃ k : Nat, 2 ≤ k ∧ k ≤ n + 2 ∧ i = .int .i64 k ∧ Hid (∀ i, i < k → 2 ≤ i → nth xs i - nth xs (i - 1) ≤ nth xs (i - 1) - nth xs (i - 2)) ∧ Fr w wr) (fun i _ => n + 2 - (intOf i).toNat)
    case atStart => exact ⟨2, by omega, by omega, rfl, Lib.hid (fun i h1 h2 => by omega), Fr.refl _⟩
    case round =>
      obtain ⟨k, hk1, hk, rfl, hs, hf⟩ := hrel
      by_cases hlt : k < n
      · obtain ⟨b, off, rfl, hc0⟩ := (H.fr hf).cells.resolve_left (by omega)
        obtain ⟨j, rfl⟩ : ∃ j, k = j + 2 := ⟨k - 2, by omega⟩
        have hc1 := hc0 (j + 2) hlt
        have hc2 := hc0 (j + 1) (by omega)
        have hc3 := hc0 j (by omega)
        clear hc0
        have b1 := useB_nth HU.out (j + 2)
        have b2 := useB_nth HU.out (j + 1)
        have b3 := useB_nth HU.out j
        have HE : Hid (nth xs (j + 2) - nth xs (j + 1) ≤ nth xs (j + 1) - nth xs j) ∨ Hid (nth xs (j + 1) - nth xs j < nth xs (j + 2) - nth xs (j + 1)) := by unfold Hid; omega
        have g1 : decide (nth xs (j + 1) - nth xs j < nth xs (j + 2) - nth xs (j + 1)) = decide (nth xs (j + 1) - nth xs j < nth xs (j + 2) - nth xs (j + 1)) := rfl
        clear g1
        have e1 : IntKind.i64.wrap (((j + 2 : Nat) : Int) - 1) = ((j + 1 : Nat) : Int) := by rw [IntWalk.i64_in _ (by omega)]; omega
        have e2 : IntKind.i64.wrap (((j + 2 : Nat) : Int) - 2) = (j : Int) := by rw [IntWalk.i64_in _ (by omega)]; omega
        have e3 : IntKind.i64.wrap (nth xs (j + 2) - nth xs (j + 1)) = nth xs (j + 2) - nth xs (j + 1) := IntWalk.i64_in _ (by omega)
        have e4 : IntKind.i64.wrap (nth xs (j + 1) - nth xs j) = nth xs (j + 1) - nth xs j := IntWalk.i64_in _ (by omega)
        have i1 : (0 : Int) ≤ ((j + 2 : Nat) : Int) := by omega
        have i2 : ((j + 2 : Nat) : Int) < (n : Int) := by omega
        have i3 : (0 : Int) ≤ ((j + 1 : Nat) : Int) := by omega
        have i4 : ((j + 1 : Nat) : Int) < (n : Int) := by omega
        have i5 : (0 : Int) ≤ (j : Int) := by omega
        have i6 : (j : Int) < (n : Int) := by omega
        rcases HE with HE | HE
        · have hn : ¬ (nth xs (j + 1) - nth xs j < nth xs (j + 2) - nth xs (j + 1)) := by have := HE.out; omega
          go_wp2
          go_quiet (fail)
          clear e1 e2 e3 e4
          go_wp2
          go_roundw
          case rel =>
            refine ⟨j + 2 + 1, by omega, by omega, by go_num, Lib.hid (fun i hi h1 => ?_), hf.drew' _⟩
            by_cases e : i = j + 2
            · subst e; exact HE.out
            · exact hs.out i (by omega) h1
          case measure => simp [intOf]; omega
        · have hn : nth xs (j + 1) - nth xs j < nth xs (j + 2) - nth xs (j + 1) := HE.out
          go_wp2
          go_quiet (fail)
          clear e1 e2 e3 e4
          go_wp2
          go_ret2
          refine ⟨?_, hf.drew' _⟩
          have : conB xs = false := by
            rw [conB, decide_eq_false_iff_not]; intro q
            have := q (j + 2) (by rw [Hl.out]; omega) (by omega)
            have h2 := HE.out
            rw [show j + 2 - 1 = j + 1 from rfl, show j + 2 - 2 = j from rfl] at this
            omega
          rw [this]; rfl
      · go_wp2
        go_ret2
        refine ⟨?_, hf⟩
        have : conB xs = true := by
          rw [conB, decide_eq_true_eq]; intro i h1 h2
          exact hs.out i (by rw [Hl.out] at h1; omega) h2
        rw [this]; rfl

theorem spec_IsConcave_any (w : World) (a : Option Addr) (n cap : Nat) (xs : List Int) (h : SL w a n cap xs) :
    Calls Try.prog 19 #[.slice a n cap] w fun e w' => e = .returned (.tuple #[.bool (useB xs && conB xs), .bool (useB xs)]) ∧ Fr w w' := by
  have H := h
  have Hl := Lib.hid h.len; have hm : n ≤ 9223372036854775807 := by have := h.le; have := h.mx; omega
  cases hu : useB xs with
  | false =>
    have HU := Lib.hid hu
    go_enter Try.func19, Try.ntmps19
    go_wp2_with (go_at_call 55; refine (l11Use_any _ _ _ _ _ h).mono ?_; rintro e w' ⟨rfl, rfl⟩)
    go_ret2
    exact ⟨rfl, Fr.refl _⟩
  | true =>
    have HU := Lib.hid hu
    go_enter Try.func19, Try.ntmps19
    go_wp2_with (go_at_call 55; refine (l11Use_any _ _ _ _ _ h).mono ?_; rintro e w' ⟨rfl, rfl⟩)
    clear h hu
    go_loopw [4] (fun i wr => ∃ k : Nat, 2 ≤ k ∧ k ≤ n + 2 ∧ i = .int .i64 k ∧ Hid (∀ i, i < k → 2 ≤ i → nth xs i - nth xs (i - 1) ≤ nth xs (i - 1) - nth xs (i - 2)) ∧ Fr w wr) (fun i _ => n + 2 - (intOf i).toNat)
    case atStart => exact ⟨2, by omega, by omega, rfl, Lib.hid (fun i h1 h2 => by omega), Fr.refl _⟩
    case round =>
      obtain ⟨k, hk1, hk, rfl, hs, hf⟩ := hrel
      by_cases hlt : k < n
      · obtain ⟨b, off, rfl, hc0⟩ := (H.fr hf).cells.resolve_left (by omega)
        obtain ⟨j, rfl⟩ : ∃ j, k = j + 2 := ⟨k - 2, by omega⟩
        have hc1 := hc0 (j + 2) hlt
        have hc2 := hc0 (j + 1) (by omega)
        have hc3 := hc0 j (by omega)
        clear hc0
        have b1 := useB_nth HU.out (j + 2)
        have b2 := useB_nth HU.out (j + 1)
        have b3 := useB_nth HU.out j
        have HE : Hid (nth xs (j + 2) - nth xs (j + 1) ≤ nth xs (j + 1) - nth xs j) ∨ Hid (nth xs (j + 1) - nth xs j < nth xs (j + 2) - nth xs (j + 1)) := by unfold Hid; omega
        have g1 : decide (nth xs (j + 1) - nth xs j < nth xs (j + 2) - nth xs (j + 1)) = decide (nth xs (j + 1) - nth xs j < nth xs (j + 2) - nth xs (j + 1)) := rfl
        clear g1
        have e1 : IntKind.i64.wrap (((j + 2 : Nat) : Int) - 1) = ((j + 1 : Nat) : Int) := by rw [IntWalk.i64_in _ (by omega)]; omega
        have e2 : IntKind.i64.wrap (((j + 2 : Nat) : Int) - 2) = (j : Int) := by rw [IntWalk.i64_in _ (by omega)]; omega
        have e3 : IntKind.i64.wrap (nth xs (j + 2) - nth xs (j + 1)) = nth xs (j + 2) - nth xs (j + 1) := IntWalk.i64_in _ (by omega)
        have e4 : IntKind.i64.wrap (nth xs (j + 1) - nth xs j) = nth xs (j + 1) - nth xs j := IntWalk.i64_in _ (by omega)
        have i1 : (0 : Int) ≤ ((j + 2 : Nat) : Int) := by omega
        have i2 : ((j + 2 : Nat) : Int) < (n : Int) := by omega
        have i3 : (0 : Int) ≤ ((j + 1 : Nat) : Int) := by omega
        have i4 : ((j + 1 : Nat) : Int) < (n : Int) := by omega
        have i5 : (0 : Int) ≤ (j : Int) := by omega
        have i6 : (j : Int) < (n : Int) := by omega
        rcases HE with HE | HE
        · have hn : ¬ (nth xs (j + 1) - nth xs j < nth xs (j + 2) - nth xs (j + 1)) := by have := HE.out; omega
          go_wp2
          go_quiet (fail)
          clear e1 e2 e3 e4
          go_wp2
          go_roundw
          case rel =>
            refine ⟨j + 2 + 1, by omega, by omega, by go_num, Lib.hid (fun i hi h1 => ?_), hf.drew' _⟩
            by_cases e : i = j + 2
            · subst e; exact HE.out
            · exact hs.out i (by omega) h1
          case measure => simp [intOf]; omega
        · have hn : nth xs (j + 1) - nth xs j < nth xs (j + 2) - nth xs (j + 1) := HE.out
          go_wp2
          go_quiet (fail)
          clear e1 e2 e3 e4
          go_wp2
          go_ret2
          refine ⟨?_, hf.drew' _⟩
          have : conB xs = false := by
            rw [conB, decide_eq_false_iff_not]; intro q
            have := q (j + 2) (by rw [Hl.out]; omega) (by omega)
            have h2 := HE.out
            rw [show j + 2 - 1 = j + 1 from rfl, show j + 2 - 2 = j from rfl] at this
            omega
          rw [this]; rfl
      · go_wp2
        go_ret2
        refine ⟨?_, hf⟩
        have : conB xs = true := by
          rw [conB, decide_eq_true_eq]; intro i h1 h2
          exact hs.out i (by rw [Hl.out] at h1; omega) h2
        rw [this]; rfl

end Go.Proofs.Ytfdidelonilnmaa
