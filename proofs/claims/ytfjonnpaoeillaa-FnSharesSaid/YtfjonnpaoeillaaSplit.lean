import Derived.Test.YtfjonnpaoeillaaShare
/- Contracts of SplitGrowth. -/
set_option linter.unusedVariables false
namespace Go.Proofs.Ytfjonnpaoeillaa
open Go.ChangeShapes Go.WideShapes Go.ChangeAt Go.RowKit

def raceB (xs : List Int) : Bool := inB xs.length 1 4 && allB xs 1 4
theorem raceB_iff {xs : List Int} : raceB xs = true ↔ 1 ≤ xs.length ∧ xs.length ≤ 4 ∧ ∀ x ∈ xs, 1 ≤ x ∧ x ≤ 4 := by
  simp only [raceB, Bool.and_eq_true, inB_iff, allB_iff]
  exact ⟨fun ⟨⟨h1, h2⟩, h3⟩ => ⟨by omega, by omega, h3⟩, fun ⟨h1, h2, h3⟩ => ⟨⟨by omega, by omega⟩, h3⟩⟩

theorem isRace_any (w : World) (a : Option Addr) (n cap : Nat) (xs : List Int) (h : SL w a n cap xs) :
    Calls Try.prog 46 #[.slice a n cap] w fun e w' => e = .returned (.bool (raceB xs)) ∧ w = w' := by
  have Hl := Lib.hid h.len
  cases h1 : inB n 1 4
  all_goals
    have H1 := Lib.hid h1
    go_enter Try.func46, Try.ntmps46
    go_wp2_with (first
      | (go_at_call 39; refine (within_any _ _ _ _).mono ?_; rintro e w' ⟨rfl, rfl⟩)
      | (go_at_call 47; refine (allWithin_any _ _ _ _ _ _ _ h).mono ?_; rintro e w' ⟨rfl, rfl⟩))
    go_ret
    exact ⟨ret_bool (by rw [raceB, Hl.out, H1.out]; rfl), rfl⟩

theorem l11Race_any (w : World) (a : Option Addr) (n cap : Nat) (xs : List Int) (h : SL w a n cap xs) :
    Calls Try.prog 44 #[.slice a n cap] w fun e w' => e = .returned (.bool (raceB xs)) ∧ w = w' := by
  obtain ⟨hlen, hle, hmx, hrng, _, hcells⟩ := h
  have Hlen := Lib.hid hlen; clear hlen
  go_enter Try.func44, Try.ntmps44
  go_wp2
  go_loop [3] (fun i => ∃ k : Nat, k ≤ n ∧ i = .int .i64 k ∧ Hid (allB (xs.take k) 1 4 = true)) (fun i => n - (intOf i).toNat)
  case atStart => exact ⟨0, Nat.zero_le _, rfl, Lib.hid rfl⟩
  case round =>
    obtain ⟨k, hk, rfl, hall⟩ := hrel
    by_cases hlt : k < n
    · obtain ⟨b, off, rfl, hc0⟩ := hcells.resolve_left (by omega)
      have hc := hc0 k hlt
      clear hc0
      have hks := Hlen.out ▸ hlt
      have HS := Lib.hid (allB_snoc xs 1 4 k hks)
      cases hb : inB (nth xs k) 1 4 with
      | true =>
        have HB := Lib.hid hb
        go_wp2_with (go_at_call 37; refine (l1In_any _ _ _ _).mono ?_; rintro e w' ⟨rfl, rfl⟩)
        go_round
        case rel => exact ⟨k + 1, by omega, by go_num, Lib.hid (by rw [HS.out, hall.out, HB.out]; rfl)⟩
        case measure => simp [intOf]; omega
      | false =>
        have HB := Lib.hid hb
        go_wp2_with (go_at_call 37; refine (l1In_any _ _ _ _).mono ?_; rintro e w' ⟨rfl, rfl⟩)
        go_ret
        exact ⟨ret_bool (by rw [raceB, allB_no hks HB.out]; simp), rfl⟩
    · go_wp2_with (go_at_call 37; refine (l1In_any _ _ _ _).mono ?_; rintro e w' ⟨rfl, rfl⟩)
      go_ret
      exact ⟨ret_bool (by rw [raceB, Hlen.out, ← List.take_of_length_le (l := xs) (i := k) (by rw [Hlen.out]; omega), hall.out]; simp), rfl⟩

/-- The growth of a split, as the machine reckons it. -/
def sgW (ws ss : List Int) : Nat → Int
  | 0 => 1
  | k + 1 => wrap64 (sgW ws ss k * powW (nth ss k) (nth ws k).toNat)

theorem splitGrowth_any (w : World) (a b : Option Addr) (n c m d : Nat) (ws ss : List Int) (h : SL w a n c ws) (k : SL w b m d ss) (hnm : n = m) :
    Calls Try.prog 49 #[.slice a n c, .slice b m d] w fun e w' => e = .returned (.int .i64 (sgW ws ss m)) ∧ w = w' := by
  subst hnm
  have hm : n ≤ 9223372036854775807 := by have := k.le; have := k.mx; omega
  go_enter Try.func49, Try.ntmps49
  go_wp2
  go_loop [5, 10] (fun s i => ∃ j : Nat, j ≤ n ∧ i = .int .i64 j ∧ s = .int .i64 (sgW ws ss j)) (fun _ i => n - (intOf i).toNat)
  case atStart => exact ⟨0, Nat.zero_le _, rfl, rfl⟩
  case round =>
    obtain ⟨j, hj, rfl, rfl⟩ := hrel
    by_cases hlt : j < n
    · obtain ⟨b1, o1, rfl, hc1⟩ := h.cells.resolve_left (by omega)
      obtain ⟨b2, o2, rfl, hc2⟩ := k.cells.resolve_left (by omega)
      have hd1 := hc1 j hlt
      have hd2 := hc2 j hlt
      clear hc1 hc2
      have hI : nth ws j ≤ 9223372036854775807 := (h.rngAt j).2
      go_wp2_with (go_at_call 62; refine (power_any _ _ _ hI).mono ?_; rintro e w' ⟨rfl, rfl⟩)
      go_round
      case rel => exact ⟨j + 1, by omega, by go_num, rfl⟩
      case measure => simp [intOf]; omega
    · go_wp2
      go_ret
      exact ⟨ret_int (by rw [show j = n by omega]), rfl⟩

theorem l11SplitGrowth_any (w : World) (a b : Option Addr) (n c m d : Nat) (ws ss : List Int) (h : SL w a n c ws) (k : SL w b m d ss) (hnm : n = m) :
    Calls Try.prog 45 #[.slice a n c, .slice b m d] w fun e w' => e = .returned (.int .i64 (sgW ws ss m)) ∧ Qt w w' := by
  subst hnm
  have hm : n ≤ 9223372036854775807 := by have := k.le; have := k.mx; omega
  go_enter Try.func45, Try.ntmps45
  go_wp2
  go_loopw [5, 6] (fun s i wr => ∃ j : Nat, j ≤ n ∧ i = .int .i64 j ∧ s = .int .i64 (sgW ws ss j) ∧ Qt w wr) (fun _ i _ => n - (intOf i).toNat)
  case atStart => exact ⟨0, Nat.zero_le _, rfl, rfl, Qt.refl _⟩
  case round =>
    obtain ⟨j, hj, rfl, rfl, hq⟩ := hrel
    by_cases hlt : j < n
    · obtain ⟨b1, o1, rfl, hc1⟩ := (h.qt hq).cells.resolve_left (by omega)
      obtain ⟨b2, o2, rfl, hc2⟩ := (k.qt hq).cells.resolve_left (by omega)
      have hd1 := hc1 j hlt
      have hd2 := hc2 j hlt
      clear hc1 hc2
      have hI : nth ws j ≤ 9223372036854775807 := (h.rngAt j).2
      have i1 : (0 : Int) ≤ (j : Int) := by omega
      have i2 : (j : Int) < (n : Int) := by omega
      have e3 : IntKind.i64.wrap (sgW ws ss j * powW (nth ss j) (nth ws j).toNat) = wrap64 (sgW ws ss j * powW (nth ss j) (nth ws j).toNat) := IntWalk.i64_left _
      go_wp2
      go_quiet ((go_at_call 61; exact qofe (l6Power_any _ _ _ hI)))
      clear e3
      go_wp2
      go_roundw
      case rel => exact ⟨j + 1, by omega, by go_num, rfl, hq.drewN _⟩
      case measure => simp [intOf]; omega
    · go_wp2
      go_ret
      exact ⟨ret_int (by rw [show j = n by omega]), hq⟩

def sgOk (ws ss : List Int) : Bool := raceB ws && (ss.length == ws.length) && allB ss 0 12 && decide (wsum ss ≤ 12)
def sgV (ws ss : List Int) : Int := bif sgOk ws ss then sgW ws ss ss.length else 0

theorem impl_SplitGrowth_any (w : World) (a : Option Addr) (n c : Nat) (ws : List Int) (b : Option Addr) (m d : Nat) (ss : List Int) (h : SL w a n c ws) (k : SL w b m d ss) :
    Calls Try.prog 21 #[.slice a n c, .slice b m d] w fun e w' => e = .returned (.tuple #[.int .i64 (sgV ws ss), .bool (sgOk ws ss)]) ∧ Fr w w' := by
  have Hl := Lib.hid h.len
  have Hk := Lib.hid k.len
  cases h1 : raceB ws <;> cases h2 : ((m : Int) != (n : Int)) <;> cases h3 : allB ss 0 12 <;> cases h4 : decide (wsum ss ≤ 12)
  all_goals
    have H1 := Lib.hid h1
    have H2 := Lib.hid h2
    have H3 := Lib.hid h3
    have H4 := Lib.hid h4
    have HB := Lib.hid (show sgOk ws ss = _ from by rw [sgOk, Hl.out, Hk.out, h1, beq_bne, h2, h3, h4])
    clear h4
    have h4 := H4.out
    simp only [decide_eq_true_eq, decide_eq_false_iff_not] at h4
    go_enter Try.func21, Try.ntmps21
    go_wp2_with (first
      | (go_at_call 46; refine (isRace_any _ _ _ _ _ h).mono ?_; rintro e w' ⟨rfl, rfl⟩)
      | (go_at_call 47; refine (allWithin_any _ _ _ _ _ _ _ k).mono ?_; rintro e w' ⟨rfl, rfl⟩)
      | (go_at_call 48; refine (total_any _ _ _ _ _ k).mono ?_; rintro e w' ⟨rfl, rfl⟩)
      | (go_at_call 49; refine (splitGrowth_any _ _ _ _ _ _ _ _ _ h k (eq_of_bne H2.out).symm).mono ?_; rintro e w1 ⟨rfl, rfl⟩))
    go_ret2
    exact ⟨by rw [sgV, HB.out, Hk.out]; rfl, Fr.refl _⟩

theorem spec_SplitGrowth_any (w : World) (a : Option Addr) (n c : Nat) (ws : List Int) (b : Option Addr) (m d : Nat) (ss : List Int) (h : SL w a n c ws) (k : SL w b m d ss) :
    Calls Try.prog 19 #[.slice a n c, .slice b m d] w fun e w' => e = .returned (.tuple #[.int .i64 (sgV ws ss), .bool (sgOk ws ss)]) ∧ Fr w w' := by
  have Hl := Lib.hid h.len
  have Hk := Lib.hid k.len
  have hm9 : m ≤ 9223372036854775807 := by have := k.le; have := k.mx; omega
  cases h1 : raceB ws <;> cases h2 : ((m : Int) != (n : Int))
  all_goals
    have H1 := Lib.hid h1
    have H2 := Lib.hid h2
    have HB := Lib.hid (show sgOk ws ss = _ from by rw [sgOk, Hl.out, Hk.out, h1, beq_bne, h2])
    go_enter Try.func19, Try.ntmps19
    go_wp2_with (go_at_call 44; refine (l11Race_any _ _ _ _ _ h).mono ?_; rintro e w' ⟨rfl, rfl⟩)
    try (go_ret2; exact ⟨by rw [sgV, HB.out]; rfl, Fr.refl _⟩)
  clear h1 h2
  have hnm := eq_of_bne H2.out
  subst hnm
  go_loop [6, 7] (fun s i => ∃ j : Nat, j ≤ m ∧ i = .int .i64 j ∧ s = .int .i64 (wsum (ss.take j)) ∧ Hid (allB (ss.take j) 0 12 = true)) (fun _ i => m - (intOf i).toNat)
  case atStart => exact ⟨0, Nat.zero_le _, rfl, rfl, Lib.hid rfl⟩
  case round =>
    obtain ⟨j, hj, rfl, rfl, hall⟩ := hrel
    by_cases hlt : j < m
    · obtain ⟨b2, o2, rfl, hc2⟩ := k.cells.resolve_left (by omega)
      have hd2 := hc2 j hlt
      clear hc2
      have hks : j < ss.length := by rw [Hk.out]; exact hlt
      have HS := Lib.hid (allB_snoc ss 0 12 j hks)
      have HW := Lib.hid (wsum_snoc ss j hks)
      cases hb : inB (nth ss j) 0 12 with
      | true =>
        have HBB := Lib.hid hb
        go_wp2_with (go_at_call 37; refine (l1In_any _ _ _ _).mono ?_; rintro e w' ⟨rfl, rfl⟩)
        go_round
        case rel => exact ⟨j + 1, by omega, by go_num, by rw [HW.out], Lib.hid (by rw [HS.out, hall.out, HBB.out]; rfl)⟩
        case measure => simp [intOf]; omega
      | false =>
        have HBB := Lib.hid hb
        have HA := Lib.hid (allB_no hks hb)
        go_wp2_with (go_at_call 37; refine (l1In_any _ _ _ _).mono ?_; rintro e w' ⟨rfl, rfl⟩)
        go_ret2
        exact ⟨by rw [sgV, HB.out, HA.out]; simp, Fr.refl _⟩
    · have hjm : j = m := by omega
      subst hjm
      have ht : ss.take j = ss := List.take_of_length_le (by rw [Hk.out]; omega)
      rw [ht]
      rw [ht] at hall
      clear ht
      by_cases h4 : wsum ss ≤ 12
      · have H4 := Lib.hid h4
        go_wp2_with (go_at_call 45; refine (l11SplitGrowth_any _ _ _ _ _ _ _ _ _ h k rfl).mono ?_; rintro e w1 ⟨rfl, q1⟩)
        go_ret2
        exact ⟨by rw [sgV, HB.out, hall.out, Hk.out, decide_eq_true (show wsum ss ≤ 12 by have := H4.out; omega)]; simp, q1.fr⟩
      · have H4 := Lib.hid h4
        go_wp2
        go_ret2
        exact ⟨by rw [sgV, HB.out, hall.out, decide_eq_false (show ¬ wsum ss ≤ 12 by have := H4.out; omega)]; simp, Fr.refl _⟩

end Go.Proofs.Ytfjonnpaoeillaa
