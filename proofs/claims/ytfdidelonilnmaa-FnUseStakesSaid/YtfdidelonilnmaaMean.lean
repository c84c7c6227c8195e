import Derived.Test.YtfdidelonilnmaaUse
import Derived.Test.YtfdidelonilnmaaSpread
/- Contracts of chapter 11's mean uses and sure coins. -/
set_option linter.unusedVariables false
namespace Go.Proofs.Ytfdidelonilnmaa
open Go.ChangeShapes Go.WideShapes Go.ChangeAt Go.RowKit

/-- The sum of the first k products. -/
def muTo (p u : List Int) : Nat → Int
  | 0 => 0
  | k + 1 => muTo p u k + nth p k * nth u k
def bothB (p u : List Int) : Bool := spreadB p && useB u && (p.length == u.length)
theorem spreadB_iffM {xs : List Int} : spreadB xs = true ↔ 1 ≤ xs.length ∧ xs.length ≤ 8 ∧ (∀ x ∈ xs, 0 ≤ x ∧ x ≤ 40) ∧ 1 ≤ wsum xs ∧ wsum xs ≤ 40 := by
  simp only [spreadB, Bool.and_eq_true, inB_iff, allB_iff]
  exact ⟨fun ⟨⟨⟨h1, h2⟩, h3⟩, h4, h5⟩ => ⟨by omega, by omega, h3, h4, h5⟩, fun ⟨h1, h2, h3, h4, h5⟩ => ⟨⟨⟨by omega, by omega⟩, h3⟩, h4, h5⟩⟩
theorem spreadB_nth {xs : List Int} (h : spreadB xs = true) (i : Nat) : 0 ≤ nth xs i ∧ nth xs i ≤ 40 := by
  by_cases hi : i < xs.length
  · exact (spreadB_iffM.1 h).2.2.1 _ (nth_mem hi)
  · rw [nth_out (by omega)]; omega
theorem mu_prod {p u : List Int} (hp : spreadB p = true) (hu : useB u = true) (k : Nat) : 0 ≤ nth p k * nth u k ∧ nth p k * nth u k ≤ 39960 := by
  have h1 := spreadB_nth hp k
  have h2 := useB_nth hu k
  exact ⟨Int.mul_nonneg h1.1 h2.1, by have := Int.mul_le_mul h1.2 h2.2 h2.1 (by omega : (0 : Int) ≤ 40); omega⟩
theorem muTo_bd {p u : List Int} (hp : spreadB p = true) (hu : useB u = true) (k : Nat) : 0 ≤ muTo p u k ∧ muTo p u k ≤ 39960 * k := by
  induction k with
  | zero => simp [muTo]
  | succ k ih => have := mu_prod hp hu k; simp only [muTo]; omega

theorem meanUse_any (w : World) (a b : Option Addr) (n c m d : Nat) (p u : List Int) (h : SL w a n c p) (k : SL w b m d u) (hp : spreadB p = true) (hu : useB u = true) (hnm : n = m) :
    Calls Try.prog 65 #[.slice a n c, .slice b m d] w fun e w' => e = .returned (.int .i64 (muTo p u n)) ∧ w = w' := by
  subst hnm
  have hn : n ≤ 8 := by have := (spreadB_iffM.1 hp).2.1; have := h.len; omega
  have HP := Lib.hid hp; have HU := Lib.hid hu
  clear hp hu
  go_enter Try.func65, Try.ntmps65
  go_wp2
  go_loop [5, 10] (fun s i => ∃ j : Nat, j ≤ n ∧ i = .int .i64 j ∧ s = .int .i64 (muTo p u j)) (fun _ i => n - (intOf i).toNat)
  case atStart => exact ⟨0, Nat.zero_le _, rfl, rfl⟩
  case round =>
    obtain ⟨j, hj, rfl, rfl⟩ := hrel
    by_cases hlt : j < n
    · obtain ⟨b1, o1, rfl, hc1⟩ := h.cells.resolve_left (by omega)
      obtain ⟨b2, o2, rfl, hc2⟩ := k.cells.resolve_left (by omega)
      have hd1 := hc1 j hlt
      have hd2 := hc2 j hlt
      clear hc1 hc2
      have e1 := mu_prod HP.out HU.out j
      have e2 := muTo_bd HP.out HU.out j
      go_wp2
      go_round
      case rel => exact ⟨j + 1, by omega, by go_num, rfl⟩
      case measure => simp [intOf]; omega
    · go_wp2
      go_ret
      exact ⟨ret_int (by rw [show j = n by omega]), rfl⟩

theorem l11MeanUse_any (w : World) (a b : Option Addr) (n c m d : Nat) (p u : List Int) (h : SL w a n c p) (k : SL w b m d u) (hp : spreadB p = true) (hu : useB u = true) (hnm : n = m) :
    Calls Try.prog 63 #[.slice a n c, .slice b m d] w fun e w' => e = .returned (.int .i64 (muTo p u n)) ∧ Qt w w' := by
  subst hnm
  have hn : n ≤ 8 := by have := (spreadB_iffM.1 hp).2.1; have := h.len; omega
  have HP := Lib.hid hp; have HU := Lib.hid hu
  clear hp hu
  go_enter Try.func63, Try.ntmps63
  go_wp2
  go_loopw [5, 6] (fun s i wr => ∃ j : Nat, j ≤ n ∧ i = .int .i64 j ∧ s = .int .i64 (muTo p u j) ∧ Qt w wr) (fun _ i _ => n - (intOf i).toNat)
  case atStart => exact ⟨0, Nat.zero_le _, rfl, rfl, Qt.refl _⟩
  case round =>
    obtain ⟨j, hj, rfl, rfl, hq⟩ := hrel
    by_cases hlt : j < n
    · obtain ⟨b1, o1, rfl, hc1⟩ := (h.qt hq).cells.resolve_left (by omega)
      obtain ⟨b2, o2, rfl, hc2⟩ := (k.qt hq).cells.resolve_left (by omega)
      have hd1 := hc1 j hlt
      have hd2 := hc2 j hlt
      clear hc1 hc2
      have e1 := mu_prod HP.out HU.out j
      have e2 := muTo_bd HP.out HU.out j
      have i1 : (0 : Int) ≤ (j : Int) := by omega
      have i2 : (j : Int) < (n : Int) := by omega
      have e3 : IntKind.i64.wrap (nth p j * nth u j) = nth p j * nth u j := IntWalk.i64_in _ (by omega)
      have e4 : IntKind.i64.wrap (muTo p u j + nth p j * nth u j) = muTo p u j + nth p j * nth u j := IntWalk.i64_in _ (by omega)
      go_wp2
      go_quiet (fail)
      clear e3 e4
      go_wp2
      go_roundw
      case rel => exact ⟨j + 1, by omega, by go_num, rfl, hq.drewN _⟩
      case measure => simp [intOf]; omega
    · go_wp2
      go_ret
      exact ⟨ret_int (by rw [show j = n by omega]), hq⟩

theorem l11Both_any (w : World) (a b : Option Addr) (n c m d : Nat) (p u : List Int) (h : SL w a n c p) (k : SL w b m d u) :
    Calls Try.prog 62 #[.slice a n c, .slice b m d] w fun e w' => e = .returned (.bool (bothB p u)) ∧ w = w' := by
  have Hl := Lib.hid h.len
  have Hk := Lib.hid k.len
  cases h1 : spreadB p <;> cases h2 : useB u
  all_goals
    have H1 := Lib.hid h1
    have H2 := Lib.hid h2
    go_enter Try.func62, Try.ntmps62
    go_wp2_with (first
      | (go_at_call 92; refine (l10Spread_any _ _ _ _ _ h).mono ?_; rintro e w' ⟨rfl, rfl⟩)
      | (go_at_call 55; refine (l11Use_any _ _ _ _ _ k).mono ?_; rintro e w' ⟨rfl, rfl⟩))
    go_ret
    exact ⟨ret_bool (by rw [bothB, Hl.out, Hk.out, H1.out, H2.out, ← beq_nat]; rfl), rfl⟩

def meanV (p u : List Int) : Int := bif bothB p u then muTo p u p.length else 0
theorem bothB_iff {p u : List Int} : bothB p u = true ↔ spreadB p = true ∧ useB u = true ∧ p.length = u.length := by simp [bothB, and_assoc]

theorem spec_MeanUse_any (w : World) (a : Option Addr) (n c : Nat) (p : List Int) (b : Option Addr) (m d : Nat) (u : List Int) (h : SL w a n c p) (k : SL w b m d u) :
    Calls Try.prog 27 #[.slice a n c, .slice b m d] w fun e w' => e = .returned (.tuple #[.int .i64 (meanV p u), .bool (bothB p u)]) ∧ Fr w w' := by
  have Hl := Lib.hid h.len
  have Hk := Lib.hid k.len
  cases h1 : bothB p u
  · have H1 := Lib.hid h1
    go_enter Try.func27, Try.ntmps27
    go_wp2_with (go_at_call 62; refine (l11Both_any _ _ _ _ _ _ _ _ _ h k).mono ?_; rintro e w' ⟨rfl, rfl⟩)
    go_ret2
    exact ⟨by simp [meanV, H1.out], Fr.refl _⟩
  · have H1 := Lib.hid h1
    obtain ⟨g1, g2, g3⟩ := bothB_iff.1 h1
    have G1 := Lib.hid g1; have G2 := Lib.hid g2; have G3 := Lib.hid g3
    clear g1 g2 g3
    go_enter Try.func27, Try.ntmps27
    go_wp2_with (go_at_call 62; refine (l11Both_any _ _ _ _ _ _ _ _ _ h k).mono ?_; rintro e w' ⟨rfl, rfl⟩)
    refine (l11MeanUse_any _ _ _ _ _ _ _ _ _ h k G1.out G2.out (by rw [← Hl.out, ← Hk.out, G3.out])).mono ?_
    rintro e w1 ⟨rfl, q1⟩
    go_wp2
    go_ret2
    exact ⟨by simp [meanV, H1.out, Hl.out], q1.fr⟩

theorem impl_MeanUse_any (w : World) (a : Option Addr) (n c : Nat) (p : List Int) (b : Option Addr) (m d : Nat) (u : List Int) (h : SL w a n c p) (k : SL w b m d u) :
    Calls Try.prog 28 #[.slice a n c, .slice b m d] w fun e w' => e = .returned (.tuple #[.int .i64 (meanV p u), .bool (bothB p u)]) ∧ Fr w w' := by
  have Hl := Lib.hid h.len
  have Hk := Lib.hid k.len
  cases h2 : spreadB p <;> cases h3 : useB u <;> cases h4 : ((n : Int) != (m : Int))
  all_goals
    have H2 := Lib.hid h2
    have H3 := Lib.hid h3
    have H4 := Lib.hid h4
    have HB := Lib.hid (show bothB p u = _ from by rw [bothB, Hl.out, Hk.out, h2, h3, beq_bne, h4])
    go_enter Try.func28, Try.ntmps28
    go_wp2_with (first
      | (go_at_call 64; refine (impl_IsSpread_any _ _ _ _ _ h).mono ?_; rintro e w' ⟨rfl, rfl⟩)
      | (go_at_call 17; refine (impl_IsUse_any _ _ _ _ _ k).mono ?_; rintro e w' ⟨rfl, rfl⟩)
      | (go_at_call 65; refine (meanUse_any _ _ _ _ _ _ _ _ _ h k H2.out H3.out (eq_of_bne H4.out)).mono ?_; rintro e w1 ⟨rfl, rfl⟩))
    go_ret2
    exact ⟨by rw [meanV, HB.out, Hl.out]; rfl, Fr.refl _⟩

/-- A number of coins whose use is enough. -/
def sureOk (p u : List Int) (i : Nat) : Bool := decide (muTo p u p.length ≤ nth u i * wsum p)
def sureI (p u : List Int) : Nat := leastI (sureOk p u) u.length
def sureV (p u : List Int) : Int := bif bothB p u then (sureI p u : Nat) else 0

theorem top_of (u : List Int) (n : Nat) (hn : 0 < n) : ∃ i, i < n ∧ ∀ j, j < n → nth u j ≤ nth u i := by
  induction n with
  | zero => omega
  | succ n ih =>
    by_cases h0 : n = 0
    · subst h0; exact ⟨0, by omega, fun j hj => by rw [show j = 0 by omega]; omega⟩
    · obtain ⟨i, hi, h⟩ := ih (by omega)
      by_cases hc : nth u i ≤ nth u n
      · refine ⟨n, by omega, fun j hj => ?_⟩
        by_cases e : j = n
        · subst e; omega
        · have := h j (by omega); omega
      · refine ⟨i, by omega, fun j hj => ?_⟩
        by_cases e : j = n
        · subst e; omega
        · exact h j (by omega)

theorem mu_top {p u : List Int} (hp : spreadB p = true) (M : Int) (k : Nat) (h : ∀ j, j < k → nth u j ≤ M) : muTo p u k ≤ M * sumTo p k := by
  induction k with
  | zero => simp [muTo, sumTo]
  | succ k ih =>
    have h1 := ih fun j hj => h j (by omega)
    have h2 := Int.mul_le_mul_of_nonneg_left (h k (by omega)) (spreadB_nth hp k).1
    simp only [muTo, sumTo, Int.mul_add]
    rw [Int.mul_comm M (nth p k)]
    omega

theorem spread_sum {p : List Int} (hp : spreadB p = true) : wsum p = sumTo p p.length := by
  obtain ⟨h1, h2, h3, _⟩ := spreadB_iffM.1 hp
  exact wsum_eq (M := 40) (by omega) h3 (by omega)

theorem sure_ex {p u : List Int} (h : bothB p u = true) : ∃ i, i < u.length ∧ sureOk p u i = true ∧ ∀ j, j < i → sureOk p u j = false := by
  obtain ⟨hp, hu, hl⟩ := bothB_iff.1 h
  obtain ⟨i, hi, hm⟩ := top_of u u.length (by have := (useB_iff.1 hu).1; omega)
  have hs : sureOk p u i = true := by
    rw [sureOk, decide_eq_true_eq, spread_sum hp, hl]
    exact mu_top hp (nth u i) u.length hm
  have : ∀ n, n < u.length → sureOk p u n = true → ∃ i, i < u.length ∧ sureOk p u i = true ∧ ∀ j, j < i → sureOk p u j = false := by
    intro n
    induction n using Nat.strongRecOn with
    | ind n ih =>
      intro h1 h2
      by_cases hx : ∃ j, j < n ∧ sureOk p u j = true
      · obtain ⟨j, hj, hk⟩ := hx; exact ih j hj (by omega) hk
      · exact ⟨n, h1, h2, fun j hj => by rw [Bool.eq_false_iff]; intro hc; exact hx ⟨j, hj, hc⟩⟩
  exact this i hi hs

theorem sure_prod {p u : List Int} (hp : spreadB p = true) (hu : useB u = true) (k : Nat) : 0 ≤ nth u k * wsum p ∧ nth u k * wsum p ≤ 39960 := by
  have h1 := (spreadB_iffM.1 hp).2.2.2
  have h2 := useB_nth hu k
  exact ⟨Int.mul_nonneg h2.1 (by omega), by have := Int.mul_le_mul h2.2 h1.2 (by omega) (by omega : (0 : Int) ≤ 999); omega⟩

theorem impl_SureCoins_any (w : World) (a : Option Addr) (n c : Nat) (p : List Int) (b : Option Addr) (m d : Nat) (u : List Int) (h : SL w a n c p) (k : SL w b m d u) :
    Calls Try.prog 30 #[.slice a n c, .slice b m d] w fun e w' => e = .returned (.tuple #[.int .i64 (sureV p u), .bool (bothB p u)]) ∧ Fr w w' := by
  have Hl := Lib.hid h.len
  have Hk := Lib.hid k.len
  cases h2 : spreadB p <;> cases h3 : useB u <;> cases h4 : ((n : Int) != (m : Int))
  all_goals
    have H2 := Lib.hid h2
    have H3 := Lib.hid h3
    have H4 := Lib.hid h4
    have HB := Lib.hid (show bothB p u = _ from by rw [bothB, Hl.out, Hk.out, h2, h3, beq_bne, h4])
    go_enter Try.func30, Try.ntmps30
    go_wp2_with (first
      | (go_at_call 64; refine (impl_IsSpread_any _ _ _ _ _ h).mono ?_; rintro e w' ⟨rfl, rfl⟩)
      | (go_at_call 17; refine (impl_IsUse_any _ _ _ _ _ k).mono ?_; rintro e w' ⟨rfl, rfl⟩))
    try (go_ret2; exact ⟨by rw [sureV, HB.out]; rfl, Fr.refl _⟩)
  clear h2 h3 h4
  have HN : Hid (n = m) := Lib.hid (eq_of_bne H4.out)
  obtain ⟨i, hi, hs, hls⟩ := sure_ex (p := p) (u := u) (by rw [HB.out]; rfl)
  have HS := Lib.hid hs; have HLS := Lib.hid hls
  rw [Hk.out] at hi
  clear hs hls
  have hm8 : m ≤ 9223372036854775807 := by have := k.le; have := k.mx; omega
  go_loop [25] (fun q => ∃ j : Nat, j ≤ i ∧ q = .int .i64 j) (fun q => m - (intOf q).toNat)
  case atStart => exact ⟨0, Nat.zero_le _, rfl⟩
  case round =>
    obtain ⟨j, hj, rfl⟩ := hrel
    obtain ⟨b2, o2, rfl, hc2⟩ := k.cells.resolve_left (by omega)
    have hd2 := hc2 j (by omega)
    clear hc2
    have e1 := sure_prod H2.out H3.out j
    have hjm : j < m := by omega
    by_cases he : j = i
    · subst he
      have ht : muTo p u n ≤ nth u j * wsum p := by have := HS.out; rw [sureOk, decide_eq_true_eq, Hl.out] at this; exact this
      go_wp2_with (first
        | (go_at_call 67; refine (total_any _ _ _ _ _ h).mono ?_; rintro e w' ⟨rfl, rfl⟩)
        | (go_at_call 65; refine (meanUse_any _ _ _ _ _ _ _ _ _ h k H2.out H3.out HN.out).mono ?_; rintro e w1 ⟨rfl, rfl⟩))
      go_ret2
      exact ⟨by rw [sureV, HB.out, sureI, leastI_eq (by rw [Hk.out]; exact hjm) HS.out HLS.out]; rfl, Fr.refl _⟩
    · have ht : nth u j * wsum p < muTo p u n := by have := HLS.out j (by omega); rw [sureOk, decide_eq_false_iff_not, Hl.out] at this; omega
      go_wp2_with (first
        | (go_at_call 67; refine (total_any _ _ _ _ _ h).mono ?_; rintro e w' ⟨rfl, rfl⟩)
        | (go_at_call 65; refine (meanUse_any _ _ _ _ _ _ _ _ _ h k H2.out H3.out HN.out).mono ?_; rintro e w1 ⟨rfl, rfl⟩))
      go_round
      case rel => exact ⟨j + 1, by omega, by go_num⟩
      case measure => simp [intOf]; omega

theorem spec_SureCoins_any (w : World) (a : Option Addr) (n c : Nat) (p : List Int) (b : Option Addr) (m d : Nat) (u : List Int) (h : SL w a n c p) (k : SL w b m d u) :
    Calls Try.prog 29 #[.slice a n c, .slice b m d] w fun e w' => e = .returned (.tuple #[.int .i64 (sureV p u), .bool (bothB p u)]) ∧ Fr w w' := by
  have Hl := Lib.hid h.len
  have Hk := Lib.hid k.len
  cases h1 : bothB p u
  · have H1 := Lib.hid h1
    go_enter Try.func29, Try.ntmps29
    go_wp2_with (go_at_call 62; refine (l11Both_any _ _ _ _ _ _ _ _ _ h k).mono ?_; rintro e w' ⟨rfl, rfl⟩)
    go_ret2
    exact ⟨by simp [sureV, H1.out], Fr.refl _⟩
  · have H1 := Lib.hid h1
    obtain ⟨g1, g2, g3⟩ := bothB_iff.1 h1
    have G1 := Lib.hid g1; have G2 := Lib.hid g2; have G3 := Lib.hid g3
    obtain ⟨i, hi, hs, hls⟩ := sure_ex h1
    have HS := Lib.hid hs; have HLS := Lib.hid hls
    rw [Hk.out] at hi
    have HN : Hid (n = m) := Lib.hid (by rw [← Hl.out, ← Hk.out, g3])
    clear g1 g2 g3 hs hls
    have hm8 : m ≤ 9223372036854775807 := by have := k.le; have := k.mx; omega
    go_enter Try.func29, Try.ntmps29
    go_wp2_with (go_at_call 62; refine (l11Both_any _ _ _ _ _ _ _ _ _ h k).mono ?_; rintro e w' ⟨rfl, rfl⟩)
    clear h1
    go_loopw [6] (fun q wr => ∃ j : Nat, j ≤ i ∧ q = .int .i64 j ∧ Qt w wr) (fun q _ => m - (intOf q).toNat)
    case atStart => exact ⟨0, Nat.zero_le _, rfl, Qt.refl _⟩
    case round =>
      obtain ⟨j, hj, rfl, hq⟩ := hrel
      obtain ⟨b2, o2, rfl, hc2⟩ := (k.qt hq).cells.resolve_left (by omega)
      have hd2 := hc2 j (by omega)
      clear hc2
      have e1 := sure_prod G1.out G2.out j
      have hjm : j < m := by omega
      have i1 : (0 : Int) ≤ (j : Int) := by omega
      have i2 : (j : Int) < (m : Int) := by omega
      have e3 : IntKind.i64.wrap (nth u j * wsum p) = nth u j * wsum p := IntWalk.i64_in _ (by omega)
      by_cases he : j = i
      · subst he
        have ht : ¬ nth u j * wsum p < muTo p u n := by have := HS.out; rw [sureOk, decide_eq_true_eq, Hl.out] at this; omega
        go_wp2
        go_quiet ((first
          | (go_at_call 66; exact qofe (l10Sum_any _ _ _ _ _ ((h.qt hq).drewN _)))
          | (go_at_call 63; exact qof (l11MeanUse_any _ _ _ _ _ _ _ _ _ ((h.qt hq).drewN _) ((k.qt hq).drewN _) G1.out G2.out HN.out))))
        clear e3
        go_wp2
        go_ret2
        exact ⟨by rw [sureV, H1.out, sureI, leastI_eq (by rw [Hk.out]; exact hjm) HS.out HLS.out]; rfl, (hq.drewN _).fr⟩
      · have ht : nth u j * wsum p < muTo p u n := by have := HLS.out j (by omega); rw [sureOk, decide_eq_false_iff_not, Hl.out] at this; omega
        go_wp2
        go_quiet ((first
          | (go_at_call 66; exact qofe (l10Sum_any _ _ _ _ _ ((h.qt hq).drewN _)))
          | (go_at_call 63; exact qof (l11MeanUse_any _ _ _ _ _ _ _ _ _ ((h.qt hq).drewN _) ((k.qt hq).drewN _) G1.out G2.out HN.out))))
        clear e3
        go_wp2
        go_roundw
        case rel => exact ⟨j + 1, by omega, by go_num, hq.drewN _⟩
        case measure => simp [intOf]; omega

end Go.Proofs.Ytfdidelonilnmaa
