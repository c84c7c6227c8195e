import Derived.Test.YtboekndojgbkfaaLists
/- The laws' own helpers: sums and comparisons of lists. -/
set_option linter.unusedVariables false
namespace Go.Proofs.Ytboekndojgbkfaa
open Go.ChangeShapes Go.WideShapes Go.ChangeAt Go.RowKit
theorem rSum_any (w : World) (a : Option Addr) (n cap : Nat) (xs : List Int) (h : SL w a n cap xs) :
    Calls Try.prog 57 #[.slice a n cap] w fun e w' => e = .returned (.int .i64 (wsum xs)) ∧ w = w' := by
  obtain ⟨hlen, hle, hmx, hrng, _, hcells⟩ := h
  have Hlen := Lib.hid hlen; clear hlen
  go_enter Try.func57, Try.ntmps57
  go_wp2
  go_loop [3, 4] (fun s i => ∃ k : Nat, k ≤ n ∧ i = .int .i64 k ∧ s = .int .i64 (wsum (xs.take k))) (fun _ i => n - (intOf i).toNat)
  case atStart => exact ⟨0, Nat.zero_le _, rfl, rfl⟩
  case round =>
    obtain ⟨k, hk, rfl, rfl⟩ := hrel
    by_cases hlt : k < n
    · obtain ⟨b, off, rfl, hc⟩ := hcells.resolve_left (by omega)
      have hc := hc k hlt
      have HS := Lib.hid (wsum_snoc xs k (by rw [Hlen.out]; exact hlt))
      go_wp2
      go_round
      case rel => exact ⟨k + 1, by omega, by go_num, by rw [HS.out]⟩
      case measure => simp [intOf]; omega
    · go_wp2
      go_ret
      exact ⟨ret_int (by rw [List.take_of_length_le (by rw [Hlen.out]; omega)]), rfl⟩

theorem rInts_qt (w : World) (a b : Option Addr) (n c m d : Nat) (xs ys : List Int) (h : SL w a n c xs) (k : SL w b m d ys) :
    Calls Try.prog 56 #[.slice a n c, .slice b m d] w fun e w' => e = .returned (.bool (decide (xs = ys))) ∧ Qt w w' := by
  have Hx := h; have Hy := k
  have Hxl := Lib.hid h.len; have Hyl := Lib.hid k.len
  have hxm : n ≤ 9223372036854775807 := by have := h.le; have := h.mx; omega
  have hym : m ≤ 9223372036854775807 := by have := k.le; have := k.mx; omega
  clear h k
  by_cases hne : n = m
  · subst hne
    go_enter Try.func56, Try.ntmps56
    go_wp2
    go_loopw [5] (fun i wr => ∃ k : Nat, k ≤ n ∧ i = .int .i64 k ∧ Hid (sameTo xs ys k) ∧ Qt w wr) (fun i _ => n - (intOf i).toNat)
    case atStart => exact ⟨0, Nat.zero_le _, rfl, Lib.hid (fun i hi => by omega), Qt.refl _⟩
    case round =>
      obtain ⟨k, hk, rfl, hs, hf⟩ := hrel
      by_cases hlt : k < n
      · obtain ⟨b1, o1, rfl, hc1⟩ := (Hx.qt hf).cells.resolve_left (by omega)
        obtain ⟨b2, o2, rfl, hc2⟩ := (Hy.qt hf).cells.resolve_left (by omega)
        have hc1 := hc1 k hlt
        have hc2 := hc2 k hlt
        have hi1 : (0 : Int) ≤ (k : Int) := by omega
        have hi2 : (k : Int) < (n : Int) := by omega
        by_cases he : nth xs k = nth ys k
        · have HE := Lib.hid he
          have hb : (nth xs k != nth ys k) = false := by simp [he]
          clear he
          go_wp2
          go_quiet (fail)
          go_wp2
          go_roundw
          case rel => exact ⟨k + 1, by omega, by go_num, Lib.hid (fun i hi => by by_cases e : i = k; (· subst e; exact HE.out); (· exact hs.out i (by omega))), hf.drewN _⟩
          case measure => simp [intOf]; omega
        · have HE := Lib.hid he
          have hb : (nth xs k != nth ys k) = true := by simp [he]
          clear he
          go_wp2
          go_quiet (fail)
          go_wp2
          go_ret
          exact ⟨ret_bool (by symm; rw [decide_eq_false_iff_not]; intro e; exact HE.out (by rw [e])), hf.drewN _⟩
      · go_wp2
        go_ret
        have : k = n := by omega
        subst this
        exact ⟨ret_bool (by symm; rw [decide_eq_true_eq]; exact sameTo_all (by rw [Hxl.out, Hyl.out]) (by rw [Hxl.out]; exact hs.out)), hf⟩
  · have hb : ((n : Int) != (m : Int)) = true := by simp; omega
    have HN := Lib.hid hne
    clear hne
    go_enter Try.func56, Try.ntmps56
    go_wp2
    go_ret
    exact ⟨ret_bool (by symm; rw [decide_eq_false_iff_not]; intro e; exact HN.out (by rw [← Hxl.out, ← Hyl.out, e])), Qt.refl _⟩

theorem rInts_any (w : World) (a b : Option Addr) (n c m d : Nat) (xs ys : List Int) (h : SL w a n c xs) (k : SL w b m d ys) :
    Calls Try.prog 56 #[.slice a n c, .slice b m d] w fun e w' => e = .returned (.bool (decide (xs = ys))) ∧ Fr w w' := toFrQ (rInts_qt w a b n c m d xs ys h k)

end Go.Proofs.Ytboekndojgbkfaa
