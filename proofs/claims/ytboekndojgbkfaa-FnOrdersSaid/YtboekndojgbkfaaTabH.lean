import Derived.Test.YtboekndojgbkfaaTabLaw
import Derived.Test.YtboekndojgbkfaaLawH
/- The laws' comparison of tables. -/
set_option linter.unusedVariables false
namespace Go.Proofs.Ytboekndojgbkfaa
open Go.ChangeShapes Go.WideShapes Go.ChangeAt Go.RowKit
theorem rTable_qt (w : World) (a b : Option Addr) (n c m d : Nat) (xs ys : List (List Int)) (h : SS w a n c xs) (k : SS w b m d ys) :
    Calls Try.prog 47 #[.slice a n c, .slice b m d] w fun e w' => e = .returned (.bool (decide (xs = ys))) ∧ Qt w w' := by
  have Hx := h; have Hy := k
  have Hxl := Lib.hid h.len; have Hyl := Lib.hid k.len
  have hxm : n ≤ 9223372036854775807 := by have := h.le; have := h.mx; omega
  have hym : m ≤ 9223372036854775807 := by have := k.le; have := k.mx; omega
  clear h k
  by_cases hne : n = m
  · subst hne
    go_enter Try.func47, Try.ntmps47
    go_wp2
    go_loopw [5] (fun i wr => ∃ k : Nat, k ≤ n ∧ i = .int .i64 k ∧ Hid (sameRows xs ys k) ∧ Qt w wr) (fun i _ => n - (intOf i).toNat)
    case atStart => exact ⟨0, Nat.zero_le _, rfl, Lib.hid (fun i hi => by omega), Qt.refl _⟩
    case round =>
      obtain ⟨k, hk, rfl, hs, hf⟩ := hrel
      by_cases hlt : k < n
      · obtain ⟨b1, o1, rfl, hc1⟩ := (Hx.qt hf).rows.resolve_left (by omega)
        obtain ⟨b2, o2, rfl, hc2⟩ := (Hy.qt hf).rows.resolve_left (by omega)
        obtain ⟨p1, m1, c1, hd1, s1⟩ := hc1 k hlt
        obtain ⟨p2, m2, c2, hd2, s2⟩ := hc2 k hlt
        clear hc1 hc2
        have hi1 : (0 : Int) ≤ (k : Int) := by omega
        have hi2 : (k : Int) < (n : Int) := by omega
        by_cases he : nthL xs k = nthL ys k
        rotate_left
        · have HE := Lib.hid he
          have hb : (!decide (nthL xs k = nthL ys k)) = true := by simp [he]
          clear he
          go_wp2
          go_quiet ((go_at_call 56; exact qof (rInts_qt _ _ _ _ _ _ _ _ _ (s1.drewN _) (s2.drewN _))))
          go_wp2
          go_ret
          exact ⟨ret_bool (by symm; rw [decide_eq_false_iff_not]; intro e; exact HE.out (by rw [e])), hf.drewN _⟩
        · have HE := Lib.hid he
          have hb : (!decide (nthL xs k = nthL ys k)) = false := by simp [he]
          clear he
          go_wp2
          go_quiet ((go_at_call 56; exact qof (rInts_qt _ _ _ _ _ _ _ _ _ (s1.drewN _) (s2.drewN _))))
          go_wp2
          go_roundw
          case rel => exact ⟨k + 1, by omega, by go_num, Lib.hid (fun i hi => by by_cases e : i = k; (· subst e; exact HE.out); (· exact hs.out i (by omega))), hf.drewN _⟩
          case measure => simp [intOf]; omega
      · go_wp2
        go_ret
        have : k = n := by omega
        subst this
        exact ⟨ret_bool (by symm; rw [decide_eq_true_eq]; exact sameRows_all (by rw [Hxl.out, Hyl.out]) (by rw [Hxl.out]; exact hs.out)), hf⟩
  · have hb : ((n : Int) != (m : Int)) = true := by simp; omega
    have HN := Lib.hid hne
    clear hne
    go_enter Try.func47, Try.ntmps47
    go_wp2
    go_ret
    exact ⟨ret_bool (by symm; rw [decide_eq_false_iff_not]; intro e; exact HN.out (by rw [← Hxl.out, ← Hyl.out, e])), Qt.refl _⟩

theorem rTable_any (w : World) (a b : Option Addr) (n c m d : Nat) (xs ys : List (List Int)) (h : SS w a n c xs) (k : SS w b m d ys) :
    Calls Try.prog 47 #[.slice a n c, .slice b m d] w fun e w' => e = .returned (.bool (decide (xs = ys))) ∧ Fr w w' := toFrQ (rTable_qt w a b n c m d xs ys h k)

end Go.Proofs.Ytboekndojgbkfaa
