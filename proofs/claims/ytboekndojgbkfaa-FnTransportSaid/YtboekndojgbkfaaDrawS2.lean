import Derived.Test.YtboekndojgbkfaaDrawS
import Derived.Test.YtboekndojgbkfaaApart
/- Draws of pairs of spreads. -/
set_option linter.unusedVariables false
namespace Go.Proofs.Ytboekndojgbkfaa
open Go.ChangeShapes Go.WideShapes Go.ChangeAt Go.RowKit
set_option maxRecDepth 100000 in
theorem twoSpreads_dr {g A : Nat} {w0 : World} (w : World) (h : Dr g A w0 w) (hA : A ≤ 10000000000) :
    Calls Try.prog 103 #[.pointer (some ⟨g, 0, none⟩)] w fun e w' => ∃ (p : Option Addr) (m c : Nat) (q : Option Addr) (k d : Nat), e = .returned (.tuple #[.slice p m c, .slice q k d]) ∧ (∃ xs ys, Own w.heap.size w' p m c xs ∧ Own w.heap.size w' q k d ys) ∧ (1 ≤ m ∧ m ≤ 9) ∧ (1 ≤ k ∧ k ≤ 9) ∧ Dr g (A + 1000) w0 w' ∧ Dr g (A + 1000) w w' := by
  have hg := h.cur.lt
  have hself := Dr.refl h.cur
  go_enter Try.func103, Try.ntmps103
  go_wp2_with fail
  refine (among_dr _ 1 8 [4, 3, 5, 2, 1, 8, 6] _ _ _ _ hself (by omega) rfl rfl (by decide) (by decide) (by first | rfl | simp) (by decide)).mono ?_
  rintro e w1 ⟨n, rfl, hn, D1, E1⟩
  go_wp2_with fail
  refine (among_dr _ 1 40 [6, 4, 8, 3, 1, 12, 40] _ _ _ _ D1 (by omega) rfl rfl (by decide) (by decide) (by first | rfl | simp) (by decide)).mono ?_
  rintro e w2 ⟨s, rfl, hs, D2, E2⟩
  obtain ⟨N, rfl⟩ := Int.eq_ofNat_of_zero_le (show 0 ≤ n by omega)
  obtain ⟨S, rfl⟩ := Int.eq_ofNat_of_zero_le (show 0 ≤ s by omega)
  clear D1 E1 E2 hself
  go_wp2_with fail
  refine (spread_dr _ N S D2 (by omega) (by omega) (by omega)).mono ?_
  rintro e w3 ⟨p, m, c, xs, rfl, o3, hm, D3, E3⟩
  have z2 := D2.size
  clear D2 E3
  go_wp2_with fail
  refine (spread_dr _ N S D3 (by omega) (by omega) (by omega)).mono ?_
  rintro e w4 ⟨q, k, d, ys, rfl, o4, hk, D4, E4⟩
  have z3 := D3.size
  have o5 := E4.own o3 (by omega)
  clear D3 E4 o3
  go_wp2
  go_ret2
  exact ⟨_, _, _, _, _, _, rfl, ⟨_, _, o5.mono z2, o4.mono z3⟩, hm, hk, h.trans (D4.mono (by omega)), D4.mono (by omega)⟩
/-- What stays so while a spread's units move. -/
def OrdI (w : World) (g A B : Nat) (M : Int) (p q : Option Addr) (m c k d : Nat) (wr : World) : Prop := ∃ xs ys, Own B wr p m c xs ∧ Own w.heap.size wr q k d ys ∧ (∀ i, 0 ≤ nth xs i ∧ nth xs i ≤ M) ∧ Dr g A w wr ∧ B ≤ wr.heap.size
theorem apart_bd {p : List Int} {s : Nat} (h : apartB p s = true) : (apartV p s).length = p.length ∧ ∀ i, 0 ≤ nth (apartV p s) i ∧ nth (apartV p s) i ≤ 41 := by
  have e : apartV p s = apartL p s := by rw [apartV, h]; rfl
  simp only [apartB, Bool.and_eq_true, inB_iff, decide_eq_true_eq, Int.toNat_natCast] at h
  obtain ⟨⟨h1, h2⟩, h3⟩ := h
  have hb := (spread_len h1).2.2
  rw [e]
  refine ⟨apartL_len _ _, fun i => ?_⟩
  have a0 := hb i; have a1 := hb (s - 1); have a2 := hb s; have a3 := hb (s + 1)
  unfold apartL
  rw [nth_put, nth_put, nth_put]
  split
  · omega
  · split
    · omega
    · split <;> omega
set_option maxRecDepth 100000 in
theorem orders_dr {g A : Nat} {w0 : World} (w : World) (h : Dr g A w0 w) (hA : A ≤ 10000000000) :
    Calls Try.prog 102 #[.pointer (some ⟨g, 0, none⟩)] w fun e w' => ∃ (p : Option Addr) (m c : Nat) (q : Option Addr) (k d : Nat), e = .returned (.tuple #[.slice p m c, .slice q k d]) ∧ (∃ xs ys, Own w.heap.size w' p m c xs ∧ Own w.heap.size w' q k d ys) ∧ (1 ≤ m ∧ m ≤ 9) ∧ (1 ≤ k ∧ k ≤ 9) ∧ Dr g (A + 2000) w0 w' ∧ Dr g (A + 2000) w w' := by
  have hg := h.cur.lt
  have hself := Dr.refl h.cur
  go_enter Try.func102, Try.ntmps102
  go_wp2_with fail
  refine (twoSpreads_dr _ hself (by omega)).mono ?_
  rintro e w1 ⟨p, m, c, q, k, d, rfl, ⟨xs, ys, op, oq⟩, hm, hk, D1, -⟩
  clear hself
  cases hal : alikeB xs ys
  · go_wp2_with fail
    refine (l10Alike_any _ _ _ _ _ _ _ _ _ op.sl oq.sl).mono ?_
    rintro e w' ⟨rfl, rfl⟩
    rw [hal]
    clear hal
    go_wp2
    go_ret2
    exact ⟨_, _, _, _, _, _, rfl, ⟨_, _, op, oq⟩, hm, hk, h.trans (D1.mono (by omega)), D1.mono (by omega)⟩
  · have hy : 1 ≤ ys.length ∧ ys.length ≤ 8 ∧ ∀ i, 0 ≤ nth ys i ∧ nth ys i ≤ 40 := by
      simp only [alikeB, Bool.and_eq_true] at hal
      exact spread_len hal.1.1.2
    rw [oq.len] at hy
    have HY := Lib.hid hy.2.2
    go_wp2_with fail
    refine (l10Alike_any _ _ _ _ _ _ _ _ _ op.sl oq.sl).mono ?_
    rintro e w' ⟨rfl, rfl⟩
    rw [hal]
    clear hal
    go_wp2_with fail
    refine (one_dr _ 3 D1 (by omega) (by unfold I64; omega)).mono ?_
    rintro e w2 ⟨b, rfl, D2, E2⟩
    replace op := E2.own op hg
    replace oq := E2.own oq hg
    clear D1 E2
    cases b
    rotate_left
    · go_wp2
      go_ret2
      exact ⟨_, _, _, _, _, _, rfl, ⟨_, _, op, oq⟩, hm, hk, h.trans (D2.mono (by omega)), D2.mono (by omega)⟩
    · have z2 := D2.size
      have qw := oq.within
      go_wp2_with fail
      refine (l1Own_any _ _ _ _ _ oq.sl (by omega)).mono ?_
      rintro e w3 ⟨p3, m3, c3, rfl, o3, f3, -⟩
      have e3 : m3 = k := by rw [← o3.len, oq.len]
      subst e3
      replace oq := oq.fr f3
      replace D2 := D2.fr f3
      have z3 := f3.size
      clear f3 op
      go_wp2_with fail
      refine (pick_dr _ 4 D2 (by omega) (by unfold I64; omega)).mono ?_
      rintro e w4 ⟨r, rfl, hr, D4, E4⟩
      replace oq := E4.own oq hg
      replace o3 := E4.own o3 (by omega)
      replace z3 := Nat.le_trans z3 E4.size
      clear D2 E4
      obtain ⟨R, rfl⟩ := Int.eq_ofNat_of_zero_le hr.1
      go_wp2
      go_loopw [4, 6] (fun s i wr => ∃ (j : Nat) (p : Option Addr) (c' : Nat), j ≤ 4 ∧ i = .int .i64 j ∧ s = .slice p m3 c' ∧ OrdI w g (A + 1000 + 2 + 2 + 10 * (4 - j)) w2.heap.size (40 + 2 * (4 - (j : Int))) p q m3 c' m3 d wr) (fun _ i _ => (intOf i).toNat)
      case atStart => exact ⟨R + 1, _, _, by omega, by simp; omega, rfl, ys, ys, o3, oq, fun i => by have := HY.out i; omega, D4.mono (by omega), z3⟩
      case round =>
        clear o3 oq D4 z3
        obtain ⟨j, p, c', hj, rfl, rfl, xs, ys, op, oq, hx, D, zz⟩ := hrel
        by_cases hlt : 0 < j
        · have hji : (0 : Int) < (j : Int) := by omega
          go_wp2_with fail
          refine (pick_dr _ _ D (by omega) (by unfold I64; omega)).mono ?_
          rintro e w5 ⟨s, rfl, hs, D5, E5⟩
          replace op := E5.own op (by omega)
          replace oq := E5.own oq hg
          replace zz := Nat.le_trans zz E5.size
          clear D E5
          obtain ⟨S, rfl⟩ := Int.eq_ofNat_of_zero_le hs.1
          have hsn : S < m3 := by omega
          go_wp2_with fail
          refine (spec_MoveApart_any _ _ _ _ _ _ op.sl (by unfold I64; omega)).mono ?_
          rintro e w6 ⟨p6, m6, c6, rfl, o6, f6, -⟩
          replace op := op.fr f6
          replace oq := oq.fr f6
          replace o6 := o6.mono zz
          have D := D5.fr f6
          replace zz := Nat.le_trans zz f6.size
          clear D5 f6 hs
          cases hb : apartB xs S
          · clear o6
            by_cases h12 : S + 1 < m3
            · obtain ⟨b3, rfl, hB, hlt3, hcell, hfro⟩ := op.op (by omega)
              have k1 := hcell S hsn; have k2 := hcell (S + 1) h12
              have q1 := hfro S; have q2 := hfro (S + 1)
              have b1 := hx S; have b2 := hx (S + 1)
              have i1 : (0 : Int) ≤ (S : Int) := by omega
              have i2 : (S : Int) < (m3 : Int) := by omega
              have i3 : (S : Int) + 1 < (m3 : Int) := by omega
              have i4 : (0 : Int) ≤ (S : Int) + 1 := by omega
              clear hcell hfro
              by_cases h13 : 0 < nth xs S
              · have o2 := op.set rfl (i := S) hsn (show I64 (nth xs S - 1) by unfold I64; omega)
                have o3 := o2.set rfl (i := S + 1) h12 (show I64 (nth xs (S + 1) + 1) by unfold I64; omega)
                have hne : blkOf q ≠ some b3 := fun e => by have := qw b3 e; omega
                have oq2 := (oq.setOther (p := ⟨b3, S, none⟩) hne (.int .i64 (nth xs S - 1))).setOther (p := ⟨b3, S + 1, none⟩) hne (.int .i64 (nth xs (S + 1) + 1))
                have D2 := (D.set (q := ⟨b3, S, none⟩) (Nat.le_trans z2 hB) hg (.int .i64 (nth xs S - 1))).set (q := ⟨b3, S + 1, none⟩) (Nat.le_trans z2 hB) hg (.int .i64 (nth xs (S + 1) + 1))
                have HF := Lib.hid (And.intro o3 (And.intro oq2 D2))
                clear o2 o3 oq2 D2 op oq D
                go_wp2
                go_roundw
                case rel =>
                  refine ⟨j - 1, _, _, by omega, by go_num, rfl, _, _, HF.out.1, HF.out.2.1, fun i => ?_, HF.out.2.2.mono (by omega), by simpa [World.setCell] using zz⟩
                  rw [nth_put, nth_put]
                  have := hx i
                  split
                  · omega
                  · split <;> omega
                case measure => simp [intOf]; omega
              · go_wp2
                go_roundw
                case rel => exact ⟨j - 1, _, _, by omega, by go_num, rfl, _, _, op, oq, fun i => by have := hx i; omega, D.mono (by omega), zz⟩
                case measure => simp [intOf]; omega
            · have i3 : ¬ (S : Int) + 1 < (m3 : Int) := by omega
              go_wp2
              go_roundw
              case rel => exact ⟨j - 1, _, _, by omega, by go_num, rfl, _, _, op, oq, fun i => by have := hx i; omega, D.mono (by omega), zz⟩
              case measure => simp [intOf]; omega
          · obtain ⟨hal, hab⟩ := apart_bd hb
            have hm6 : m6 = m3 := by rw [← o6.len, hal, op.len]
            subst hm6
            clear hb hal
            go_wp2_with fail
            refine (one_dr _ 2 D (by omega) (by unfold I64; omega)).mono ?_
            rintro e w7 ⟨b, rfl, D7, E7⟩
            replace op := E7.own op (by omega)
            replace o6 := E7.own o6 (by omega)
            replace oq := E7.own oq hg
            replace zz := Nat.le_trans zz E7.size
            clear D E7
            have D := D7
            clear D7
            cases b
            · clear o6
              by_cases h12 : S + 1 < m6
              · obtain ⟨b3, rfl, hB, hlt3, hcell, hfro⟩ := op.op (by omega)
                have k1 := hcell S hsn; have k2 := hcell (S + 1) h12
                have q1 := hfro S; have q2 := hfro (S + 1)
                have b1 := hx S; have b2 := hx (S + 1)
                have i1 : (0 : Int) ≤ (S : Int) := by omega
                have i2 : (S : Int) < (m6 : Int) := by omega
                have i3 : (S : Int) + 1 < (m6 : Int) := by omega
                have i4 : (0 : Int) ≤ (S : Int) + 1 := by omega
                clear hcell hfro
                by_cases h13 : 0 < nth xs S
                · have o2 := op.set rfl (i := S) hsn (show I64 (nth xs S - 1) by unfold I64; omega)
                  have o3 := o2.set rfl (i := S + 1) h12 (show I64 (nth xs (S + 1) + 1) by unfold I64; omega)
                  have hne : blkOf q ≠ some b3 := fun e => by have := qw b3 e; omega
                  have oq2 := (oq.setOther (p := ⟨b3, S, none⟩) hne (.int .i64 (nth xs S - 1))).setOther (p := ⟨b3, S + 1, none⟩) hne (.int .i64 (nth xs (S + 1) + 1))
                  have D2 := (D.set (q := ⟨b3, S, none⟩) (Nat.le_trans z2 hB) hg (.int .i64 (nth xs S - 1))).set (q := ⟨b3, S + 1, none⟩) (Nat.le_trans z2 hB) hg (.int .i64 (nth xs (S + 1) + 1))
                  have HF := Lib.hid (And.intro o3 (And.intro oq2 D2))
                  clear o2 o3 oq2 D2 op oq D
                  go_wp2
                  go_roundw
                  case rel =>
                    refine ⟨j - 1, _, _, by omega, by go_num, rfl, _, _, HF.out.1, HF.out.2.1, fun i => ?_, HF.out.2.2.mono (by omega), by simpa [World.setCell] using zz⟩
                    rw [nth_put, nth_put]
                    have := hx i
                    split
                    · omega
                    · split <;> omega
                  case measure => simp [intOf]; omega
                · go_wp2
                  go_roundw
                  case rel => exact ⟨j - 1, _, _, by omega, by go_num, rfl, _, _, op, oq, fun i => by have := hx i; omega, D.mono (by omega), zz⟩
                  case measure => simp [intOf]; omega
              · have i3 : ¬ (S : Int) + 1 < (m6 : Int) := by omega
                go_wp2
                go_roundw
                case rel => exact ⟨j - 1, _, _, by omega, by go_num, rfl, _, _, op, oq, fun i => by have := hx i; omega, D.mono (by omega), zz⟩
                case measure => simp [intOf]; omega
            · go_wp2
              go_roundw
              case rel => exact ⟨j - 1, _, _, by omega, by go_num, rfl, _, _, o6, oq, fun i => by have := hab i; omega, D.mono (by omega), zz⟩
              case measure => simp [intOf]; omega
        · obtain rfl : j = 0 := by omega
          have z9 := D.size
          go_wp2
          go_ret2
          exact ⟨_, _, _, _, _, _, rfl, ⟨_, _, op.mono z2, oq⟩, by omega, by omega, h.trans (D.mono (by omega)), D.mono (by omega)⟩
end Go.Proofs.Ytboekndojgbkfaa
