import Derived.Test.YtfdidelonilnmaaUseStake
/- Contracts of StakePlan. -/
set_option linter.unusedVariables false
namespace Go.Proofs.Ytfdidelonilnmaa
open Go.ChangeShapes Go.WideShapes Go.ChangeAt Go.RowKit

def planRow (u : List Int) (x y : Int) (t : Nat) : List Int := (List.range u.length).map fun c => ((bArg x y (worthsTo u x y t) c (mS u.length c + 1) : Nat) : Int)
def planM (u : List Int) (x y : Int) (r : Nat) : List (List Int) := (List.range r).map (planRow u x y)
theorem planRow_len (u : List Int) (x y : Int) (t : Nat) : (planRow u x y t).length = u.length := by simp [planRow]
theorem planRow_nth (u : List Int) (x y : Int) (t c : Nat) (h : c < u.length) : nth (planRow u x y t) c = (bArg x y (worthsTo u x y t) c (mS u.length c + 1) : Nat) := by simp [nth, planRow, h]
theorem planM_succ (u : List Int) (x y : Int) (r : Nat) : planM u x y (r + 1) = planM u x y r ++ [planRow u x y r] := by simp [planM, List.range_succ]
theorem planM_tot (u : List Int) (x y : Int) (r : Nat) : tot (planM u x y r) = r * u.length := by
  induction r with
  | zero => simp [planM, tot]
  | succ r ih => rw [planM_succ, tot, List.map_append, List.sum_append]; rw [tot] at ih; rw [ih]; simp [planRow_len, Nat.add_mul]
def planV (u : List Int) (x y r : Int) : List (List Int) := bif roundsB u x y r then planM u x y r.toNat else []

theorem impl_StakePlan_any (w : World) (a : Option Addr) (n cap : Nat) (u : List Int) (x y r : Int) (h : SL w a n cap u) (_ : I64 x) (_ : I64 y) (_ : I64 r) :
    Calls Try.prog 41 #[.slice a n cap, .int .i64 x, .int .i64 y, .int .i64 r] w (RetSSB (planV u x y r) (roundsB u x y r) w) := by
  have Hl := Lib.hid h.len
  cases h1 : useB u <;> cases h2 : luckB x y <;> cases h3 : inB r 0 5
  case true.true.true =>
    obtain ⟨g3, g4⟩ := inB_iff.1 h3
    obtain ⟨R, rfl⟩ := Int.eq_ofNat_of_zero_le g3
    have hn : n ≤ 13 := by have := (useB_iff.1 h1).2.1; have := h.len; omega
    have H1 := Lib.hid h1; have H2 := Lib.hid h2
    have HB : Hid (roundsB u x y R = true) := Lib.hid (by rw [roundsB, h1, h2, h3]; rfl)
    have hone := OwnSS.made0 (B := w.heap.size) (H := w.heap.size + 1) w (Nat.le_refl _) (by omega)
    have hfr := (Fr.refl w).alloc (.cells #[] 22)
    go_enter Try.func41, Try.ntmps41
    go_wp2_with (first
      | (go_at_call 17; refine (impl_IsUse_any _ _ _ _ _ h).mono ?_; rintro e w' ⟨rfl, rfl⟩)
      | (go_at_call 61; refine (isLuck_any _ _ _).mono ?_; rintro e w' ⟨rfl, rfl⟩)
      | (go_at_call 56; refine (within_any _ _ _ _).mono ?_; rintro e w' ⟨rfl, rfl⟩))
    clear h1 h2 h3
    go_loopw [10, 11] (fun q i wr => ∃ (j : Nat) (p : Option Addr) (c : Nat), j ≤ R ∧ i = .int .i64 ((j : Int) + 1) ∧ q = .slice p j c ∧ OwnSS w.heap.size wr.heap.size wr p j c (planM u x y j) ∧ Within p w.heap.size wr.heap.size ∧ Fr w wr) (fun _ i _ => R + 1 - (intOf i).toNat)
    case atStart => exact ⟨0, _, _, by omega, rfl, rfl, by simpa [planM] using hone, fun k hk => by simp [blkOf] at hk; simp; omega, hfr⟩
    case round =>
      clear hone hfr
      obtain ⟨j, p, c, hj, rfl, rfl, ho, hW, hf⟩ := hrel
      by_cases hlt : j < R
      · have hjR : (j : Int) + 1 ≤ (R : Int) := by omega
        go_wp2
        obtain ⟨wo, rfl⟩ : ∃ wo : World, wo = wr := ⟨_, rfl⟩
        have hnx := Own.made0 (B := wo.heap.size) wo (Nat.le_refl _)
        have hfo := (Fr.refl wo).alloc (.cells #[] 3)
        go_loopw [12, 37] (fun q i wi => ∃ (k : Nat) (p2 : Option Addr) (c2 : Nat), k ≤ n ∧ i = .int .i64 k ∧ q = .slice p2 k c2 ∧ Own wo.heap.size wi p2 k c2 ((planRow u x y j).take k) ∧ Fr wo wi) (fun _ i _ => n - (intOf i).toNat)
        case atStart => exact ⟨0, _, _, Nat.zero_le _, rfl, rfl, by simpa using hnx, hfo⟩
        case round =>
          clear hnx hfo
          obtain ⟨k, p2, c2, hk, rfl, rfl, hon, hfi⟩ := hrel
          by_cases hkt : k < n
          · have hms : mS n k ≤ n := by unfold mS; omega
            have hba := bArg_le x y (worthsTo u x y j) k (mS n k + 1)
            have hsn : Hid ((planRow u x y j).take (k + 1) = (planRow u x y j).take k ++ [((bArg x y (worthsTo u x y j) k (mS n k + 1) : Nat) : Int)]) := Lib.hid (by
              rw [take_snoc _ _ (by rw [planRow_len, Hl.out]; exact hkt), planRow_nth _ _ _ _ _ (by rw [Hl.out]; exact hkt), Hl.out])
            go_wp2_with fail
            refine (bestStake_any _ _ _ _ _ _ _ (j + 1) k (h.fr (hf.trans hfi)) H1.out H2.out (by omega) hkt).mono ?_
            rintro e w2 ⟨rfl, f2⟩
            rw [Nat.add_sub_cancel]
            have hon' := hon.fr f2
            have hfz := hfi.trans f2
            go_wp2_with (at_builtin; refine ap_int _ rfl _ _ rfl wo.heap.size p2 k c2 _ _ rfl rfl hon' hfz.size (by unfold I64; omega) (by omega) ?_)
            intro g2 c' w' hown hgr _
            have hF : Fr wo w' := hfz.grown hgr (fun k hk => (hon'.blk k hk).1)
            go_wp2
            go_roundw
            case rel => exact ⟨k + 1, some ⟨g2, 0, none⟩, c', by omega, by go_num, rfl, by rw [hsn.out]; exact hown, hF⟩
            case measure => simp [intOf]; omega
          · have hkn : k = n := by omega
            subst hkn
            rw [List.take_of_length_le (by rw [planRow_len, Hl.out]; omega)] at hon
            go_wp2_with (at_builtin; refine ap_row _ rfl _ _ rfl w.heap.size wo.heap.size p j c _ p2 k c2 _ rfl rfl (ho.fr hfi) hf.size hfi.size (hon.mono hf.size) hon.within (by omega) ?_)
            intro g2 c' w' hown hgr _
            have hF : Fr w w' := (hf.trans hfi).grown hgr (fun k hk => (hW k hk).1)
            have hW' : Within (some ⟨g2, 0, none⟩) w.heap.size w'.heap.size := by obtain ⟨_, _, _, q, _⟩ := hown.ex; exact q
            go_wp2
            go_roundw
            case rel => exact ⟨j + 1, _, c', by omega, by go_num, rfl, by rw [planM_succ]; exact hown, hW', hF⟩
            case measure => simp [intOf]; omega
      · go_wp2
        go_ret2
        obtain rfl : j = R := by omega
        have hR1 : j ≤ 1048576 := by omega
        rw [planV, HB.out]
        refine ⟨_, _, _, rfl, ho, hf, ?_, hR1⟩
        simp only [cond_true, Int.toNat_natCast]; rw [planM_tot, Hl.out]
        have := Nat.mul_le_mul (show j ≤ 5 by omega) hn
        omega
  all_goals
    have HB := Lib.hid (show roundsB u x y r = _ from by rw [roundsB, h1, h2, h3])
    go_enter Try.func41, Try.ntmps41
    go_wp2_with (first
      | (go_at_call 17; refine (impl_IsUse_any _ _ _ _ _ h).mono ?_; rintro e w' ⟨rfl, rfl⟩)
      | (go_at_call 61; refine (isLuck_any _ _ _).mono ?_; rintro e w' ⟨rfl, rfl⟩)
      | (go_at_call 56; refine (within_any _ _ _ _).mono ?_; rintro e w' ⟨rfl, rfl⟩))
    go_ret2
    rw [planV, HB.out]
    exact ⟨none, 0, 0, rfl, OwnSS.nil _ _ _, Fr.refl _, by simp [tot], by omega⟩

theorem spec_StakePlan_any (w : World) (a : Option Addr) (n cap : Nat) (u : List Int) (x y r : Int) (h : SL w a n cap u) (_ : I64 x) (_ : I64 y) (_ : I64 r) :
    Calls Try.prog 40 #[.slice a n cap, .int .i64 x, .int .i64 y, .int .i64 r] w (RetSSB (planV u x y r) (roundsB u x y r) w) := by
  have Hl := Lib.hid h.len
  have hone := OwnSS.made0 (B := w.heap.size) (H := w.heap.size + 1) w (Nat.le_refl _) (by omega)
  have hfr := (Fr.refl w).alloc (.cells #[] 22)
  cases h1 : roundsB u x y r
  · simp only [planV, h1, cond_false]
    go_enter Try.func40, Try.ntmps40
    go_wp2_with (go_at_call 77; refine (l11Rounds_any _ _ _ _ _ _ _ _ (h.fr hfr)).mono ?_; rintro e w' ⟨rfl, rfl⟩)
    go_ret2
    exact ⟨_, _, _, rfl, hone.upto (by simp), hfr, by simp [tot], by omega⟩
  · simp only [planV, h1, cond_true]
    obtain ⟨g1, g2, g3, g4⟩ := roundsB_iff.1 h1
    obtain ⟨R, rfl⟩ := Int.eq_ofNat_of_zero_le g3
    have hn : n ≤ 13 := by have := (useB_iff.1 g1).2.1; have := h.len; omega
    obtain ⟨hx, hy, _⟩ := luckB_iff.1 g2
    have G1 := Lib.hid g1; have G2 := Lib.hid g2
    clear g1 g2
    go_enter Try.func40, Try.ntmps40
    go_wp2_with (go_at_call 77; refine (l11Rounds_any _ _ _ _ _ _ _ _ (h.fr hfr)).mono ?_; rintro e w' ⟨rfl, rfl⟩)
    refine (l11Table_any _ _ _ _ _ _ _ R (h.fr hfr) G1.out G2.out (by omega)).mono ?_
    rintro e w1 ⟨a1, n1, c1, rfl, o1, f1, t1, m1⟩
    have hn1 : n1 = R + 1 := by rw [← o1.len, tabM_len]
    subst hn1
    have hone1 := hone.fr f1
    have hf1 := hfr.trans f1
    have hsz1 : w.heap.size + 1 ≤ w1.heap.size := by have := f1.size; simpa using this
    clear hone
    have o1' : OwnSS (w.heap.size + 1) w1.heap.size w1 a1 (R + 1) c1 (tabM u x y (R + 1)) := o1.mono (by simp)
    go_wp2
    go_loopw [10, 12] (fun q i wr => ∃ (j : Nat) (p : Option Addr) (c : Nat), j ≤ R ∧ i = .int .i64 ((j : Int) + 1) ∧ q = .slice p j c ∧ OwnSS w.heap.size wr.heap.size wr p j c (planM u x y j) ∧ Within p w.heap.size wr.heap.size ∧ OutB p (w.heap.size + 1) w1.heap.size ∧ OwnSS (w.heap.size + 1) w1.heap.size wr a1 (R + 1) c1 (tabM u x y (R + 1)) ∧ Fr w wr ∧ w1.heap.size ≤ wr.heap.size) (fun _ i _ => R + 1 - (intOf i).toNat)
    case atStart => exact ⟨0, _, _, by omega, rfl, rfl, by simpa [planM] using hone1.upto hsz1, fun k hk => by simp [blkOf] at hk; omega, fun k hk => by simp [blkOf] at hk; left; omega, o1', hf1, Nat.le_refl _⟩
    case round =>
      clear hone1 hfr hf1 o1 o1' f1
      obtain ⟨j, p, c, hj, rfl, rfl, ho, hW, hO, hT, hf, hsz⟩ := hrel
      by_cases hlt : j < R
      · have hjR : (j : Int) + 1 ≤ (R : Int) := by omega
        have HM := Lib.hid (worths_bd4 G1.out G2.out j (by omega))
        go_wp2
        obtain ⟨wo, rfl⟩ : ∃ wo : World, wo = wr := ⟨_, rfl⟩
        have hnx := Own.made0 (B := wo.heap.size) wo (Nat.le_refl _)
        have hfo := (Fr.refl wo).alloc (.cells #[] 3)
        go_loopw [13, 14] (fun q i wi => ∃ (k : Nat) (p2 : Option Addr) (c2 : Nat), k ≤ n ∧ i = .int .i64 k ∧ q = .slice p2 k c2 ∧ Own wo.heap.size wi p2 k c2 ((planRow u x y j).take k) ∧ Fr wo wi) (fun _ i _ => n - (intOf i).toNat)
        case atStart => exact ⟨0, _, _, Nat.zero_le _, rfl, rfl, by simpa using hnx, hfo⟩
        case round =>
          clear hnx hfo
          obtain ⟨k, p2, c2, hk, rfl, rfl, hon, hfi⟩ := hrel
          by_cases hkt : k < n
          · have hms : mS n k ≤ n := by unfold mS; omega
            have hba := bArg_le x y (worthsTo u x y j) k (mS n k + 1)
            have hsn : Hid ((planRow u x y j).take (k + 1) = (planRow u x y j).take k ++ [((bArg x y (worthsTo u x y j) k (mS n k + 1) : Nat) : Int)]) := Lib.hid (by
              rw [take_snoc _ _ (by rw [planRow_len, Hl.out]; exact hkt), planRow_nth _ _ _ _ _ (by rw [Hl.out]; exact hkt), Hl.out])
            obtain ⟨g, p3, m3, c3, rfl, hcell, hrow, _, _, _⟩ := (hT.fr hfi).rowAt (i := j) (by omega)
            rw [tabM_at _ _ _ _ _ (by omega)] at hrow
            have hm3 : m3 = n := by rw [← hrow.len, worthsTo_len, Hl.out]
            subst hm3
            go_wp2_with fail
            refine (l11Best_any _ _ _ _ _ _ _ _ hrow.sl hx hy HM.out (by omega) hkt).mono ?_
            rintro e w2 ⟨rfl, q2⟩
            have hon' := hon.fr q2.fr
            have hfz := hfi.trans q2.fr
            go_wp2_with (at_builtin; refine ap_int _ rfl _ _ rfl wo.heap.size p2 k c2 _ _ rfl rfl hon' hfz.size (by unfold I64; omega) (by omega) ?_)
            intro g2 c' w' hown hgr _
            have hF : Fr wo w' := hfz.grown hgr (fun k hk => (hon'.blk k hk).1)
            go_wp2
            go_roundw
            case rel => exact ⟨k + 1, some ⟨g2, 0, none⟩, c', by omega, by go_num, rfl, by rw [hsn.out]; exact hown, hF⟩
            case measure => simp [intOf]; omega
          · have hkn : k = n := by omega
            subst hkn
            rw [List.take_of_length_le (by rw [planRow_len, Hl.out]; omega)] at hon
            have hTf := hT.fr hfi
            have hfs := hfi.size
            go_wp2_with (at_builtin; refine ap_row _ rfl _ _ rfl w.heap.size wo.heap.size p j c _ p2 k c2 _ rfl rfl (ho.fr hfi) hf.size hfi.size (hon.mono hf.size) hon.within (by omega) ?_)
            intro g2 c' w' hown hgr hnew
            have hF : Fr w w' := (hf.trans hfi).grown hgr (fun k hk => (hW k hk).1)
            have hW' : Within (some ⟨g2, 0, none⟩) w.heap.size w'.heap.size := by obtain ⟨_, _, _, q, _⟩ := hown.ex; exact q
            have hO' : OutB (some ⟨g2, 0, none⟩) (w.heap.size + 1) w1.heap.size := by
              intro k hk
              simp only [blkOf, Option.map_some, Option.some.injEq] at hk
              subst hk
              rcases hnew with h | h
              · exact hO _ h
              · right; omega
            have hT' := hTf.keep hgr hO
            have hsz' := hgr.size
            go_wp2
            go_roundw
            case rel => exact ⟨j + 1, _, c', by omega, by go_num, rfl, by rw [planM_succ]; exact hown, hW', hO', hT', hF, by omega⟩
            case measure => simp [intOf]; omega
      · go_wp2
        go_ret2
        obtain rfl : j = R := by omega
        have hR1 : j ≤ 1048576 := by omega
        refine ⟨_, _, _, rfl, ho, hf, ?_, hR1⟩
        simp only [Int.toNat_natCast]; rw [planM_tot, Hl.out]
        have := Nat.mul_le_mul (show j ≤ 5 by omega) hn
        omega

end Go.Proofs.Ytfdidelonilnmaa
