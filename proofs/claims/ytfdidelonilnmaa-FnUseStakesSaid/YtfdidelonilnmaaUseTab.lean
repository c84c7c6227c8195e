import Derived.Test.YtfdidelonilnmaaStake
/- Contracts of tables of uses. -/
set_option linter.unusedVariables false
namespace Go.Proofs.Ytfdidelonilnmaa
open Go.ChangeShapes Go.WideShapes Go.ChangeAt Go.RowKit

/-- The worths for no round left, for one, .., less than r. -/
def tabM (u : List Int) (x y : Int) (r : Nat) : List (List Int) := (List.range r).map (worthsTo u x y)
theorem tabM_len (u : List Int) (x y : Int) (r : Nat) : (tabM u x y r).length = r := by simp [tabM]
theorem tabM_at (u : List Int) (x y : Int) (r i : Nat) (h : i < r) : nthL (tabM u x y r) i = worthsTo u x y i := by simp [nthL, tabM, h]
theorem tabM_succ (u : List Int) (x y : Int) (r : Nat) : tabM u x y (r + 1) = tabM u x y r ++ [worthsTo u x y r] := by simp [tabM, List.range_succ]
theorem tabM_tot (u : List Int) (x y : Int) (r : Nat) : tot (tabM u x y r) = r * u.length := by
  induction r with
  | zero => simp [tabM, tot]
  | succ r ih => rw [tabM_succ, tot, List.map_append, List.sum_append]; rw [tot] at ih; rw [ih]; simp [worthsTo_len, Nat.add_mul]

theorem l11Table_any (w : World) (a : Option Addr) (n cap : Nat) (u : List Int) (x y : Int) (R : Nat) (h : SL w a n cap u) (hu : useB u = true) (hL : luckB x y = true) (hR : R ≤ 5) :
    Calls Try.prog 69 #[.slice a n cap, .int .i64 x, .int .i64 y, .int .i64 R] w (RetSS (tabM u x y (R + 1)) w) := by
  have Hl := Lib.hid h.len
  have hn : n ≤ 13 := by have := (useB_iff.1 hu).2.1; have := h.len; omega
  have HU := Lib.hid hu; have HL := Lib.hid hL
  clear hu hL
  obtain ⟨hx, hy, _⟩ := luckB_iff.1 HL.out
  go_enter Try.func69, Try.ntmps69
  go_wp2_with fail
  refine (l1Own_any _ _ _ _ _ h (by omega)).mono ?_
  rintro e w1 ⟨a1, n1, c1, rfl, o1, f1, m1⟩
  have hone := OwnSS.one o1 f1.size
  have hfr := f1.alloc (.cells #[.slice a1 n1 c1] 22)
  go_wp2
  go_loopw [9, 10] (fun q i wr => ∃ (r : Nat) (p : Option Addr) (c : Nat), 1 ≤ r ∧ r ≤ R + 1 ∧ i = .int .i64 r ∧ q = .slice p r c ∧ OwnSS w.heap.size wr.heap.size wr p r c (tabM u x y r) ∧ Fr w wr) (fun _ i _ => R + 1 - (intOf i).toNat)
  case atStart => exact ⟨1, _, _, Nat.le_refl _, by omega, rfl, rfl, by simpa [tabM, worthsTo] using hone, hfr⟩
  case round =>
    clear hone hfr o1 f1
    obtain ⟨r, p, c, hr1, hr, rfl, rfl, ho, hf⟩ := hrel
    by_cases hlt : r < R + 1
    · obtain ⟨t, ht⟩ : ∃ t, r = t + 1 := ⟨r - 1, by omega⟩
      have HT := Lib.hid ht
      have ht' : (r : Int) - 1 = (t : Int) := by omega
      clear ht
      have hrR : r ≤ R := by omega
      go_wp2
      obtain ⟨wo, rfl⟩ : ∃ wo : World, wo = wr := ⟨_, rfl⟩
      have hnx := Own.made0 (B := wo.heap.size) wo (Nat.le_refl _)
      have hfo := (Fr.refl wo).alloc (.cells #[] 3)
      have HM := Lib.hid (worths_bd4 HU.out HL.out t (by omega))
      go_loopw [11, 12] (fun q i wi => ∃ (j : Nat) (p2 : Option Addr) (c2 : Nat), j ≤ n ∧ i = .int .i64 j ∧ q = .slice p2 j c2 ∧ Own wo.heap.size wi p2 j c2 ((worthsTo u x y r).take j) ∧ Fr wo wi) (fun _ i _ => n - (intOf i).toNat)
      case atStart => exact ⟨0, _, _, Nat.zero_le _, rfl, rfl, by simpa using hnx, hfo⟩
      case round =>
        clear hnx hfo
        obtain ⟨j, p2, c2, hj, rfl, rfl, hon, hfi⟩ := hrel
        by_cases hjt : j < n
        · obtain ⟨g, p3, m3, c3, rfl, hcell, hrow, _, _, _⟩ := (ho.fr hfi).rowAt (i := t) (by omega)
          rw [tabM_at _ _ _ _ _ (by omega)] at hrow
          have hm3 : m3 = n := by rw [← hrow.len, worthsTo_len, Hl.out]
          subst hm3
          go_wp2_with fail
          refine (l11Best_any _ _ _ _ _ _ _ _ hrow.sl hx hy HM.out (by omega) hjt).mono ?_
          rintro e w2 ⟨rfl, q2⟩
          have hon' := hon.fr q2.fr
          have hfz := hfi.trans q2.fr
          have hbd := bMax_bd hx hy HM.out j (mS m3 j + 1)
          have hval := bMax_arg hx hy HM.out j (mS m3 j)
          have hsn : Hid ((worthsTo u x y r).take (j + 1) = (worthsTo u x y r).take j ++ [stk x y (worthsTo u x y t) j (bArg x y (worthsTo u x y t) j (mS m3 j + 1))]) := Lib.hid (by
            rw [take_snoc _ _ (by rw [worthsTo_len, Hl.out]; exact hjt), ← hval]; congr 2; rw [HT.out, worthsTo, Hl.out, rowW_nth _ _ _ _ _ hjt])
          rw [hval] at hbd
          clear hval
          go_wp2_with (at_builtin; refine ap_int _ rfl _ _ rfl wo.heap.size p2 j c2 _ _ rfl rfl hon' hfz.size (by unfold I64; omega) (by omega) ?_)
          intro g2 c' w' hown hgr _
          have hF : Fr wo w' := hfz.grown hgr (fun k hk => (hon'.blk k hk).1)
          go_wp2
          go_roundw
          case rel => exact ⟨j + 1, some ⟨g2, 0, none⟩, c', by omega, by go_num, rfl, by rw [hsn.out]; exact hown, hF⟩
          case measure => simp [intOf]; omega
        · have hjn : j = n := by omega
          subst hjn
          rw [List.take_of_length_le (by rw [worthsTo_len, Hl.out]; omega)] at hon
          go_wp2_with (at_builtin; refine ap_row _ rfl _ _ rfl w.heap.size wo.heap.size p r c _ p2 j c2 _ rfl rfl (ho.fr hfi) hf.size hfi.size (hon.mono hf.size) hon.within (by omega) ?_)
          intro g2 c' w' hown hgr _
          have hW : Within p w.heap.size wo.heap.size := by
            intro k hk
            obtain ⟨g, _, _, _, rfl, _, _, _, h1, h2⟩ := ho.rowAt (i := t) (by omega)
            simp [blkOf] at hk; omega
          have hF : Fr w w' := (hf.trans hfi).grown hgr (fun k hk => (hW k hk).1)
          go_wp2
          go_roundw
          case rel => exact ⟨r + 1, _, c', by omega, by omega, by go_num, rfl, by rw [tabM_succ]; exact hown, hF⟩
          case measure => simp [intOf]; omega
    · go_wp2
      go_ret
      obtain rfl : r = R + 1 := by omega
      refine ⟨_, _, _, rfl, ho, hf, ?_, by omega⟩
      rw [tabM_tot, Hl.out]
      have := Nat.mul_le_mul (show R + 1 ≤ 6 by omega) hn
      omega

def roundsB (u : List Int) (x y r : Int) : Bool := useB u && luckB x y && inB r 0 5
theorem roundsB_iff {u : List Int} {x y r : Int} : roundsB u x y r = true ↔ useB u = true ∧ luckB x y = true ∧ 0 ≤ r ∧ r ≤ 5 := by simp [roundsB, inB_iff, and_assoc]
theorem l11Rounds_any (w : World) (a : Option Addr) (n cap : Nat) (u : List Int) (x y r : Int) (h : SL w a n cap u) :
    Calls Try.prog 77 #[.slice a n cap, .int .i64 x, .int .i64 y, .int .i64 r] w fun e w' => e = .returned (.bool (roundsB u x y r)) ∧ w = w' := by
  cases h1 : useB u <;> cases h2 : luckB x y
  all_goals
    have H1 := Lib.hid h1
    have H2 := Lib.hid h2
    go_enter Try.func77, Try.ntmps77
    go_wp2_with (first
      | (go_at_call 55; refine (l11Use_any _ _ _ _ _ h).mono ?_; rintro e w' ⟨rfl, rfl⟩)
      | (go_at_call 59; refine (l11Luck_any _ _ _).mono ?_; rintro e w' ⟨rfl, rfl⟩)
      | (go_at_call 58; refine (l1In_any _ _ _ _).mono ?_; rintro e w' ⟨rfl, rfl⟩))
    go_ret
    exact ⟨ret_bool (by rw [roundsB, H1.out, H2.out]; rfl), rfl⟩

def tableV (u : List Int) (x y r : Int) : List (List Int) := bif roundsB u x y r then tabM u x y (r.toNat + 1) else []
theorem spec_UseTable_any (w : World) (a : Option Addr) (n cap : Nat) (u : List Int) (x y r : Int) (h : SL w a n cap u) (_ : I64 x) (_ : I64 y) (_ : I64 r) :
    Calls Try.prog 35 #[.slice a n cap, .int .i64 x, .int .i64 y, .int .i64 r] w (RetSSB (tableV u x y r) (roundsB u x y r) w) := by
  cases h1 : roundsB u x y r
  · simp only [tableV, h1, cond_false]
    go_enter Try.func35, Try.ntmps35
    go_wp2_with (go_at_call 77; refine (l11Rounds_any _ _ _ _ _ _ _ _ h).mono ?_; rintro e w' ⟨rfl, rfl⟩)
    go_ret2
    exact ⟨_, _, _, rfl, OwnSS.made0 _ (Nat.le_refl _) (by simp), (Fr.refl _).alloc _, by simp [tot], by omega⟩
  · simp only [tableV, h1, cond_true]
    obtain ⟨g1, g2, g3, g4⟩ := roundsB_iff.1 h1
    obtain ⟨R, rfl⟩ := Int.eq_ofNat_of_zero_le g3
    have G1 := Lib.hid g1; have G2 := Lib.hid g2
    clear g1 g2
    go_enter Try.func35, Try.ntmps35
    go_wp2_with (go_at_call 77; refine (l11Rounds_any _ _ _ _ _ _ _ _ h).mono ?_; rintro e w' ⟨rfl, rfl⟩)
    refine (l11Table_any _ _ _ _ _ _ _ R h G1.out G2.out (by omega)).mono ?_
    rintro e w1 ⟨a1, n1, c1, rfl, o1, f1, t1, m1⟩
    go_wp2
    go_ret2
    exact ⟨_, _, _, rfl, o1, f1, t1, m1⟩

theorem impl_UseTable_any (w : World) (a : Option Addr) (n cap : Nat) (u : List Int) (x y r : Int) (h : SL w a n cap u) (_ : I64 x) (_ : I64 y) (_ : I64 r) :
    Calls Try.prog 36 #[.slice a n cap, .int .i64 x, .int .i64 y, .int .i64 r] w (RetSSB (tableV u x y r) (roundsB u x y r) w) := by
  have Hl := Lib.hid h.len
  cases h1 : useB u <;> cases h2 : luckB x y <;> cases h3 : inB r 0 5
  case true.true.true =>
    obtain ⟨g3, g4⟩ := inB_iff.1 h3
    obtain ⟨R, rfl⟩ := Int.eq_ofNat_of_zero_le g3
    have hn : n ≤ 13 := by have := (useB_iff.1 h1).2.1; have := h.len; omega
    have H1 := Lib.hid h1; have H2 := Lib.hid h2
    have HB : Hid (roundsB u x y R = true) := Lib.hid (by rw [roundsB, h1, h2, h3]; rfl)
    have hone := OwnSS.made0 (B := w.heap.size) (H := w.heap.size + 1) w (Nat.le_refl _) (by omega)
    have hfr := (Fr.refl w).alloc (.cells #[] 22)
    go_enter Try.func36, Try.ntmps36
    go_wp2_with (first
      | (go_at_call 17; refine (impl_IsUse_any _ _ _ _ _ h).mono ?_; rintro e w' ⟨rfl, rfl⟩)
      | (go_at_call 61; refine (isLuck_any _ _ _).mono ?_; rintro e w' ⟨rfl, rfl⟩)
      | (go_at_call 56; refine (within_any _ _ _ _).mono ?_; rintro e w' ⟨rfl, rfl⟩))
    clear h1 h2 h3
    go_loopw [10, 29] (fun q i wr => ∃ (j : Nat) (p : Option Addr) (c : Nat), j ≤ R + 1 ∧ i = .int .i64 j ∧ q = .slice p j c ∧ OwnSS w.heap.size wr.heap.size wr p j c (tabM u x y j) ∧ Within p w.heap.size wr.heap.size ∧ Fr w wr) (fun _ i _ => R + 1 - (intOf i).toNat)
    case atStart => exact ⟨0, _, _, by omega, rfl, rfl, by simpa [tabM] using hone, fun k hk => by simp [blkOf] at hk; simp; omega, hfr⟩
    case round =>
      clear hone hfr
      obtain ⟨j, p, c, hj, rfl, rfl, ho, hW, hf⟩ := hrel
      by_cases hlt : j < R + 1
      · go_wp2_with fail
        refine (worths_any _ _ _ _ _ _ _ j (h.fr hf) H1.out H2.out (by omega)).mono ?_
        rintro e w2 ⟨p2, n2, c2, rfl, o2, f2, m2⟩
        go_wp2_with (at_builtin; refine ap_row _ rfl _ _ rfl w.heap.size wr.heap.size p j c _ p2 n2 c2 _ rfl rfl (ho.fr f2) hf.size f2.size (o2.mono hf.size) o2.within (by omega) ?_)
        intro g c' w' hown hgr hnew
        have hF : Fr w w' := (hf.trans f2).grown hgr (fun k hk => (hW k hk).1)
        have hsz := hgr.size
        have hrow := hown.ex
        have hW' : Within (some ⟨g, 0, none⟩) w.heap.size w'.heap.size := by obtain ⟨_, _, _, q, _⟩ := hown.ex; exact q
        clear hrow
        go_wp2
        go_roundw
        case rel => exact ⟨j + 1, _, c', by omega, by go_num, rfl, by rw [tabM_succ]; exact hown, hW', hF⟩
        case measure => simp [intOf]; omega
      · go_wp2
        go_ret2
        obtain rfl : j = R + 1 := by omega
        have hR1 : R + 1 ≤ 1048576 := by omega
        rw [tableV, HB.out]
        refine ⟨_, _, _, rfl, ho, hf, ?_, hR1⟩
        simp only [cond_true, Int.toNat_natCast]; rw [tabM_tot, Hl.out]
        have := Nat.mul_le_mul (show R + 1 ≤ 6 by omega) hn
        omega
  all_goals
    have HB := Lib.hid (show roundsB u x y r = _ from by rw [roundsB, h1, h2, h3])
    go_enter Try.func36, Try.ntmps36
    go_wp2_with (first
      | (go_at_call 17; refine (impl_IsUse_any _ _ _ _ _ h).mono ?_; rintro e w' ⟨rfl, rfl⟩)
      | (go_at_call 61; refine (isLuck_any _ _ _).mono ?_; rintro e w' ⟨rfl, rfl⟩)
      | (go_at_call 56; refine (within_any _ _ _ _).mono ?_; rintro e w' ⟨rfl, rfl⟩))
    go_ret2
    rw [tableV, HB.out]
    exact ⟨none, 0, 0, rfl, OwnSS.nil _ _ _, Fr.refl _, by simp [tot], by omega⟩

end Go.Proofs.Ytfdidelonilnmaa
