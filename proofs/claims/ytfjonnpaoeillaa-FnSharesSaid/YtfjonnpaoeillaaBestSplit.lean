import Derived.Test.YtfjonnpaoeillaaSplits
import Derived.WalkSpells
/- Contracts of BestSplit. -/
set_option linter.unusedVariables false
namespace Go.Proofs.Ytfjonnpaoeillaa
open Go.ChangeShapes Go.WideShapes Go.ChangeAt Go.RowKit

/-- The first of the first i splits with the greatest growth. -/
def bI (ws : List Int) (L : List (List Int)) : Nat → Nat
  | 0 => 0
  | i + 1 => if sgW ws (nthL L (bI ws L i)) ws.length < sgW ws (nthL L i) ws.length then i else bI ws L i
theorem bI_le (ws : List Int) (L : List (List Int)) (i : Nat) : bI ws L i ≤ i - 1 := by
  induction i with
  | zero => exact Nat.le_refl _
  | succ i ih => unfold bI; split <;> omega
theorem bI_one (ws : List Int) (L : List (List Int)) : bI ws L 1 = 0 := by simp [bI]
theorem bI_yes {ws : List Int} {L : List (List Int)} {i : Nat} (h : sgW ws (nthL L (bI ws L i)) ws.length < sgW ws (nthL L i) ws.length) : bI ws L (i + 1) = i := by rw [bI, if_pos h]
theorem bI_no {ws : List Int} {L : List (List Int)} {i : Nat} (h : ¬ sgW ws (nthL L (bI ws L i)) ws.length < sgW ws (nthL L i) ws.length) : bI ws L (i + 1) = bI ws L i := by rw [bI, if_neg h]
def bsOk (ws : List Int) (n : Int) : Bool := raceB ws && inB n 0 12
def bsL (ws : List Int) (n : Int) : List (List Int) := splitsM (ws.length - 1) n.toNat
def bsV (ws : List Int) (n : Int) : List Int := bif bsOk ws n then nthL (bsL ws n) (bI ws (bsL ws n) (bsL ws n).length) else []
theorem splitsM_pos (k : Nat) : ∀ n, 0 < (splitsM k n).length := by
  induction k with
  | zero => intro n; simp [splitsM]
  | succ k ih =>
    intro n
    have := ih (n - 0)
    rw [splitsM, List.range_succ_eq_map]
    simp only [List.flatMap_cons, List.length_append, List.length_map]
    omega

theorem spec_BestSplit_any (w : World) (a : Option Addr) (n cap : Nat) (ws : List Int) (m : Int) (h : SL w a n cap ws) (_ : I64 m) :
    Calls Try.prog 23 #[.slice a n cap, .int .i64 m] w (RetSB (bsV ws m) (bsOk ws m) w) := by
  have Hl := Lib.hid h.len
  cases h1 : raceB ws <;> cases h2 : inB m 0 12
  case true.true =>
    have hb : bsOk ws m = true := by rw [bsOk, h1, h2]; rfl
    have HB := Lib.hid hb
    clear hb
    obtain ⟨g1, g2, g3⟩ := raceB_iff.1 h1
    rw [Hl.out] at g1 g2
    obtain ⟨k1, k2⟩ := inB_iff.1 h2
    have hL : bsL ws m = splitsM (n - 1) m.toNat := by rw [bsL, Hl.out]
    have HL := Lib.hid hL
    have HP := Lib.hid (splitsM_pos (n - 1) m.toNat)
    have HRL := Lib.hid (splitsM_rows (n - 1) m.toNat)
    clear hL g3
    go_enter Try.func23, Try.ntmps23
    go_wp2_with (first
      | (go_at_call 44; refine (l11Race_any _ _ _ _ _ h).mono ?_; rintro e w' ⟨rfl, rfl⟩)
      | (go_at_call 37; refine (l1In_any _ _ _ _).mono ?_; rintro e w' ⟨rfl, rfl⟩))
    refine (l11Splits_any (n - 1) _ _ _ k1 k2 (by omega) (by omega)).mono ?_
    rintro e w1 ⟨a1, n1, c1, rfl, o1, f1, t1, m1⟩
    have Hn1 := Lib.hid o1.len
    have hn1 : 1 ≤ n1 := by have := HP.out; have := Hn1.out; omega
    have hlenr : ∀ i, i < n1 → (nthL (splitsM (n - 1) m.toNat) i).length = n := fun i hi => by
      have := HRL.out _ (by rw [nthL_eq (by rw [Hn1.out]; exact hi)]; exact List.getElem_mem _ : nthL (splitsM (n - 1) m.toNat) i ∈ _)
      omega
    have HLR := Lib.hid hlenr
    clear hlenr
    obtain ⟨g, p0, m0, c0, rfl, hcell, hrow, _, _, _⟩ := o1.rowAt (i := 0) (by omega)
    have hI1 : Hid (bI ws (splitsM (n - 1) m.toNat) 1 = 0) := Lib.hid (bI_one _ _)
    have hq0 : (0 : Int) < (n1 : Int) := by omega
    go_wp2
    go_loopw [7, 8] (fun q i wr => ∃ (j : Nat) (p : Option Addr) (mm c : Nat), 1 ≤ j ∧ j ≤ n1 ∧ i = .int .i64 j ∧ q = .slice p mm c ∧ Own w.heap.size wr p mm c (nthL (splitsM (n - 1) m.toNat) (bI ws (splitsM (n - 1) m.toNat) j)) ∧ Qt w1 wr) (fun _ i _ => n1 - (intOf i).toNat)
    case atStart => exact ⟨1, p0, m0, c0, by omega, by omega, rfl, rfl, by rw [hI1.out]; exact hrow, Qt.refl _⟩
    case round =>
      clear hcell hrow
      obtain ⟨j, p, mm, c, hj1, hj, rfl, rfl, ho, hq⟩ := hrel
      by_cases hjt : j < n1
      · obtain ⟨g', p3, m3, c3, hg', hcell, hrow, _, _, _⟩ := (o1.fr hq.fr).rowAt (i := j) hjt
        obtain rfl : g = g' := by simpa using hg'
        have hle := bI_le ws (splitsM (n - 1) m.toNat) j
        have hm3 : m3 = n := by rw [← hrow.len]; exact HLR.out j hjt
        have hmm : mm = n := by rw [← ho.len]; exact HLR.out _ (by omega)
        subst hm3
        subst hmm
        have hW := h.fr (f1.trans hq.fr)
        have i1 : (0 : Int) ≤ (j : Int) := by omega
        have i2 : (j : Int) < (n1 : Int) := by omega
        by_cases hcm : sgW ws (nthL (splitsM (mm - 1) m.toNat) (bI ws (splitsM (mm - 1) m.toNat) j)) mm < sgW ws (nthL (splitsM (mm - 1) m.toNat) j) mm
        · have HC : Hid (bI ws (splitsM (mm - 1) m.toNat) (j + 1) = j) := Lib.hid (bI_yes (by rw [Hl.out]; exact hcm))
          go_wp2_with fail
          refine (l11SplitGrowth_any _ _ _ _ _ _ _ _ _ hW hrow.sl rfl).mono ?_
          rintro e w2 ⟨rfl, q2⟩
          go_wp2_with fail
          refine (l11SplitGrowth_any _ _ _ _ _ _ _ _ _ (hW.qt q2) (ho.fr q2.fr).sl rfl).mono ?_
          rintro e w3 ⟨rfl, q3⟩
          have hcell3 := (q2.trans q3).fr.keep hcell
          go_wp2
          go_roundw
          case rel => exact ⟨j + 1, p3, mm, c3, by omega, by omega, by go_num, rfl, by rw [HC.out]; exact hrow.fr (q2.trans q3).fr, hq.trans (q2.trans q3)⟩
          case measure => simp [intOf]; omega
        · have HC : Hid (bI ws (splitsM (mm - 1) m.toNat) (j + 1) = bI ws (splitsM (mm - 1) m.toNat) j) := Lib.hid (bI_no (by rw [Hl.out]; exact hcm))
          go_wp2_with fail
          refine (l11SplitGrowth_any _ _ _ _ _ _ _ _ _ hW hrow.sl rfl).mono ?_
          rintro e w2 ⟨rfl, q2⟩
          go_wp2_with fail
          refine (l11SplitGrowth_any _ _ _ _ _ _ _ _ _ (hW.qt q2) (ho.fr q2.fr).sl rfl).mono ?_
          rintro e w3 ⟨rfl, q3⟩
          have hcell3 := (q2.trans q3).fr.keep hcell
          go_wp2
          go_roundw
          case rel => exact ⟨j + 1, p, mm, c, by omega, by omega, by go_num, rfl, by rw [HC.out]; exact ho.fr (q2.trans q3).fr, hq.trans (q2.trans q3)⟩
          case measure => simp [intOf]; omega
      · go_wp2
        go_ret2
        obtain rfl : j = n1 := by omega
        rw [bsV, HB.out, HL.out, cond_true, Hn1.out]
        refine ⟨_, _, _, rfl, ho, f1.trans hq.fr, ?_⟩
        have := ho.len
        have := HLR.out _ (show bI ws (splitsM (n - 1) m.toNat) j < j by have := bI_le ws (splitsM (n - 1) m.toNat) j; omega)
        omega
  all_goals
    have HB := Lib.hid (show bsOk ws m = _ from by rw [bsOk, h1, h2])
    go_enter Try.func23, Try.ntmps23
    go_wp2_with (first
      | (go_at_call 44; refine (l11Race_any _ _ _ _ _ h).mono ?_; rintro e w' ⟨rfl, rfl⟩)
      | (go_at_call 37; refine (l1In_any _ _ _ _).mono ?_; rintro e w' ⟨rfl, rfl⟩))
    go_ret2
    rw [bsV, HB.out]
    exact ⟨_, _, _, rfl, Own.made0 _ (Nat.le_refl _), (Fr.refl _).alloc _, by omega⟩

theorem impl_BestSplit_any (w : World) (a : Option Addr) (n cap : Nat) (ws : List Int) (m : Int) (h : SL w a n cap ws) (_ : I64 m) :
    Calls Try.prog 24 #[.slice a n cap, .int .i64 m] w (RetSB (bsV ws m) (bsOk ws m) w) := by
  have Hl := Lib.hid h.len
  cases h1 : raceB ws <;> cases h2 : inB m 0 12
  case true.true =>
    have hb : bsOk ws m = true := by rw [bsOk, h1, h2]; rfl
    have HB := Lib.hid hb
    clear hb
    obtain ⟨g1, g2, g3⟩ := raceB_iff.1 h1
    rw [Hl.out] at g1 g2
    obtain ⟨k1, k2⟩ := inB_iff.1 h2
    have hL : bsL ws m = splitsM (n - 1) m.toNat := by rw [bsL, Hl.out]
    have HL := Lib.hid hL
    have HP := Lib.hid (splitsM_pos (n - 1) m.toNat)
    have HRL := Lib.hid (splitsM_rows (n - 1) m.toNat)
    clear hL g3
    go_enter Try.func24, Try.ntmps24
    go_wp2_with (first
      | (go_at_call 46; refine (isRace_any _ _ _ _ _ h).mono ?_; rintro e w' ⟨rfl, rfl⟩)
      | (go_at_call 39; refine (within_any _ _ _ _).mono ?_; rintro e w' ⟨rfl, rfl⟩))
    refine (splits_any (n - 1) _ _ _ k1 k2 (by omega) (by omega)).mono ?_
    rintro e w1 ⟨a1, n1, c1, rfl, o1, f1, t1, m1⟩
    have Hn1 := Lib.hid o1.len
    have hn1 : 1 ≤ n1 := by have := HP.out; have := Hn1.out; omega
    have hlenr : ∀ i, i < n1 → (nthL (splitsM (n - 1) m.toNat) i).length = n := fun i hi => by
      have := HRL.out _ (by rw [nthL_eq (by rw [Hn1.out]; exact hi)]; exact List.getElem_mem _ : nthL (splitsM (n - 1) m.toNat) i ∈ _)
      omega
    have HLR := Lib.hid hlenr
    clear hlenr
    obtain ⟨g, _, _, _, rfl, _⟩ := o1.rowAt (i := 0) (by omega)
    have hI1 : Hid (bI ws (splitsM (n - 1) m.toNat) 1 = 0) := Lib.hid (bI_one _ _)
    go_wp2
    go_loopw [6, 22] (fun q i wr => ∃ (j : Nat) (p : Option Addr) (mm c : Nat), j ≤ n1 ∧ i = .int .i64 j ∧ q = .slice p mm c ∧ ((j = 0 ∧ p = none ∧ mm = 0 ∧ c = 0) ∨ (1 ≤ j ∧ Own w.heap.size wr p mm c (nthL (splitsM (n - 1) m.toNat) (bI ws (splitsM (n - 1) m.toNat) j)))) ∧ Fr w1 wr) (fun _ i _ => n1 - (intOf i).toNat)
    case atStart => exact ⟨0, none, 0, 0, by omega, rfl, rfl, .inl ⟨rfl, rfl, rfl, rfl⟩, Fr.refl _⟩
    case round =>
      obtain ⟨j, p, mm, c, hj, rfl, rfl, hcase, hq⟩ := hrel
      have hnil := fun w => Lib.run_eql_slice_nil (P := Try.prog) w 33 3 p mm c 0 0 Try.underlying33
      by_cases hjt : j < n1
      · have hW := h.fr (f1.trans hq)
        rcases hcase with ⟨rfl, rfl, rfl, rfl⟩ | ⟨hj1, ho⟩
        · obtain ⟨g', p3, m3, c3, hg', hcell, hrow, _, _, _⟩ := (o1.fr hq).rowAt (i := 0) hjt
          obtain rfl : g = g' := by simpa using hg'
          have hm3 : m3 = n := by rw [← hrow.len]; exact HLR.out 0 hjt
          subst hm3
          go_wp2
          go_roundw
          case rel => exact ⟨1, p3, m3, c3, by omega, by go_num, rfl, .inr ⟨Nat.le_refl _, by rw [hI1.out]; exact hrow⟩, hq⟩
          case measure => simp [intOf]; omega
        · obtain ⟨g', p3, m3, c3, hg', hcell, hrow, _, _, _⟩ := (o1.fr hq).rowAt (i := j) hjt
          obtain rfl : g = g' := by simpa using hg'
          have hle := bI_le ws (splitsM (n - 1) m.toNat) j
          have hm3 : m3 = n := by rw [← hrow.len]; exact HLR.out j hjt
          have hmm : mm = n := by rw [← ho.len]; exact HLR.out _ (by omega)
          subst hm3
          subst hmm
          obtain ⟨gb, rfl, _⟩ := ho.op (by omega)
          by_cases hcm : sgW ws (nthL (splitsM (mm - 1) m.toNat) (bI ws (splitsM (mm - 1) m.toNat) j)) mm < sgW ws (nthL (splitsM (mm - 1) m.toNat) j) mm
          · have HC : Hid (bI ws (splitsM (mm - 1) m.toNat) (j + 1) = j) := Lib.hid (bI_yes (by rw [Hl.out]; exact hcm))
            go_wp2_with fail
            refine (splitGrowth_any _ _ _ _ _ _ _ _ _ hW hrow.sl rfl).mono ?_
            rintro e w2 ⟨rfl, rfl⟩
            go_wp2_with fail
            refine (splitGrowth_any _ _ _ _ _ _ _ _ _ hW ho.sl rfl).mono ?_
            rintro e w3 ⟨rfl, rfl⟩
            go_wp2
            go_roundw
            case rel => exact ⟨j + 1, p3, mm, c3, by omega, by go_num, rfl, .inr ⟨by omega, by rw [HC.out]; exact hrow⟩, hq⟩
            case measure => simp [intOf]; omega
          · have HC : Hid (bI ws (splitsM (mm - 1) m.toNat) (j + 1) = bI ws (splitsM (mm - 1) m.toNat) j) := Lib.hid (bI_no (by rw [Hl.out]; exact hcm))
            go_wp2_with fail
            refine (splitGrowth_any _ _ _ _ _ _ _ _ _ hW hrow.sl rfl).mono ?_
            rintro e w2 ⟨rfl, rfl⟩
            go_wp2_with fail
            refine (splitGrowth_any _ _ _ _ _ _ _ _ _ hW ho.sl rfl).mono ?_
            rintro e w3 ⟨rfl, rfl⟩
            go_wp2
            go_roundw
            case rel => exact ⟨j + 1, _, mm, c, by omega, by go_num, rfl, .inr ⟨by omega, by rw [HC.out]; exact ho⟩, hq⟩
            case measure => simp [intOf]; omega
      · go_wp2
        go_ret2
        obtain rfl : j = n1 := by omega
        rcases hcase with ⟨hj0, _⟩ | ⟨hj1, ho⟩
        · omega
        rw [bsV, HB.out, HL.out, cond_true, Hn1.out]
        refine ⟨_, _, _, rfl, ho, f1.trans hq, ?_⟩
        have := ho.len
        have := HLR.out _ (show bI ws (splitsM (n - 1) m.toNat) j < j by have := bI_le ws (splitsM (n - 1) m.toNat) j; omega)
        omega
  all_goals
    have HB := Lib.hid (show bsOk ws m = _ from by rw [bsOk, h1, h2])
    go_enter Try.func24, Try.ntmps24
    go_wp2_with (first
      | (go_at_call 46; refine (isRace_any _ _ _ _ _ h).mono ?_; rintro e w' ⟨rfl, rfl⟩)
      | (go_at_call 39; refine (within_any _ _ _ _).mono ?_; rintro e w' ⟨rfl, rfl⟩))
    go_ret2
    rw [bsV, HB.out]
    exact ⟨none, 0, 0, rfl, ⟨World.ownsRow_nil _ _ _ _, by simp⟩, Fr.refl _, by omega⟩

end Go.Proofs.Ytfjonnpaoeillaa
