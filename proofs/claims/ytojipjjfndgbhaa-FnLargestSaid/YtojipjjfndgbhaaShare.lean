import Derived.Test.YtojipjjfndgbhaaLists
/- Contracts of chapter 11's bets and shares. -/
set_option linter.unusedVariables false
namespace Go.Proofs.Ytojipjjfndgbhaa
open Go.ChangeShapes Go.WideShapes Go.ChangeAt Go.RowKit

def luckB (w l : Int) : Bool := inB w 0 4 && inB l 0 4 && decide (0 < w + l)
theorem luckB_iff {w l : Int} : luckB w l = true ↔ (0 ≤ w ∧ w ≤ 4) ∧ (0 ≤ l ∧ l ≤ 4) ∧ 0 < w + l := by
  simp [luckB, inB_iff, and_assoc]

def betB (a b w l : Int) : Bool := inB a 1 9 && inB b 1 9 && luckB w l
theorem betB_iff {a b w l : Int} : betB a b w l = true ↔ (1 ≤ a ∧ a ≤ 9) ∧ (1 ≤ b ∧ b ≤ 9) ∧ (0 ≤ w ∧ w ≤ 4) ∧ (0 ≤ l ∧ l ≤ 4) ∧ 0 < w + l := by
  simp [betB, inB_iff, luckB_iff, and_assoc]

/-- a to the power of k, as the machine reckons it. -/
def powW (a : Int) : Nat → Int
  | 0 => 1
  | k + 1 => wrap64 (powW a k * a)

def cmpI (p q : Int) : Int := if p < q then -1 else if q < p then 1 else 0

theorem gcd_step (a b : Int) : Int.gcd b (a.tmod b) = Int.gcd a b := by
  unfold Int.gcd; rw [Int.natAbs_tmod, Nat.gcd_comm b.natAbs, ← Nat.gcd_rec b.natAbs a.natAbs, Nat.gcd_comm]

theorem tmod_bd (a b : Int) (hb : b ≠ 0) : (a.tmod b).natAbs < b.natAbs := by
  rw [Int.natAbs_tmod]; exact Nat.mod_lt _ (by omega)

theorem commonDivisor_any (a b : Int) (w : World) (ha : -9223372036854775807 ≤ a ∧ a ≤ 9223372036854775807) (hb : -9223372036854775807 ≤ b ∧ b ≤ 9223372036854775807) :
    Calls Try.prog 130 #[.int .i64 a, .int .i64 b] w fun e w' => e = .returned (.int .i64 (Int.gcd a b : Nat)) ∧ Fr w w' := by
  go_enter Try.func130, Try.ntmps130
  go_wp2
  go_loopw [0, 1] (fun p q wr => ∃ c d : Int, p = .int .i64 c ∧ q = .int .i64 d ∧ Hid (Int.gcd c d = Int.gcd a b) ∧ (-9223372036854775807 ≤ c ∧ c ≤ 9223372036854775807) ∧ (-9223372036854775807 ≤ d ∧ d ≤ 9223372036854775807) ∧ Fr w wr) (fun _ q _ => (intOf q).natAbs)
  case atStart => exact ⟨a, b, rfl, rfl, Lib.hid rfl, ha, hb, Fr.refl _⟩
  case round =>
    obtain ⟨c, d, rfl, rfl, hg, hc, hd, hf⟩ := hrel
    clear ha hb
    by_cases h0 : d = 0
    · subst h0
      go_wp2
      all_goals (go_ret; exact ⟨ret_int (by rw [← hg.out]; simp; omega), hf⟩)
    · have hz : (d == 0) = false := by simpa using h0
      have hm := tmod_bd c d h0
      have hs := Lib.hid (gcd_step c d)
      clear h0
      go_wp2
      go_quiet (fail)
      go_wp2
      go_roundw
      case rel => exact ⟨_, _, rfl, rfl, Lib.hid (by rw [hs.out, hg.out]), hd, by omega, hf.drew' _⟩
      case measure => simp only [intOf]; exact hm

theorem l2Gcd_any (a b : Int) (w : World) (ha : 0 ≤ a ∧ a ≤ 9223372036854775807) (hb : 0 ≤ b ∧ b ≤ 9223372036854775807) :
    Calls Try.prog 139 #[.int .i64 a, .int .i64 b] w fun e w' => e = .returned (.int .i64 (Int.gcd a b : Nat)) ∧ Fr w w' := by
  go_enter Try.func139, Try.ntmps139
  go_wp2
  go_loopw [0, 1] (fun p q wr => ∃ c d : Int, p = .int .i64 c ∧ q = .int .i64 d ∧ Hid (Int.gcd c d = Int.gcd a b) ∧ (0 ≤ c ∧ c ≤ 9223372036854775807) ∧ (0 ≤ d ∧ d ≤ 9223372036854775807) ∧ Fr w wr) (fun _ q _ => (intOf q).natAbs)
  case atStart => exact ⟨a, b, rfl, rfl, Lib.hid rfl, ha, hb, Fr.refl _⟩
  case round =>
    obtain ⟨c, d, rfl, rfl, hg, hc, hd, hf⟩ := hrel
    clear ha hb
    by_cases h0 : 0 < d
    · have h1 := Int.emod_nonneg c (show d ≠ 0 by omega)
      have h2 := Int.emod_lt_of_pos c h0
      have hs : Hid (Int.gcd d (c % d) = Int.gcd c d) := Lib.hid (by rw [← gcd_step c d, Int.tmod_eq_emod_of_nonneg hc.1])
      go_wp2
      go_quiet (fail)
      go_wp2
      go_roundw
      case rel => exact ⟨_, _, rfl, rfl, Lib.hid (by rw [hs.out, hg.out]), hd, by omega, hf.drew' _⟩
      case measure => simp only [intOf]; omega
    · have : d = 0 := by omega
      subst this
      go_wp2
      go_ret
      exact ⟨ret_int (by rw [← hg.out]; simp; omega), hf⟩

/-- A quotient in lowest terms. -/
def lowP (a b : Int) : Int := a.tdiv (Int.gcd a b : Nat)
def lowQ (a b : Int) : Int := b.tdiv (Int.gcd a b : Nat)
def lowOk (a b : Int) : Bool := inB (lowP a b) (-1000000000) 1000000000 && decide (lowQ a b ≤ 1000000)
def lowA (a b : Int) : Int := bif lowOk a b then lowP a b else 0
def lowB (a b : Int) : Int := bif lowOk a b then lowQ a b else 0

theorem gcd_pos {a b : Int} (hb : 0 < b) : 1 ≤ (Int.gcd a b : Int) ∧ (Int.gcd a b : Int) ≤ b := by
  have h1 : 0 < Int.gcd a b := Int.gcd_pos_of_ne_zero_right a (by omega)
  have h2 : (Int.gcd a b : Int) ∣ b := Int.gcd_dvd_right a b
  have h3 := Int.le_of_dvd hb h2
  omega

theorem tdiv_rng {a d : Int} (ha : -9223372036854775807 ≤ a ∧ a ≤ 9223372036854775807) (hd : 1 ≤ d) : -9223372036854775807 ≤ a.tdiv d ∧ a.tdiv d ≤ 9223372036854775807 := by
  have h : (a.tdiv d).natAbs ≤ a.natAbs := by rw [Int.natAbs_tdiv]; exact Nat.div_le_self _ _
  omega

theorem lowest_any (a b : Int) (w : World) (ha : -9223372036854775807 ≤ a ∧ a ≤ 9223372036854775807) (hb : 0 < b ∧ b ≤ 9223372036854775807) :
    Calls Try.prog 90 #[.int .i64 a, .int .i64 b] w fun e w' => e = .returned (.tuple #[.agg #[.int .i64 (lowA a b), .int .i64 (lowB a b)], .bool (lowOk a b)]) ∧ Fr w w' := by
  have hg := gcd_pos (a := a) hb.1
  have hp := tdiv_rng ha hg.1
  have hq := tdiv_rng (a := b) (by omega) hg.1
  have hp' : -9223372036854775807 ≤ lowP a b ∧ lowP a b ≤ 9223372036854775807 := hp
  have hq' : -9223372036854775807 ≤ lowQ a b ∧ lowQ a b ≤ 9223372036854775807 := hq
  have hz : ((Int.gcd a b : Nat) : Int) ≠ 0 := by omega
  have hz' : (((Int.gcd a b : Nat) : Int) == 0) = false := by simpa using hz
  cases h1 : inB (a.tdiv (Int.gcd a b : Nat)) (-1000000000) 1000000000 with
  | false =>
    have H1 := Lib.hid h1
    have HV : Hid (lowA a b = 0) := Lib.hid (by simp [lowA, lowOk, lowP, lowQ, h1])
    have HW : Hid (lowB a b = 0) := Lib.hid (by simp [lowB, lowOk, lowP, lowQ, h1])
    have HO : Hid (lowOk a b = false) := Lib.hid (by simp [lowOk, lowP, lowQ, h1])
    go_enter Try.func90, Try.ntmps90
    go_wp2_with fail
    refine (commonDivisor_any _ _ _ ha (by omega)).mono ?_
    rintro e w1 ⟨rfl, f1⟩
    have c0 := f1.newCell (j := 0) rfl
    have c1 := f1.newCell (j := 1) rfl
    have c2 := f1.newFree 0
    have c3 := f1.newFree 1
    have c4 := f1.newSize
    go_wp2
    go_quiet (fail)
    go_wp2_with (go_at_call 72; refine (within_any _ _ _ _).mono ?_; rintro e w' ⟨rfl, rfl⟩)
    refine bodyPost_ret (v := .tuple #[.agg #[.int .i64 0, .int .i64 0], .bool false]) (by simp [results, Try.results90, go_sem, c0, c1]) rfl ⟨by rw [HV.out, HW.out, HO.out], ?_⟩
    exact (((((Fr.refl w).alloc _).trans f1).drew' _).setCell (Nat.le_refl _) _).setCell (Nat.le_refl _) _
  | true =>
    by_cases h2 : b.tdiv (Int.gcd a b : Nat) ≤ 1000000
    · have HV : Hid (lowA a b = (a.tdiv (Int.gcd a b : Nat))) := Lib.hid (by simp [lowA, lowOk, lowP, lowQ, h1, h2])
      have HW : Hid (lowB a b = (b.tdiv (Int.gcd a b : Nat))) := Lib.hid (by simp [lowB, lowOk, lowP, lowQ, h1, h2])
      have HO : Hid (lowOk a b = true) := Lib.hid (by simp [lowOk, lowP, lowQ, h1, h2])
      go_enter Try.func90, Try.ntmps90
      go_wp2_with fail
      refine (commonDivisor_any _ _ _ ha (by omega)).mono ?_
      rintro e w1 ⟨rfl, f1⟩
      have c0 := f1.newCell (j := 0) rfl
      have c1 := f1.newCell (j := 1) rfl
      have c2 := f1.newFree 0
      have c3 := f1.newFree 1
      have c4 := f1.newSize
      go_wp2
      go_quiet (fail)
      go_wp2_with (go_at_call 72; refine (within_any _ _ _ _).mono ?_; rintro e w' ⟨rfl, rfl⟩)
      refine bodyPost_ret (v := .tuple #[.agg #[.int .i64 (a.tdiv (Int.gcd a b : Nat)), .int .i64 (b.tdiv (Int.gcd a b : Nat))], .bool true]) (by simp [results, Try.results90, go_sem, c0, c1]) rfl ⟨by rw [HV.out, HW.out, HO.out], ?_⟩
      exact (((((Fr.refl w).alloc _).trans f1).drew' _).setCell (Nat.le_refl _) _).setCell (Nat.le_refl _) _
    · have HV : Hid (lowA a b = 0) := Lib.hid (by simp [lowA, lowOk, lowP, lowQ, h1, h2])
      have HW : Hid (lowB a b = 0) := Lib.hid (by simp [lowB, lowOk, lowP, lowQ, h1, h2])
      have HO : Hid (lowOk a b = false) := Lib.hid (by simp [lowOk, lowP, lowQ, h1, h2])
      go_enter Try.func90, Try.ntmps90
      go_wp2_with fail
      refine (commonDivisor_any _ _ _ ha (by omega)).mono ?_
      rintro e w1 ⟨rfl, f1⟩
      have c0 := f1.newCell (j := 0) rfl
      have c1 := f1.newCell (j := 1) rfl
      have c2 := f1.newFree 0
      have c3 := f1.newFree 1
      have c4 := f1.newSize
      go_wp2
      go_quiet (fail)
      go_wp2_with (go_at_call 72; refine (within_any _ _ _ _).mono ?_; rintro e w' ⟨rfl, rfl⟩)
      refine bodyPost_ret (v := .tuple #[.agg #[.int .i64 0, .int .i64 0], .bool false]) (by simp [results, Try.results90, go_sem, c0, c1]) rfl ⟨by rw [HV.out, HW.out, HO.out], ?_⟩
      exact (((((Fr.refl w).alloc _).trans f1).drew' _).setCell (Nat.le_refl _) _).setCell (Nat.le_refl _) _

theorem l2Abs_any (a : Int) (w : World) (ha : -9223372036854775807 ≤ a ∧ a ≤ 9223372036854775807) :
    Calls Try.prog 140 #[.int .i64 a] w fun e w' => e = .returned (.int .i64 (a.natAbs : Nat)) ∧ w = w' := by
  go_enter Try.func140, Try.ntmps140
  go_wp2_with (go_at_call 128; refine (l1Most_any _ _ _).mono ?_; rintro e w' ⟨rfl, rfl⟩)
  go_ret
  exact ⟨ret_int (by omega), rfl⟩

theorem l2Cut_any (a b : Int) (w : World) (ha : -9223372036854775807 ≤ a ∧ a ≤ 9223372036854775807) (hb : 0 < b ∧ b ≤ 9223372036854775807) :
    Calls Try.prog 123 #[.int .i64 a, .int .i64 b] w fun e w' => e = .returned (.agg #[.int .i64 (lowP a b), .int .i64 (lowQ a b)]) ∧ Fr w w' := by
  have hg := gcd_pos (a := a) hb.1
  have hp := tdiv_rng ha hg.1
  have hq := tdiv_rng (a := b) (by omega) hg.1
  have hz : ((Int.gcd a b : Nat) : Int) ≠ 0 := by omega
  have hz' : (((Int.gcd a b : Nat) : Int) == 0) = false := by simpa using hz
  have HG : Hid (Int.gcd (a.natAbs : Int) b = Int.gcd a b) := Lib.hid (by simp [Int.gcd])
  go_enter Try.func123, Try.ntmps123
  go_wp2_with fail
  refine (l2Abs_any _ _ ha).mono ?_
  rintro e w' ⟨rfl, rfl⟩
  go_wp2_with fail
  refine (l2Gcd_any _ _ _ (by omega) (by omega)).mono ?_
  rintro e w1 ⟨rfl, f1⟩
  rw [HG.out]
  have c0 := f1.newCell (j := 0) rfl
  have c1 := f1.newCell (j := 1) rfl
  have c2 := f1.newFree 0
  have c3 := f1.newFree 1
  have c4 := f1.newSize
  go_wp2
  go_region
  go_wp2
  refine bodyPost_ret (v := .agg #[.int .i64 (a.tdiv (Int.gcd a b : Nat)), .int .i64 (b.tdiv (Int.gcd a b : Nat))]) (by simp [results, Try.results123, go_sem, c0, c1]) rfl ⟨rfl, ?_⟩
  exact ((((Fr.refl w).alloc _).trans f1).drew' 1 |>.setCell (Nat.le_refl _) _).setCell (Nat.le_refl _) _

theorem eqIntA2_same (p q : Int) (w : World) :
    Calls Try.prog 33 #[.agg #[.int .i64 p, .int .i64 q], .agg #[.int .i64 p, .int .i64 q]] w fun e w' => e = .returned (.bool true) ∧ Fr w w' := by
  go_enter Try.func33, Try.ntmps33
  go_wp2
  have hf : Fr w ((w.alloc (.cells #[.int .i64 p, .int .i64 q] 46)).alloc (.cells #[.int .i64 p, .int .i64 q] 46)) := ((Fr.refl w).alloc _).alloc _
  go_loopw [5] (fun i wr => ∃ k : Nat, k ≤ 2 ∧ i = .int .i64 k ∧ Fr ((w.alloc (.cells #[.int .i64 p, .int .i64 q] 46)).alloc (.cells #[.int .i64 p, .int .i64 q] 46)) wr) (fun i _ => 2 - (intOf i).toNat)
  case atStart => exact ⟨0, by omega, rfl, Fr.refl _⟩
  case round =>
    obtain ⟨k, hk, rfl, hf2⟩ := hrel
    have a0 := hf2.newCell (j := 0) rfl
    have a1 := hf2.newCell (j := 1) rfl
    rw [World.size_alloc] at a0 a1
    have b0 := ((Fr.refl _).alloc _ |>.trans hf2).newCell (w := w) (j := 0) rfl
    have b1 := ((Fr.refl _).alloc _ |>.trans hf2).newCell (w := w) (j := 1) rfl
    rcases (show k = 0 ∨ k = 1 ∨ k = 2 by omega) with rfl | rfl | rfl
    · go_wp2
      go_quiet (fail)
      go_wp2
      go_roundw
      case rel => exact ⟨1, by omega, by go_num, hf2.drew' _⟩
      case measure => simp [intOf]
    · go_wp2
      go_quiet (fail)
      go_wp2
      go_roundw
      case rel => exact ⟨2, by omega, by go_num, hf2.drew' _⟩
      case measure => simp [intOf]
    · go_wp2
      go_ret
      exact ⟨rfl, hf.trans hf2⟩

end Go.Proofs.Ytojipjjfndgbhaa
