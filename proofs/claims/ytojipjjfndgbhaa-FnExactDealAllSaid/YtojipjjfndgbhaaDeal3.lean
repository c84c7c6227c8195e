import Derived.Test.YtojipjjfndgbhaaDeal2
/- Contracts of the reference's deals: l12May, l12Make. -/
set_option linter.unusedVariables false
namespace Go.Proofs.Ytojipjjfndgbhaa
open Go.ChangeShapes Go.WideShapes Go.ChangeAt Go.RowKit

theorem l12Node_any (w : World) (p q a : Option Addr) (n c m d l b : Nat) (P W X : List Int) (x s u v y : Int) (hX : SL w a l b X) :
    Calls Try.prog 143 #[.agg #[.slice p n c, .slice q m d, .slice a l b, .int .i64 x, .int .i64 s, .int .i64 u, .int .i64 v], .int .i64 y] w fun e w' => e = .returned (.bool (inB y 0 ((l : Int) - 1))) ∧ Fr w w' := by
  have hl : l ≤ 9223372036854775807 := by have := hX.le; have := hX.mx; omega
  go_enter Try.func143, Try.ntmps143
  go_wp2_with (go_at_call 88; refine (l1In_any _ _ _ _).mono ?_; rintro e w' ⟨rfl, rfl⟩)
  go_ret
  exact ⟨rfl, (Fr.refl _).alloc _⟩

set_option maxRecDepth 100000 in
set_option maxHeartbeats 4000000 in
theorem l12May_any (w : World) (p q a : Option Addr) (n c m d l b : Nat) (P W X : List Int) (x s u v kd A B : Int) (hP : SL w p n c P) (hW : SL w q m d W) (hX : SL w a l b X) (h : houseB P W X x s u v = true) :
    Calls Try.prog 131 #[.agg #[.slice p n c, .slice q m d, .slice a l b, .int .i64 x, .int .i64 s, .int .i64 u, .int .i64 v], .agg #[.int .i64 kd, .int .i64 A, .int .i64 B]] w fun e w' => e = .returned (.bool (mayB P x kd A B)) ∧ Fr w w' := by
  have HP := Lib.hid hP.len; have HW := Lib.hid hW.len; have HX := Lib.hid hX.len
  have hfr : Fr w ((w.alloc (.cells #[.slice p n c, .slice q m d, .slice a l b, .int .i64 x, .int .i64 s, .int .i64 u, .int .i64 v] 31)).alloc (.cells #[.int .i64 kd, .int .i64 A, .int .i64 B] 58)) := ((Fr.refl w).alloc _).alloc _
  have hb0 := (Blk.new w #[.slice p n c, .slice q m d, .slice a l b, .int .i64 x, .int .i64 s, .int .i64 u, .int .i64 v] 31).alloc (.cells #[.int .i64 kd, .int .i64 A, .int .i64 B] 58)
  have hb1 := Blk.new (w.alloc (.cells #[.slice p n c, .slice q m d, .slice a l b, .int .i64 x, .int .i64 s, .int .i64 u, .int .i64 v] 31)) #[.int .i64 kd, .int .i64 A, .int .i64 B] 58
  simp only [World.size_alloc] at hb1
  have H0 := Lib.hid hb0; have H1 := Lib.hid hb1
  clear hb0 hb1
  obtain ⟨t1, t2, t3, t4⟩ := houseB_parts h
  have Ht := Lib.hid t1
  obtain ⟨g1, g2, g3, -⟩ := treeB_iff.1 t1
  have Hp := Lib.hid g3
  have hml : m = n := by rw [← HW.out, g2, HP.out]
  have hll : l = n := by rw [← HX.out, (procB_iff.1 t2).1, HP.out]
  subst hml; subst hll
  rw [HP.out] at g1 t4
  obtain ⟨y, rfl⟩ := Int.eq_ofNat_of_zero_le t3
  have i0 : (0 : Int) ≤ (y : Int) := by omega
  clear t1 t2 t3 g2 g3 h
  have m0 := H0.out.cell (j := 0) rfl; have m1 := H0.out.cell (j := 1) rfl; have m2 := H0.out.cell (j := 2) rfl; have m3 := H0.out.cell (j := 3) rfl; have m4 := H0.out.cell (j := 4) rfl; have m5 := H0.out.cell (j := 5) rfl; have m6 := H0.out.cell (j := 6) rfl
  have n0 := H1.out.cell (j := 0) rfl; have n1 := H1.out.cell (j := 1) rfl; have n2 := H1.out.cell (j := 2) rfl
  have hP1 := hP.fr hfr; have hW1 := hW.fr hfr; have hX1 := hX.fr hfr
  have zz := hfr.size
  generalize hw1 : ((w.alloc (.cells #[.slice p l c, .slice q l d, .slice a l b, .int .i64 y, .int .i64 s, .int .i64 u, .int .i64 v] 31)).alloc (.cells #[.int .i64 kd, .int .i64 A, .int .i64 B] 58)) = w1 at H0 H1 hfr m0 m1 m2 m3 m4 m5 m6 n0 n1 n2 hP1 hW1 hX1 zz
  by_cases k1 : kd = 1
  · subst k1
    by_cases hB0 : B = 0
    · subst hB0
      have HM : Hid (mayB P y 1 A 0 = decide (A ∈ kidsTo P y l)) := Lib.hid (by
        show ((0 == 0) && decide (A ∈ kidsTo P (y : Int).toNat P.length)) = _
        rw [Int.toNat_natCast, HP.out]; rfl)
      go_enter Try.func131, Try.ntmps131
      go_wp2
      go_region_held3 (fun w' => w'.cell? ⟨w.heap.size, 0, none⟩ = some (.slice p l c) ∧ w'.cell? ⟨w.heap.size, 1, none⟩ = some (.slice q l d) ∧ w'.cell? ⟨w.heap.size, 3, none⟩ = some (.int .i64 y) ∧ w'.cell? ⟨w.heap.size + 1, 1, none⟩ = some (.int .i64 A) ∧ w'.cell? ⟨w.heap.size + 1, 2, none⟩ = some (.int .i64 0))
        (first
          | go_keep
          | (exact ⟨f5.keep m0, f5.keep m1, f5.keep m3, f5.keep n1, f5.keep n2⟩))
        (first
          | (go_at_call 136; refine (l2Kids_any _ _ _ _ _ _ _ y P (hP1.fr (Fr.drewN _ 1)) Hp.out (by omega) (by omega)).mono ?_; rintro e w5 ⟨a5, n5, c5, rfl, o5, f5, _⟩)
          | (go_at_call 142; refine (l1Has_any _ _ _ _ _ A o5.sl).mono ?_; rintro e w6 ⟨rfl, rfl⟩))
      have F5 : Fr w1 w5 := (Fr.drewN _ 1).trans f5
      go_wp2
      go_ret
      exact ⟨by rw [HM.out]; rfl, hfr.trans F5⟩
    · have HM : Hid (mayB P y 1 A B = false) := Lib.hid (by
        show ((B == 0) && decide (A ∈ kidsTo P (y : Int).toNat P.length)) = false
        rw [beq_eq_false_iff_ne.2 hB0]; rfl)
      have hb0 : (B == 0) = false := by simp [hB0]
      clear hB0
      go_enter Try.func131, Try.ntmps131
      go_wp2
      go_quiet (fail)
      go_wp2
      go_ret
      exact ⟨by rw [HM.out]; rfl, hfr.drew' _⟩
  by_cases k2 : kd = 2
  · subst k2
    have HM : Hid (mayB P y 2 A B = (B == 0)) := Lib.hid rfl
    clear m0 m1 m2 m3 m4 m5 m6 n0 n1 n2 hw1
    go_enter Try.func131, Try.ntmps131
    go_wp2
    go_ret
    exact ⟨by rw [HM.out]; rfl, ((Fr.refl w).alloc _).alloc _⟩
  by_cases k3 : kd = 3
  · subst k3
    have HM : Hid (mayB P y 3 A B = ((B == 0) && inB A (-999) 999)) := Lib.hid rfl
    clear m0 m1 m2 m3 m4 m5 m6 n0 n1 n2 hw1
    cases hb : (B == 0) <;> cases hi : inB A (-999) 999
    all_goals
      have HM2 := Lib.hid (show mayB P y 3 A B = _ from by rw [HM.out, hb, hi])
      go_enter Try.func131, Try.ntmps131
      go_wp2_with (go_at_call 88; refine (l1In_any _ _ _ _).mono ?_; rintro e w' ⟨rfl, rfl⟩)
      go_ret
      exact ⟨by rw [HM2.out]; rfl, ((Fr.refl w).alloc _).alloc _⟩
  by_cases k4 : kd = 4
  · subst k4
    have HM : Hid (mayB P y 4 A B = ((A == 0) && (B == 0))) := Lib.hid rfl
    clear m0 m1 m2 m3 m4 m5 m6 n0 n1 n2 hw1
    cases hb : (A == 0) <;> cases hi : (B == 0)
    all_goals
      have HM2 := Lib.hid (show mayB P y 4 A B = _ from by rw [HM.out, hb, hi])
      go_enter Try.func131, Try.ntmps131
      go_wp2
      go_ret
      exact ⟨by rw [HM2.out]; rfl, ((Fr.refl w).alloc _).alloc _⟩
  by_cases k5 : kd = 5
  · subst k5
    have HM : Hid (mayB P y 5 A B = inB A 0 ((l : Int) - 1)) := Lib.hid (by rw [← HP.out]; rfl)
    subst hw1
    go_enter Try.func131, Try.ntmps131
    go_wp2_with fail
    refine (l12Node_any _ _ _ _ _ _ _ _ _ _ P W X _ _ _ _ A hX1).mono ?_
    rintro e w5 ⟨rfl, f5⟩
    go_wp2
    go_ret
    exact ⟨by rw [HM.out]; rfl, hfr.trans f5⟩
  by_cases k6 : kd = 6
  · subst k6
    have HM : Hid (mayB P y 6 A B = (inB A 0 ((l : Int) - 1) && decide (0 < nth W A.toNat))) := Lib.hid (by
      show decide (A ∈ endsM P) = _
      rw [Bool.eq_iff_iff, decide_eq_true_eq, ends_wei Ht.out, HP.out, Bool.and_eq_true, decide_eq_true_eq])
    subst hw1
    go_enter Try.func131, Try.ntmps131
    go_wp2_with fail
    refine (l12Node_any _ _ _ _ _ _ _ _ _ _ P W X _ _ _ _ A hX1).mono ?_
    rintro e w5 ⟨rfl, f5⟩
    cases hi : inB A 0 ((l : Int) - 1)
    · have HM2 : Hid (mayB P y 6 A B = false) := Lib.hid (by rw [HM.out, hi]; rfl)
      go_wp2
      go_ret
      exact ⟨by rw [HM2.out]; rfl, hfr.trans f5⟩
    · obtain ⟨ha0, ha1⟩ := inB_iff.1 hi
      obtain ⟨z, rfl⟩ := Int.eq_ofNat_of_zero_le ha0
      have hzl : z < l := by omega
      have HM2 : Hid (mayB P y 6 z B = decide (0 < nth W z)) := Lib.hid (by rw [HM.out, hi]; rfl)
      obtain ⟨bw, ow, rfl, hcw⟩ := (hW1.fr f5).cells.resolve_left (by omega)
      replace hcw := hcw z hzl
      have n1' := (H1.out.fr f5).cell (j := 1) rfl
      have m1' := (H0.out.fr f5).cell (j := 1) rfl
      clear m0 m1 m2 m3 m4 m5 m6 n0 n1 n2
      go_wp2
      go_ret
      exact ⟨by rw [HM2.out]; rfl, hfr.trans f5⟩
  have HM : Hid (mayB P y kd A B = false) := Lib.hid (by rw [mayB, if_neg k1, if_neg k2, if_neg k3, if_neg k4, if_neg k5, if_neg k6])
  have b1 : (kd == 1) = false := by simp [k1]
  have b2' : (kd == 2) = false := by simp [k2]
  have b3 : (kd == 3) = false := by simp [k3]
  have b4 : (kd == 4) = false := by simp [k4]
  have b5 : (kd == 5) = false := by simp [k5]
  have b6 : (kd == 6) = false := by simp [k6]
  clear k1 k2 k3 k4 k5 k6 m0 m1 m2 m3 m4 m5 m6 n0 n1 n2 hw1
  go_enter Try.func131, Try.ntmps131
  go_wp2
  go_ret
  exact ⟨by rw [HM.out]; rfl, ((Fr.refl w).alloc _).alloc _⟩

end Go.Proofs.Ytojipjjfndgbhaa
