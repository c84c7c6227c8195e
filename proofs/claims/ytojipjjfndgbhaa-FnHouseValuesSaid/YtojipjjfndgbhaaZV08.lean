import Derived.Test.YtojipjjfndgbhaaZV07
import Derived.Deep.RegionHeld3
import Derived.Deep.DeepCutAuto
import Derived.Test.YtojipjjfndgbhaaZV02
/- Contracts of the reference's deals: l12May, l12Make. -/
set_option linter.unusedVariables false
namespace Go.Proofs.Ytojipjjfndgbhaa
open Go.ChangeShapes Go.WideShapes Go.ChangeAt Go.RowKit

theorem l12Node_any (w : World) (p q a : Option Addr) (n c m d l b : Nat) (P W X : List Int) (x s u v y : Int) (hX : SL w a l b X) :
    Calls Try.prog 143 #[.agg #[.slice p n c, .slice q m d, .slice a l b, .int .i64 x, .int .i64 s, .int .i64 u, .int .i64 v], .int .i64 y] w fun e w' => e = .returned (.bool (inB y 0 ((l : Int) - 1))) ∧ Fr w w' := by
  have hl : l ≤ 9223372036854775807 := by have := hX.le; have := hX.mx; omega
  go_enter Try.func143, Try.ntmps143
  go_wp2_with (go_at_call 88; refine (l1In_any _ _ _ _).mono ?_; rintro e w' ⟨rfl, rfl⟩)
  go_ret
  exact ⟨rfl, (Fr.refl _).alloc _⟩

set_option maxRecDepth 100000 in
set_option maxHeartbeats 4000000 in
theorem l12May_any (w : World) (p q a : Option Addr) (n c m d l b : Nat) (P W X : List Int) (x s u v kd A B : Int) (hP : SL w p n c P) (hW : SL w q m d W) (hX : SL w a l b X) (h : houseB P W X x s u v = true) :
    Calls Try.prog 131 #[.agg #[.slice p n c, .slice q m d, .slice a l b, .int .i64 x, .int .i64 s, .int .i64 u, .int .i64 v], .agg #[.int .i64 kd, .int .i64 A, .int .i64 B]] w fun e w' => e = .returned (.bool (mayB P x kd A B)) ∧ Fr w w' := by
  have HP := Lib.hid hP.len; have HW := Lib.hid hW.len; have HX := Lib.hid hX.len
  have hfr : Fr w ((w.alloc (.cells #[.slice p n c, .slice q m d, .slice a l b, .int .i64 x, .int .i64 s, .int .i64 u, .int .i64 v] 31)).alloc (.cells #[.int .i64 kd, .int .i64 A, .int .i64 B] 58)) := ((Fr.refl w).alloc _).alloc _
  have hb0 := (Blk.new w #[.slice p n c, .slice q m d, .slice a l b, .int .i64 x, .int .i64 s, .int .i64 u, .int .i64 v] 31).alloc (.cells #[.int .i64 kd, .int .i64 A, .int .i64 B] 58)
  have hb1 := Blk.new (w.alloc (.cells #[.slice p n c, .slice q m d, .slice a l b, .int .i64 x, .int .i64 s, .int .i64 u, .int .i64 v] 31)) #[.int .i64 kd, .int .i64 A, .int .i64 B] 58
  simp only [World.size_alloc] at hb1
  have H0 := Lib.hid hb0; have H1 := Lib.hid hb1
  clear hb0 hb1
  obtain ⟨t1, t2, t3, t4⟩ := houseB_parts h
  have Ht := Lib.hid t1
  obtain ⟨g1, g2, g3, -⟩ := treeB_iff.1 t1
  have Hp := Lib.hid g3
  have hml : m = n := by rw [← HW.out, g2, HP.out]
  have hll : l = n := by rw [← HX.out, (procB_iff.1 t2).1, HP.out]
  subst hml; subst hll
  rw [HP.out] at g1 t4
  obtain ⟨y, rfl⟩ := Int.eq_ofNat_of_zero_le t3
  have i0 : (0 : Int) ≤ (y : Int) := by omega
  clear t1 t2 t3 g2 g3 h
  have m0 := H0.out.cell (j := 0) rfl; have m1 := H0.out.cell (j := 1) rfl; have m2 := H0.out.cell (j := 2) rfl; have m3 := H0.out.cell (j := 3) rfl; have m4 := H0.out.cell (j := 4) rfl; have m5 := H0.out.cell (j := 5) rfl; have m6 := H0.out.cell (j := 6) rfl
  have n0 := H1.out.cell (j := 0) rfl; have n1 := H1.out.cell (j := 1) rfl; have n2 := H1.out.cell (j := 2) rfl
  have hP1 := hP.fr hfr; have hW1 := hW.fr hfr; have hX1 := hX.fr hfr
  have zz := hfr.size
  generalize hw1 : ((w.alloc (.cells #[.slice p l c, .slice q l d, .slice a l b, .int .i64 y, .int .i64 s, .int .i64 u, .int .i64 v] 31)).alloc (.cells #[.int .i64 kd, .int .i64 A, .int .i64 B] 58)) = w1 at H0 H1 hfr m0 m1 m2 m3 m4 m5 m6 n0 n1 n2 hP1 hW1 hX1 zz
  by_cases k1 : kd = 1
  · subst k1
    by_cases hB0 : B = 0
    · subst hB0
      have HM : Hid (mayB P y 1 A 0 = decide (A ∈ kidsTo P y l)) := Lib.hid (by
        show ((0 == 0) && decide (A ∈ kidsTo P (y : Int).toNat P.length)) = _
        rw [Int.toNat_natCast, HP.out]; rfl)
      go_enter Try.func131, Try.ntmps131
      go_wp2
      go_region_held3 (fun w' => w'.cell? ⟨w.heap.size, 0, none⟩ = some (.slice p l c) ∧ w'.cell? ⟨w.heap.size, 1, none⟩ = some (.slice q l d) ∧ w'.cell? ⟨w.heap.size, 3, none⟩ = some (.int .i64 y) ∧ w'.cell? ⟨w.heap.size + 1, 1, none⟩ = some (.int .i64 A) ∧ w'.cell? ⟨w.heap.size + 1, 2, none⟩ = some (.int .i64 0))
        (first
          | go_keep
          | (exact ⟨f5.keep m0, f5.keep m1, f5.keep m3, f5.keep n1, f5.keep n2⟩))
        (first
          | (go_at_call 136; refine (l2Kids_any _ _ _ _ _ _ _ y P (hP1.fr (Fr.drewN _ 1)) Hp.out (by omega) (by omega)).mono ?_; rintro e w5 ⟨a5, n5, c5, rfl, o5, f5, _⟩)
          | (go_at_call 142; refine (l1Has_any _ _ _ _ _ A o5.sl).mono ?_; rintro e w6 ⟨rfl, rfl⟩))
      have F5 : Fr w1 w5 := (Fr.drewN _ 1).trans f5
      go_wp2
      go_ret
      exact ⟨by rw [HM.out]; rfl, hfr.trans F5⟩
    · have HM : Hid (mayB P y 1 A B = false) := Lib.hid (by
        show ((B == 0) && decide (A ∈ kidsTo P (y : Int).toNat P.length)) = false
        rw [beq_eq_false_iff_ne.2 hB0]; rfl)
      have hb0 : (B == 0) = false := by simp [hB0]
      clear hB0
      go_enter Try.func131, Try.ntmps131
      go_wp2
      go_quiet (fail)
      go_wp2
      go_ret
      exact ⟨by rw [HM.out]; rfl, hfr.drew' _⟩
  by_cases k2 : kd = 2
  · subst k2
    have HM : Hid (mayB P y 2 A B = (B == 0)) := Lib.hid rfl
    clear m0 m1 m2 m3 m4 m5 m6 n0 n1 n2 hw1
    go_enter Try.func131, Try.ntmps131
    go_wp2
    go_ret
    exact ⟨by rw [HM.out]; rfl, ((Fr.refl w).alloc _).alloc _⟩
  by_cases k3 : kd = 3
  · subst k3
    have HM : Hid (mayB P y 3 A B = ((B == 0) && inB A (-999) 999)) := Lib.hid rfl
    clear m0 m1 m2 m3 m4 m5 m6 n0 n1 n2 hw1
    cases hb : (B == 0) <;> cases hi : inB A (-999) 999
    all_goals
      have HM2 := Lib.hid (show mayB P y 3 A B = _ from by rw [HM.out, hb, hi])
      go_enter Try.func131, Try.ntmps131
      go_wp2_with (go_at_call 88; refine (l1In_any _ _ _ _).mono ?_; rintro e w' ⟨rfl, rfl⟩)
      go_ret
      exact ⟨by rw [HM2.out]; rfl, ((Fr.refl w).alloc _).alloc _⟩
  by_cases k4 : kd = 4
  · subst k4
    have HM : Hid (mayB P y 4 A B = ((A == 0) && (B == 0))) := Lib.hid rfl
    clear m0 m1 m2 m3 m4 m5 m6 n0 n1 n2 hw1
    cases hb : (A == 0) <;> cases hi : (B == 0)
    all_goals
      have HM2 := Lib.hid (show mayB P y 4 A B = _ from by rw [HM.out, hb, hi])
      go_enter Try.func131, Try.ntmps131
      go_wp2
      go_ret
      exact ⟨by rw [HM2.out]; rfl, ((Fr.refl w).alloc _).alloc _⟩
  by_cases k5 : kd = 5
  · subst k5
    have HM : Hid (mayB P y 5 A B = inB A 0 ((l : Int) - 1)) := Lib.hid (by rw [← HP.out]; rfl)
    subst hw1
    go_enter Try.func131, Try.ntmps131
    go_wp2_with fail
    refine (l12Node_any _ _ _ _ _ _ _ _ _ _ P W X _ _ _ _ A hX1).mono ?_
    rintro e w5 ⟨rfl, f5⟩
    go_wp2
    go_ret
    exact ⟨by rw [HM.out]; rfl, hfr.trans f5⟩
  by_cases k6 : kd = 6
  · subst k6
    have HM : Hid (mayB P y 6 A B = (inB A 0 ((l : Int) - 1) && decide (0 < nth W A.toNat))) := Lib.hid (by
      show decide (A ∈ endsM P) = _
      rw [Bool.eq_iff_iff, decide_eq_true_eq, ends_wei Ht.out, HP.out, Bool.and_eq_true, decide_eq_true_eq])
    subst hw1
    go_enter Try.func131, Try.ntmps131
    go_wp2_with fail
    refine (l12Node_any _ _ _ _ _ _ _ _ _ _ P W X _ _ _ _ A hX1).mono ?_
    rintro e w5 ⟨rfl, f5⟩
    cases hi : inB A 0 ((l : Int) - 1)
    · have HM2 : Hid (mayB P y 6 A B = false) := Lib.hid (by rw [HM.out, hi]; rfl)
      go_wp2
      go_ret
      exact ⟨by rw [HM2.out]; rfl, hfr.trans f5⟩
    · obtain ⟨ha0, ha1⟩ := inB_iff.1 hi
      obtain ⟨z, rfl⟩ := Int.eq_ofNat_of_zero_le ha0
      have hzl : z < l := by omega
      have HM2 : Hid (mayB P y 6 z B = decide (0 < nth W z)) := Lib.hid (by rw [HM.out, hi]; rfl)
      obtain ⟨bw, ow, rfl, hcw⟩ := (hW1.fr f5).cells.resolve_left (by omega)
      replace hcw := hcw z hzl
      have n1' := (H1.out.fr f5).cell (j := 1) rfl
      have m1' := (H0.out.fr f5).cell (j := 1) rfl
      clear m0 m1 m2 m3 m4 m5 m6 n0 n1 n2
      go_wp2
      go_ret
      exact ⟨by rw [HM2.out]; rfl, hfr.trans f5⟩
  have HM : Hid (mayB P y kd A B = false) := Lib.hid (by rw [mayB, if_neg k1, if_neg k2, if_neg k3, if_neg k4, if_neg k5, if_neg k6])
  have b1 : (kd == 1) = false := by simp [k1]
  have b2' : (kd == 2) = false := by simp [k2]
  have b3 : (kd == 3) = false := by simp [k3]
  have b4 : (kd == 4) = false := by simp [k4]
  have b5 : (kd == 5) = false := by simp [k5]
  have b6 : (kd == 6) = false := by simp [k6]
  clear k1 k2 k3 k4 k5 k6 m0 m1 m2 m3 m4 m5 m6 n0 n1 n2 hw1
  go_enter Try.func131, Try.ntmps131
  go_wp2
  go_ret
  exact ⟨by rw [HM.out]; rfl, ((Fr.refl w).alloc _).alloc _⟩

end Go.Proofs.Ytojipjjfndgbhaa
/- The contract of the reference's l12Make. -/
set_option linter.unusedVariables false
namespace Go.Proofs.Ytojipjjfndgbhaa
open Go.ChangeShapes Go.WideShapes Go.ChangeAt Go.RowKit

set_option maxRecDepth 100000 in
set_option maxHeartbeats 4000000 in
theorem l12Make_any (w : World) (p q a : Option Addr) (n c m d l b : Nat) (P W X : List Int) (x s u v kd A B : Int) (hP : SL w p n c P) (hW : SL w q m d W) (hX : SL w a l b X) (hx : I64 x) (hs : I64 s) (hu : I64 u) (hv : I64 v) (hk : I64 kd) (hA : I64 A) (hB : I64 B) (h : houseB P W X x s u v = true) (hmay : mayB P x kd A B = true) :
    Calls Try.prog 132 #[.agg #[.slice p n c, .slice q m d, .slice a l b, .int .i64 x, .int .i64 s, .int .i64 u, .int .i64 v], .agg #[.int .i64 kd, .int .i64 A, .int .i64 B]] w (RetH P (dW W kd A B) (dX X kd A B) (dAt x kd A) (dSt s kd A) (dPu X x s u kd A) v w) := by
  have HP := Lib.hid hP.len; have HW := Lib.hid hW.len; have HX := Lib.hid hX.len
  have hfr : Fr w (((w.alloc (.cells #[.slice p n c, .slice q m d, .slice a l b, .int .i64 x, .int .i64 s, .int .i64 u, .int .i64 v] 31)).alloc (.cells #[.int .i64 kd, .int .i64 A, .int .i64 B] 58)).alloc (.cells #[.slice none 0 0, .slice none 0 0, .slice none 0 0, .int .i64 0, .int .i64 0, .int .i64 0, .int .i64 0] 31)) := (((Fr.refl w).alloc _).alloc _).alloc _
  have hb0 := ((Blk.new w #[.slice p n c, .slice q m d, .slice a l b, .int .i64 x, .int .i64 s, .int .i64 u, .int .i64 v] 31).alloc (.cells #[.int .i64 kd, .int .i64 A, .int .i64 B] 58)).alloc (.cells #[.slice none 0 0, .slice none 0 0, .slice none 0 0, .int .i64 0, .int .i64 0, .int .i64 0, .int .i64 0] 31)
  have hb1 := (Blk.new (w.alloc (.cells #[.slice p n c, .slice q m d, .slice a l b, .int .i64 x, .int .i64 s, .int .i64 u, .int .i64 v] 31)) #[.int .i64 kd, .int .i64 A, .int .i64 B] 58).alloc (.cells #[.slice none 0 0, .slice none 0 0, .slice none 0 0, .int .i64 0, .int .i64 0, .int .i64 0, .int .i64 0] 31)
  have hb2 := Blk.new ((w.alloc (.cells #[.slice p n c, .slice q m d, .slice a l b, .int .i64 x, .int .i64 s, .int .i64 u, .int .i64 v] 31)).alloc (.cells #[.int .i64 kd, .int .i64 A, .int .i64 B] 58)) #[.slice none 0 0, .slice none 0 0, .slice none 0 0, .int .i64 0, .int .i64 0, .int .i64 0, .int .i64 0] 31
  simp only [World.size_alloc] at hb1 hb2
  have H0 := Lib.hid hb0; have H1 := Lib.hid hb1; have H2 := Lib.hid hb2
  clear hb0 hb1 hb2
  obtain ⟨t1, t2, t3, t4⟩ := houseB_parts h
  obtain ⟨-, r1, r2, r3⟩ := houseB_all h
  have Ht := Lib.hid t1
  have Hv := Lib.hid (nth_bd (procB_iff.1 t2).2 (by omega) (by omega))
  obtain ⟨g1, g2, g3, -⟩ := treeB_iff.1 t1
  have Hp := Lib.hid g3
  have Hm := Lib.hid hmay
  have hml : m = n := by rw [← HW.out, g2, HP.out]
  have hll : l = n := by rw [← HX.out, (procB_iff.1 t2).1, HP.out]
  subst hml; subst hll
  rw [HP.out] at g1 t4
  obtain ⟨y, rfl⟩ := Int.eq_ofNat_of_zero_le t3
  clear t1 t2 t3 g2 g3 h hmay
  have k0 := H0.out.cell (j := 0) rfl; have k1 := H0.out.cell (j := 1) rfl; have k2 := H0.out.cell (j := 2) rfl; have k3 := H0.out.cell (j := 3) rfl; have k4 := H0.out.cell (j := 4) rfl; have k5 := H0.out.cell (j := 5) rfl; have k6 := H0.out.cell (j := 6) rfl
  go_enter Try.func132, Try.ntmps132
  go_wp2_with fail
  clear k0 k1 k2 k3 k4 k5 k6
  refine (l12Own_any _ _ _ _ _ _ _ _ _ _ _ _ _ _ _ _ _ (hP.fr hfr) (hW.fr hfr) (hX.fr hfr) (by omega) (by omega) (by omega)).mono ?_
  rintro e w2 ⟨p2, n2, c2, q2, m2, d2, a2, l2, b2, M, N, rfl, o1, o2, o3, W1, W2, y1, y2, y3, f2, e1, e2, e3⟩
  have N1 : n2 = l := by rw [← o1.len, HP.out]
  have N2 : m2 = l := by rw [← o2.len, HW.out]
  have N3 : l2 = l := by rw [← o3.len, HX.out]
  subst N1; subst N2; subst N3
  have z2 := f2.size
  simp only [World.size_alloc] at z2 y1 o1
  have W3 := o3.within
  have W1' : Within p2 (w.heap.size + 1 + 1 + 1) M := fun k hk => by have := W1 k hk; simpa using this
  have hne1 : blkOf p2 ≠ some w2.heap.size := fun e => by have := W1 _ e; omega
  have hne2 : blkOf q2 ≠ some w2.heap.size := fun e => by have := W2 _ e; omega
  have hne3 : blkOf a2 ≠ some w2.heap.size := fun e => by have := W3 _ e; omega
  clear W1
  go_upto_region 2 with fail
  have fa : Fr w2 (w2.alloc (.cells #[.slice p2 l2 c2, .slice q2 l2 d2, .slice a2 l2 b2, .int .i64 y, .int .i64 s, .int .i64 u, .int .i64 v] 31)) := (Fr.refl _).alloc _
  have bG := Lib.hid (Blk.new w2 #[.slice p2 l2 c2, .slice q2 l2 d2, .slice a2 l2 b2, .int .i64 y, .int .i64 s, .int .i64 u, .int .i64 v] 31)
  have z3 := World.size_alloc w2 (.cells #[.slice p2 l2 c2, .slice q2 l2 d2, .slice a2 l2 b2, .int .i64 y, .int .i64 s, .int .i64 u, .int .i64 v] 31)
  generalize hw3 : w2.alloc (.cells #[.slice p2 l2 c2, .slice q2 l2 d2, .slice a2 l2 b2, .int .i64 y, .int .i64 s, .int .i64 u, .int .i64 v] 31) = w3 at fa bG z3 ⊢
  clear hw3
  have Z3 := Lib.hid z3
  have F3 := (hfr.trans f2).trans fa
  replace o1 := o1.fr fa; replace o2 := o2.fr fa; replace o3 := o3.fr fa
  have B0 := Lib.hid ((H0.out.fr f2).fr fa); have B1 := Lib.hid ((H1.out.fr f2).fr fa); have B2 := Lib.hid ((H2.out.fr f2).fr fa)
  clear z3 f2 fa H0 H1 H2
  have gG := Lib.hid (show w.heap.size + 1 + 1 + 1 ≤ w2.heap.size by omega)
  have m0 := B0.out.cell (j := 0) rfl; have m1 := B0.out.cell (j := 1) rfl; have m2 := B0.out.cell (j := 2) rfl; have m3 := B0.out.cell (j := 3) rfl; have m4 := B0.out.cell (j := 4) rfl; have m5 := B0.out.cell (j := 5) rfl
  have n0 := B1.out.cell (j := 0) rfl; have n1 := B1.out.cell (j := 1) rfl; have n2 := B1.out.cell (j := 2) rfl
  go_upto_block 0 with fail
  go_cut [] (fun wx => DealCut w w2.heap.size P W X y s u v kd A B p2 l2 c2 q2 l2 d2 a2 l2 b2 (w.heap.size + 1 + 1 + 1) M N (.bool (mayB P y kd A B)) wx)
  case first =>
    have gg := gG.out
    have z3 := Z3.out
    have i0 : (0 : Int) ≤ (y : Int) := by omega
    have gne : w.heap.size + 1 + 1 ≠ w2.heap.size := by omega
    have gne' : w2.heap.size ≠ w.heap.size + 1 + 1 := by omega
    by_cases k1 : kd = 1
    · subst k1
      have HM : Hid (B = 0 ∧ A ∈ kidsTo P y l2) := Lib.hid (by
        have h : ((B == 0) && decide (A ∈ kidsTo P (y : Int).toNat P.length)) = true := Hm.out
        rw [Bool.and_eq_true, decide_eq_true_eq, beq_iff_eq, Int.toNat_natCast, HP.out] at h; exact h)
      obtain ⟨z, rfl, hzl, _⟩ := kids_mem.1 HM.out.2
      obtain ⟨bx, ox, rfl, hcx⟩ := (hX.fr F3).cells.resolve_left (by omega)
      have hcz := hcx z hzl
      have hcy := hcx y (by omega)
      have v1 := Hv.out z
      have v2 := Hv.out y
      have v3 := dPu_bd r1 v1 v2
      have i1 : (y : Int) < (l2 : Int) := by omega
      have i2 : (0 : Int) ≤ (z : Int) := by omega
      have i3 : (z : Int) < (l2 : Int) := by omega
      have qG5 := bG.out.cell (j := 5) rfl
      have hfG5 := bG.out.free 5
      have qG3 := bG.out.cell (j := 3) rfl
      have hfG3 := bG.out.free 3
      clear hcx
      have w1' : IntKind.i64.wrap (nth X z - nth X y) = nth X z - nth X y := IntWalk.i64_in _ (by omega)
      have w2' : IntKind.i64.wrap (s * (nth X z - nth X y)) = s * (nth X z - nth X y) := IntWalk.i64_in _ (by omega)
      have w3' : IntKind.i64.wrap (u + s * (nth X z - nth X y)) = u + s * (nth X z - nth X y) := IntWalk.i64_in _ (by omega)
      go_wp2
      go_region
      clear w1' w2' w3'
      have nne : w.heap.size + 1 ≠ w2.heap.size := by omega
      have nne' : w2.heap.size ≠ w.heap.size + 1 := by omega
      go_wp2
      go_meet
      exact ⟨W, X, z, s, u + s * (nth X z - nth X y), rfl, (fun _ => ⟨rfl, rfl, rfl, rfl, by rw [dPu, if_pos rfl, Int.toNat_natCast, Int.toNat_natCast]⟩), ((bG.out.set 5 (.int .i64 (u + s * (nth X z - nth X y)))).set 3 (.int .i64 z)).fr (Fr.drewN _ 1), ((B2.out.other gne' _).other gne' _).fr (Fr.drewN _ 1), ((o1.setOther (p := ⟨w2.heap.size, 5, none⟩) hne1 _).setOther (p := ⟨w2.heap.size, 3, none⟩) hne1 _).drewN 1, ((o2.setOther (p := ⟨w2.heap.size, 5, none⟩) hne2 _).setOther (p := ⟨w2.heap.size, 3, none⟩) hne2 _).drewN 1, ((o3.setOther (p := ⟨w2.heap.size, 5, none⟩) hne3 _).setOther (p := ⟨w2.heap.size, 3, none⟩) hne3 _).drewN 1, ((F3.setCell (by dsimp only; omega) _).setCell (by dsimp only; omega) _).drew' 1, by simp; omega, by unfold I64; omega, hs, by unfold I64; omega⟩
    by_cases k2 : kd = 2
    · subst k2
      have qG := bG.out.cell (j := 4) rfl
      have hfG := bG.out.free 4
      go_wp2
      go_meet
      exact ⟨W, X, y, A, u, rfl, fun _ => ⟨rfl, rfl, rfl, rfl, rfl⟩, bG.out.set 4 (.int .i64 A), B2.out.other gne' _, o1.setOther hne1 _, o2.setOther hne2 _, o3.setOther hne3 _, F3.setCell (by dsimp only; omega) _, by simp; omega, hx, hA, hu⟩
    by_cases k3 : kd = 3
    · subst k3
      have hA2 : -999 ≤ A ∧ A ≤ 999 := by
        have h : ((B == 0) && inB A (-999) 999) = true := Hm.out
        rw [Bool.and_eq_true, inB_iff] at h; exact h.2
      have qG := bG.out.cell (j := 5) rfl
      have hfG := bG.out.free 5
      go_wp2
      go_meet
      exact ⟨W, X, y, s, u + A, rfl, fun _ => ⟨rfl, rfl, rfl, rfl, rfl⟩, bG.out.set 5 (.int .i64 (u + A)), B2.out.other gne' _, o1.setOther hne1 _, o2.setOther hne2 _, o3.setOther hne3 _, F3.setCell (by dsimp only; omega) _, by simp; omega, hx, hs, by unfold I64; omega⟩
    by_cases k4 : kd = 4
    · subst k4
      have qG := bG.out.cell (j := 3) rfl
      have hfG := bG.out.free 3
      go_wp2
      go_meet
      exact ⟨W, X, 0, s, u, rfl, fun _ => ⟨rfl, rfl, rfl, rfl, rfl⟩, bG.out.set 3 (.int .i64 0), B2.out.other gne' _, o1.setOther hne1 _, o2.setOther hne2 _, o3.setOther hne3 _, F3.setCell (by dsimp only; omega) _, by simp; omega, by unfold I64; omega, hs, hu⟩
    by_cases k5 : kd = 5
    · subst k5
      have hi : inB A 0 ((l2 : Int) - 1) = true := by rw [← HP.out]; exact Hm.out
      obtain ⟨ha0, ha1⟩ := inB_iff.1 hi
      obtain ⟨z, rfl⟩ := Int.eq_ofNat_of_zero_le ha0
      have hzl : z < l2 := by omega
      obtain ⟨g3, rfl, hg3, hg3', hcc, hfro⟩ := o3.op (by omega)
      have hcz := hcc z hzl
      have hfz := hfro z
      have qG := bG.out.cell (j := 2) rfl
      clear hi hcc hfro
      have hg1 : blkOf p2 ≠ some g3 := fun e => by have := W1' _ e; omega
      have hg2 : blkOf q2 ≠ some g3 := fun e => by have := W2 _ e; omega
      have hgG : g3 ≠ w2.heap.size := fun e => hne3 (by rw [← e]; rfl)
      have hgR : g3 ≠ w.heap.size + 1 + 1 := by omega
      go_wp2
      go_meet
      exact ⟨W, X.set z B, y, s, u, rfl, (fun _ => ⟨rfl, by rw [dX, if_pos rfl, Int.toNat_natCast], rfl, rfl, rfl⟩), bG.out.other hgG _, B2.out.other hgR _, o1.setOther hg1 _, o2.setOther hg2 _, o3.set rfl hzl hB, F3.setCell (by dsimp only; omega) _, by simp; omega, hx, hs, hu⟩
    by_cases k6 : kd = 6
    · subst k6
      have hm : A ∈ endsM P := by
        have h : decide (A ∈ endsM P) = true := Hm.out
        exact of_decide_eq_true h
      obtain ⟨z, rfl, hzl, _⟩ := ends_mem.1 hm
      rw [HP.out] at hzl
      obtain ⟨g3, rfl, hg3, hg3', hcc, hfro⟩ := o2.op (by omega)
      have hcz := hcc z hzl
      have hfz := hfro z
      have qG := bG.out.cell (j := 1) rfl
      clear hm hcc hfro
      have hg1 : blkOf p2 ≠ some g3 := fun e => by have := W1' _ e; omega
      have hg2 : blkOf a2 ≠ some g3 := fun e => by have := W2 g3 rfl; have := W3 _ e; omega
      have hgG : g3 ≠ w2.heap.size := fun e => hne2 (by rw [← e]; rfl)
      have hgR : g3 ≠ w.heap.size + 1 + 1 := by omega
      go_wp2
      go_meet
      exact ⟨W.set z B, X, y, s, u, rfl, (fun _ => ⟨by rw [dW, if_pos rfl, Int.toNat_natCast], rfl, rfl, rfl, rfl⟩), bG.out.other hgG _, B2.out.other hgR _, o1.setOther hg1 _, o2.set rfl hzl hB, o3.setOther hg2 _, F3.setCell (by dsimp only; omega) _, by simp; omega, hx, hs, hu⟩
    exfalso
    have h := Hm.out
    rw [mayB, if_neg k1, if_neg k2, if_neg k3, if_neg k4, if_neg k5, if_neg k6] at h
    cases h
  case rest =>
    obtain ⟨W', X', t', s', u', -, hpos, hG, h2, o1', o2', o3', hF, hN, it, is, iu⟩ := hcut
    obtain ⟨rfl, rfl, rfl, rfl, rfl⟩ := hpos Hm.out
    clear m0 m1 m2 m3 m4 m5 n0 n1 n2 o1 o2 o3 hpos Z3 F3 B0 B1 B2
    have HG := Lib.hid hG; have H2 := Lib.hid h2
    clear hG h2
    have q0 := HG.out.cell (j := 0) rfl; have q1 := HG.out.cell (j := 1) rfl; have q2' := HG.out.cell (j := 2) rfl; have q3 := HG.out.cell (j := 3) rfl; have q4 := HG.out.cell (j := 4) rfl; have q5 := HG.out.cell (j := 5) rfl; have q6 := HG.out.cell (j := 6) rfl
    have j0 := H2.out.cell (j := 0) rfl; have j1 := H2.out.cell (j := 1) rfl; have j2 := H2.out.cell (j := 2) rfl; have j3 := H2.out.cell (j := 3) rfl; have j4 := H2.out.cell (j := 4) rfl; have j5 := H2.out.cell (j := 5) rfl; have j6 := H2.out.cell (j := 6) rfl
    have i0 := H2.out.free 0; have i1 := H2.out.free 1; have i2 := H2.out.free 2; have i3 := H2.out.free 3; have i4 := H2.out.free 4; have i5 := H2.out.free 5; have i6 := H2.out.free 6
    go_wp2
    have E := (((((((H2.out.set 0 (.slice p2 l2 c2)).set 1 (.slice q2 l2 d2)).set 2 (.slice a2 l2 b2)).set 3 (.int .i64 (dAt y kd A))).set 4 (.int .i64 (dSt s kd A))).set 5 (.int .i64 (dPu X y s u kd A))).set 6 (.int .i64 v))
    simp only [List.setIfInBounds_toArray, List.set_cons_zero, List.set_cons_succ] at E
    refine bodyPost_ret (results_H Try.results132 _ _ (w.heap.size + 1 + 1) _ _ _ _ _ _ _ rfl (E.cell rfl) (E.cell rfl) (E.cell rfl) (E.cell rfl) (E.cell rfl) (E.cell rfl) (E.cell rfl)) rfl ?_
    refine ⟨p2, l2, c2, q2, l2, d2, a2, l2, b2, M, N, rfl, ?_, ?_, ?_, fun k hk => by have := W1' k hk; omega, W2, by omega, y2, by simpa using hN, ?_, e1, e2, e3⟩
    · refine Own.mono ?_ (show w.heap.size ≤ w.heap.size + 1 + 1 + 1 by omega)
      iterate 7 refine Own.past ?_ (by dsimp only; omega) _
      exact o1'
    · iterate 7 refine Own.past ?_ (by dsimp only; omega) _
      exact o2'
    · iterate 7 refine Own.past ?_ (by dsimp only; omega) _
      exact o3'
    · iterate 7 refine Fr.setCell ?_ (by dsimp only; omega) _
      exact hF

end Go.Proofs.Ytojipjjfndgbhaa
/- Contracts of the reference's l12Do and DealHouse. -/
set_option linter.unusedVariables false
namespace Go.Proofs.Ytojipjjfndgbhaa
open Go.ChangeShapes Go.WideShapes Go.ChangeAt Go.RowKit

set_option maxRecDepth 100000 in
set_option maxHeartbeats 4000000 in
theorem l12Do_any (w : World) (p q a : Option Addr) (n c m d l b : Nat) (P W X : List Int) (x s u v kd A B : Int) (hP : SL w p n c P) (hW : SL w q m d W) (hX : SL w a l b X) (hx : I64 x) (hs : I64 s) (hu : I64 u) (hv : I64 v) (hk : I64 kd) (hA : I64 A) (hB : I64 B) (h : houseB P W X x s u v = true) :
    Calls Try.prog 92 #[.agg #[.slice p n c, .slice q m d, .slice a l b, .int .i64 x, .int .i64 s, .int .i64 u, .int .i64 v], .agg #[.int .i64 kd, .int .i64 A, .int .i64 B]] w (RetHB (nhV (goB P W X x s u v kd A B) P) (nhV (goB P W X x s u v kd A B) (dW W kd A B)) (nhV (goB P W X x s u v kd A B) (dX X kd A B)) (dV (goB P W X x s u v kd A B) (dAt x kd A)) (dV (goB P W X x s u v kd A B) (dSt s kd A)) (dV (goB P W X x s u v kd A B) (dPu X x s u kd A)) (dV (goB P W X x s u v kd A B) (v + 1)) (goB P W X x s u v kd A B) w) := by
  have HP := Lib.hid hP.len; have HW := Lib.hid hW.len; have HX := Lib.hid hX.len
  have hfr : Fr w (((w.alloc (.cells #[.slice p n c, .slice q m d, .slice a l b, .int .i64 x, .int .i64 s, .int .i64 u, .int .i64 v] 31)).alloc (.cells #[.int .i64 kd, .int .i64 A, .int .i64 B] 58)).alloc (.cells #[.slice none 0 0, .slice none 0 0, .slice none 0 0, .int .i64 0, .int .i64 0, .int .i64 0, .int .i64 0] 31)) := (((Fr.refl w).alloc _).alloc _).alloc _
  have hb0 := ((Blk.new w #[.slice p n c, .slice q m d, .slice a l b, .int .i64 x, .int .i64 s, .int .i64 u, .int .i64 v] 31).alloc (.cells #[.int .i64 kd, .int .i64 A, .int .i64 B] 58)).alloc (.cells #[.slice none 0 0, .slice none 0 0, .slice none 0 0, .int .i64 0, .int .i64 0, .int .i64 0, .int .i64 0] 31)
  have hb1 := (Blk.new (w.alloc (.cells #[.slice p n c, .slice q m d, .slice a l b, .int .i64 x, .int .i64 s, .int .i64 u, .int .i64 v] 31)) #[.int .i64 kd, .int .i64 A, .int .i64 B] 58).alloc (.cells #[.slice none 0 0, .slice none 0 0, .slice none 0 0, .int .i64 0, .int .i64 0, .int .i64 0, .int .i64 0] 31)
  have hb2 := Blk.new ((w.alloc (.cells #[.slice p n c, .slice q m d, .slice a l b, .int .i64 x, .int .i64 s, .int .i64 u, .int .i64 v] 31)).alloc (.cells #[.int .i64 kd, .int .i64 A, .int .i64 B] 58)) #[.slice none 0 0, .slice none 0 0, .slice none 0 0, .int .i64 0, .int .i64 0, .int .i64 0, .int .i64 0] 31
  simp only [World.size_alloc] at hb1 hb2
  have H0 := Lib.hid hb0; have H1 := Lib.hid hb1; have H2 := Lib.hid hb2
  clear hb0 hb1 hb2
  have HH := Lib.hid h
  obtain ⟨-, r1, r2, r3⟩ := houseB_all h
  have hfz := hfr.size
  simp only [World.size_alloc] at hfz
  have k0 := H0.out.cell (j := 0) rfl; have k1 := H0.out.cell (j := 1) rfl; have k2 := H0.out.cell (j := 2) rfl; have k3 := H0.out.cell (j := 3) rfl; have k4 := H0.out.cell (j := 4) rfl; have k5 := H0.out.cell (j := 5) rfl; have k6 := H0.out.cell (j := 6) rfl
  have n0 := H1.out.cell (j := 0) rfl; have n1 := H1.out.cell (j := 1) rfl; have n2 := H1.out.cell (j := 2) rfl
  clear h
  go_enter Try.func92, Try.ntmps92
  go_wp2_with fail
  clear k0 k1 k2 k3 k4 k5 k6 n0 n1 n2
  refine (l12May_any _ _ _ _ _ _ _ _ _ _ _ _ _ _ _ _ _ kd A B (hP.fr hfr) (hW.fr hfr) (hX.fr hfr) HH.out).mono ?_
  rintro e w1 ⟨rfl, f1⟩
  have z1 := f1.size
  simp only [World.size_alloc] at z1
  have hF1 := hfr.trans f1
  have G0 := Lib.hid (H0.out.fr f1); have G1 := Lib.hid (H1.out.fr f1); have G2 := Lib.hid (H2.out.fr f1)
  clear H0 H1 H2 f1
  cases hmay : mayB P x kd A B
  · have HL : Hid (goB P W X x s u v kd A B = false) := Lib.hid (by rw [goB, hmay]; rfl)
    have j0 := G2.out.cell (j := 0) rfl; have j1 := G2.out.cell (j := 1) rfl; have j2 := G2.out.cell (j := 2) rfl; have j3 := G2.out.cell (j := 3) rfl; have j4 := G2.out.cell (j := 4) rfl; have j5 := G2.out.cell (j := 5) rfl; have j6 := G2.out.cell (j := 6) rfl
    have i0 := G2.out.free 0; have i1 := G2.out.free 1; have i2 := G2.out.free 2; have i3 := G2.out.free 3; have i4 := G2.out.free 4; have i5 := G2.out.free 5; have i6 := G2.out.free 6
    clear hmay
    go_wp2
    have E := (((((((G2.out.set 0 (.slice none 0 0)).set 1 (.slice none 0 0)).set 2 (.slice none 0 0)).set 3 (.int .i64 0)).set 4 (.int .i64 0)).set 5 (.int .i64 0)).set 6 (.int .i64 0))
    simp only [List.setIfInBounds_toArray, List.set_cons_zero, List.set_cons_succ] at E
    refine bodyPost_ret (results_HB Try.results92 _ _ (w.heap.size + 1 + 1) _ _ _ _ _ _ _ _ rfl rfl (E.cell rfl) (E.cell rfl) (E.cell rfl) (E.cell rfl) (E.cell rfl) (E.cell rfl) (E.cell rfl)) rfl ?_
    rw [HL.out]
    refine ⟨none, 0, 0, none, 0, 0, none, 0, 0, w.heap.size, w.heap.size, rfl, Own.nil _ _, Own.nil _ _, Own.nil _ _, fun k hk => by simp [blkOf] at hk, fun k hk => by simp [blkOf] at hk, Nat.le_refl _, Nat.le_refl _, ?_, ?_, by omega, by omega, by omega⟩
    · have := hF1.size; simpa using this
    · iterate 7 refine Fr.setCell ?_ (by dsimp only; omega) _
      exact hF1
  · have HM := Lib.hid hmay
    have k0 := G0.out.cell (j := 0) rfl; have k1 := G0.out.cell (j := 1) rfl; have k2 := G0.out.cell (j := 2) rfl; have k3 := G0.out.cell (j := 3) rfl; have k4 := G0.out.cell (j := 4) rfl; have k5 := G0.out.cell (j := 5) rfl; have k6 := G0.out.cell (j := 6) rfl
    have n0 := G1.out.cell (j := 0) rfl; have n1 := G1.out.cell (j := 1) rfl; have n2 := G1.out.cell (j := 2) rfl
    go_wp2_with fail
    clear k0 k1 k2 k3 k4 k5 k6 n0 n1 n2 hmay
    refine (l12Make_any _ _ _ _ _ _ _ _ _ _ _ _ _ _ _ _ _ kd A B (hP.fr hF1) (hW.fr hF1) (hX.fr hF1) hx hs hu hv hk hA hB HH.out HM.out).mono ?_
    rintro e w2 ⟨p2, n2, c2, q2, m2, d2, a2, l2, b2, M, N, rfl, o1, o2, o3, W1, W2, y1, y2, y3, f2, e1, e2, e3⟩
    have z2 := f2.size
    have W3 := o3.within
    have hne1 : blkOf p2 ≠ some w2.heap.size := fun e => by have := W1 _ e; omega
    have hne2 : blkOf q2 ≠ some w2.heap.size := fun e => by have := W2 _ e; omega
    have hne3 : blkOf a2 ≠ some w2.heap.size := fun e => by have := W3 _ e; omega
    go_upto_region 4 with fail
    have fa : Fr w2 (w2.alloc (.cells #[.slice p2 n2 c2, .slice q2 m2 d2, .slice a2 l2 b2, .int .i64 (dAt x kd A), .int .i64 (dSt s kd A), .int .i64 (dPu X x s u kd A), .int .i64 v] 31)) := (Fr.refl _).alloc _
    have bG := Lib.hid (Blk.new w2 #[.slice p2 n2 c2, .slice q2 m2 d2, .slice a2 l2 b2, .int .i64 (dAt x kd A), .int .i64 (dSt s kd A), .int .i64 (dPu X x s u kd A), .int .i64 v] 31)
    have z3 := World.size_alloc w2 (.cells #[.slice p2 n2 c2, .slice q2 m2 d2, .slice a2 l2 b2, .int .i64 (dAt x kd A), .int .i64 (dSt s kd A), .int .i64 (dPu X x s u kd A), .int .i64 v] 31)
    generalize hw3 : w2.alloc (.cells #[.slice p2 n2 c2, .slice q2 m2 d2, .slice a2 l2 b2, .int .i64 (dAt x kd A), .int .i64 (dSt s kd A), .int .i64 (dPu X x s u kd A), .int .i64 v] 31) = w3 at fa bG z3 ⊢
    clear hw3
    have F3 := (hF1.trans f2).trans fa
    replace o1 := o1.fr fa; replace o2 := o2.fr fa; replace o3 := o3.fr fa
    have B0 := Lib.hid ((G0.out.fr f2).fr fa); have B2 := Lib.hid ((G2.out.fr f2).fr fa)
    have gne : w.heap.size ≠ w2.heap.size := by omega
    have gne2 : w.heap.size + 1 + 1 ≠ w2.heap.size := by omega
    have gne' : w2.heap.size ≠ w.heap.size + 1 + 1 := by omega
    clear f2 fa G0 G1 G2
    have q0 := bG.out.cell (j := 0) rfl; have q1 := bG.out.cell (j := 1) rfl; have q2x := bG.out.cell (j := 2) rfl; have q3 := bG.out.cell (j := 3) rfl; have q4 := bG.out.cell (j := 4) rfl; have q5 := bG.out.cell (j := 5) rfl; have q6 := bG.out.cell (j := 6) rfl
    have f6 := bG.out.free 6
    have k6 := B0.out.cell (j := 6) rfl
    have o1s := o1.setOther (p := ⟨w2.heap.size, 6, none⟩) hne1 (.int .i64 (v + 1))
    have o2s := o2.setOther (p := ⟨w2.heap.size, 6, none⟩) hne2 (.int .i64 (v + 1))
    have o3s := o3.setOther (p := ⟨w2.heap.size, 6, none⟩) hne3 (.int .i64 (v + 1))
    have hFs := F3.setCell (p := ⟨w2.heap.size, 6, none⟩) (by dsimp only; omega) (.int .i64 (v + 1))
    have HGs := Lib.hid (bG.out.set 6 (.int .i64 (v + 1)))
    have H2s := Lib.hid (B2.out.other (p := ⟨w2.heap.size, 6, none⟩) gne' (.int .i64 (v + 1)))
    go_wp2_with fail
    clear q0 q1 q2x q3 q4 q5 q6 f6 k6
    refine (l12Good_any _ _ _ _ _ _ _ _ _ _ _ _ _ o1s.sl o2s.sl o3s.sl _ _ _ _).mono ?_
    rintro e w5 ⟨rfl, f5⟩
    have z5 := f5.size
    simp only [World.size_setCell] at z5
    have HD : Hid (houseB P (dW W kd A B) (dX X kd A B) (dAt x kd A) (dSt s kd A) (dPu X x s u kd A) (v + 1) = goB P W X x s u v kd A B) := Lib.hid (by rw [goB, HM.out, doneB]; rfl)
    rw [HD.out]
    replace o1s := o1s.fr f5; replace o2s := o2s.fr f5; replace o3s := o3s.fr f5; replace hFs := hFs.trans f5
    have HGf := Lib.hid (HGs.out.fr f5); have H2f := Lib.hid (H2s.out.fr f5)
    have j0 := H2f.out.cell (j := 0) rfl; have j1 := H2f.out.cell (j := 1) rfl; have j2 := H2f.out.cell (j := 2) rfl; have j3 := H2f.out.cell (j := 3) rfl; have j4 := H2f.out.cell (j := 4) rfl; have j5 := H2f.out.cell (j := 5) rfl; have j6 := H2f.out.cell (j := 6) rfl
    have i0 := H2f.out.free 0; have i1 := H2f.out.free 1; have i2 := H2f.out.free 2; have i3 := H2f.out.free 3; have i4 := H2f.out.free 4; have i5 := H2f.out.free 5; have i6 := H2f.out.free 6
    clear o1 o2 o3 F3 bG B0 B2 HGs H2s f5
    cases hd : goB P W X x s u v kd A B
    · have HL := Lib.hid hd
      clear hd
      go_wp2
      have E := (((((((H2f.out.set 0 (.slice none 0 0)).set 1 (.slice none 0 0)).set 2 (.slice none 0 0)).set 3 (.int .i64 0)).set 4 (.int .i64 0)).set 5 (.int .i64 0)).set 6 (.int .i64 0))
      simp only [List.setIfInBounds_toArray, List.set_cons_zero, List.set_cons_succ] at E
      refine bodyPost_ret (results_HB Try.results92 _ _ (w.heap.size + 1 + 1) _ _ _ _ _ _ _ _ rfl rfl (E.cell rfl) (E.cell rfl) (E.cell rfl) (E.cell rfl) (E.cell rfl) (E.cell rfl) (E.cell rfl)) rfl ?_
      rw [HL.out]
      refine ⟨none, 0, 0, none, 0, 0, none, 0, 0, w.heap.size, w.heap.size, rfl, Own.nil _ _, Own.nil _ _, Own.nil _ _, fun k hk => by simp [blkOf] at hk, fun k hk => by simp [blkOf] at hk, Nat.le_refl _, Nat.le_refl _, ?_, ?_, by omega, by omega, by omega⟩
      · have := hFs.size; simpa using this
      · iterate 7 refine Fr.setCell ?_ (by dsimp only; omega) _
        exact hFs
    · have HL := Lib.hid hd
      simp only [List.setIfInBounds_toArray, List.set_cons_zero, List.set_cons_succ] at HGf
      have q0 := HGf.out.cell (j := 0) rfl; have q1 := HGf.out.cell (j := 1) rfl; have q2x := HGf.out.cell (j := 2) rfl; have q3 := HGf.out.cell (j := 3) rfl; have q4 := HGf.out.cell (j := 4) rfl; have q5 := HGf.out.cell (j := 5) rfl; have q6 := HGf.out.cell (j := 6) rfl
      clear hd
      go_wp2
      have E := (((((((H2f.out.set 0 (.slice p2 n2 c2)).set 1 (.slice q2 m2 d2)).set 2 (.slice a2 l2 b2)).set 3 (.int .i64 (dAt x kd A))).set 4 (.int .i64 (dSt s kd A))).set 5 (.int .i64 (dPu X x s u kd A))).set 6 (.int .i64 (v + 1)))
      simp only [List.setIfInBounds_toArray, List.set_cons_zero, List.set_cons_succ] at E
      refine bodyPost_ret (results_HB Try.results92 _ _ (w.heap.size + 1 + 1) _ _ _ _ _ _ _ _ rfl rfl (E.cell rfl) (E.cell rfl) (E.cell rfl) (E.cell rfl) (E.cell rfl) (E.cell rfl) (E.cell rfl)) rfl ?_
      rw [HL.out]
      refine ⟨p2, n2, c2, q2, m2, d2, a2, l2, b2, M, N, rfl, ?_, ?_, ?_, fun k hk => by have := W1 k hk; omega, W2, by omega, y2, by simp; omega, ?_, e1, e2, e3⟩
      · refine Own.mono ?_ (show w.heap.size ≤ w1.heap.size by omega)
        iterate 7 refine Own.past ?_ (by dsimp only; omega) _
        exact o1s
      · iterate 7 refine Own.past ?_ (by dsimp only; omega) _
        exact o2s
      · iterate 7 refine Own.past ?_ (by dsimp only; omega) _
        exact o3s
      · iterate 7 refine Fr.setCell ?_ (by dsimp only; omega) _
        exact hFs

set_option maxRecDepth 100000 in
set_option maxHeartbeats 4000000 in
theorem spec_DealHouse_any (w : World) (p q a : Option Addr) (n c m d l b : Nat) (P W X : List Int) (x s u v kd A B : Int) (hP : SL w p n c P) (hW : SL w q m d W) (hX : SL w a l b X) (hx : I64 x) (hs : I64 s) (hu : I64 u) (hv : I64 v) (hk : I64 kd) (hA : I64 A) (hB : I64 B) :
    Calls Try.prog 42 #[.agg #[.slice p n c, .slice q m d, .slice a l b, .int .i64 x, .int .i64 s, .int .i64 u, .int .i64 v], .agg #[.int .i64 kd, .int .i64 A, .int .i64 B]] w (RetHB (nhV (dealB P W X x s u v kd A B) P) (nhV (dealB P W X x s u v kd A B) (dW W kd A B)) (nhV (dealB P W X x s u v kd A B) (dX X kd A B)) (dV (dealB P W X x s u v kd A B) (dAt x kd A)) (dV (dealB P W X x s u v kd A B) (dSt s kd A)) (dV (dealB P W X x s u v kd A B) (dPu X x s u kd A)) (dV (dealB P W X x s u v kd A B) (v + 1)) (dealB P W X x s u v kd A B) w) := by
  have HP := Lib.hid hP.len; have HW := Lib.hid hW.len; have HX := Lib.hid hX.len
  have hfr : Fr w (((w.alloc (.cells #[.slice p n c, .slice q m d, .slice a l b, .int .i64 x, .int .i64 s, .int .i64 u, .int .i64 v] 31)).alloc (.cells #[.int .i64 kd, .int .i64 A, .int .i64 B] 58)).alloc (.cells #[.slice none 0 0, .slice none 0 0, .slice none 0 0, .int .i64 0, .int .i64 0, .int .i64 0, .int .i64 0] 31)) := (((Fr.refl w).alloc _).alloc _).alloc _
  have hb0 := ((Blk.new w #[.slice p n c, .slice q m d, .slice a l b, .int .i64 x, .int .i64 s, .int .i64 u, .int .i64 v] 31).alloc (.cells #[.int .i64 kd, .int .i64 A, .int .i64 B] 58)).alloc (.cells #[.slice none 0 0, .slice none 0 0, .slice none 0 0, .int .i64 0, .int .i64 0, .int .i64 0, .int .i64 0] 31)
  have hb1 := (Blk.new (w.alloc (.cells #[.slice p n c, .slice q m d, .slice a l b, .int .i64 x, .int .i64 s, .int .i64 u, .int .i64 v] 31)) #[.int .i64 kd, .int .i64 A, .int .i64 B] 58).alloc (.cells #[.slice none 0 0, .slice none 0 0, .slice none 0 0, .int .i64 0, .int .i64 0, .int .i64 0, .int .i64 0] 31)
  have hb2 := Blk.new ((w.alloc (.cells #[.slice p n c, .slice q m d, .slice a l b, .int .i64 x, .int .i64 s, .int .i64 u, .int .i64 v] 31)).alloc (.cells #[.int .i64 kd, .int .i64 A, .int .i64 B] 58)) #[.slice none 0 0, .slice none 0 0, .slice none 0 0, .int .i64 0, .int .i64 0, .int .i64 0, .int .i64 0] 31
  simp only [World.size_alloc] at hb1 hb2
  have H0 := Lib.hid hb0; have H1 := Lib.hid hb1; have H2 := Lib.hid hb2
  clear hb0 hb1 hb2
  have hfz := hfr.size
  simp only [World.size_alloc] at hfz
  have k0 := H0.out.cell (j := 0) rfl; have k1 := H0.out.cell (j := 1) rfl; have k2 := H0.out.cell (j := 2) rfl; have k3 := H0.out.cell (j := 3) rfl; have k4 := H0.out.cell (j := 4) rfl; have k5 := H0.out.cell (j := 5) rfl; have k6 := H0.out.cell (j := 6) rfl
  go_enter Try.func42, Try.ntmps42
  go_wp2_with fail
  clear k0 k1 k2 k3 k4 k5 k6
  refine (l12Good_any _ _ _ _ _ _ _ _ _ _ _ _ _ (hP.fr hfr) (hW.fr hfr) (hX.fr hfr) _ _ _ _).mono ?_
  rintro e w1 ⟨rfl, f1⟩
  have z1 := f1.size
  simp only [World.size_alloc] at z1
  have hF1 := hfr.trans f1
  have G0 := Lib.hid (H0.out.fr f1); have G1 := Lib.hid (H1.out.fr f1); have G2 := Lib.hid (H2.out.fr f1)
  clear H0 H1 H2 f1
  cases h : houseB P W X x s u v
  · have HL : Hid (dealB P W X x s u v kd A B = false) := Lib.hid (by rw [dealB, h]; rfl)
    have j0 := G2.out.cell (j := 0) rfl; have j1 := G2.out.cell (j := 1) rfl; have j2 := G2.out.cell (j := 2) rfl; have j3 := G2.out.cell (j := 3) rfl; have j4 := G2.out.cell (j := 4) rfl; have j5 := G2.out.cell (j := 5) rfl; have j6 := G2.out.cell (j := 6) rfl
    have i0 := G2.out.free 0; have i1 := G2.out.free 1; have i2 := G2.out.free 2; have i3 := G2.out.free 3; have i4 := G2.out.free 4; have i5 := G2.out.free 5; have i6 := G2.out.free 6
    clear h
    go_wp2
    have E := (((((((G2.out.set 0 (.slice none 0 0)).set 1 (.slice none 0 0)).set 2 (.slice none 0 0)).set 3 (.int .i64 0)).set 4 (.int .i64 0)).set 5 (.int .i64 0)).set 6 (.int .i64 0))
    simp only [List.setIfInBounds_toArray, List.set_cons_zero, List.set_cons_succ] at E
    refine bodyPost_ret (results_HB Try.results42 _ _ (w.heap.size + 1 + 1) _ _ _ _ _ _ _ _ rfl rfl (E.cell rfl) (E.cell rfl) (E.cell rfl) (E.cell rfl) (E.cell rfl) (E.cell rfl) (E.cell rfl)) rfl ?_
    rw [HL.out]
    refine ⟨none, 0, 0, none, 0, 0, none, 0, 0, w.heap.size, w.heap.size, rfl, Own.nil _ _, Own.nil _ _, Own.nil _ _, fun k hk => by simp [blkOf] at hk, fun k hk => by simp [blkOf] at hk, Nat.le_refl _, Nat.le_refl _, ?_, ?_, by omega, by omega, by omega⟩
    · have := hF1.size; simpa using this
    · iterate 7 refine Fr.setCell ?_ (by dsimp only; omega) _
      exact hF1
  · have HH := Lib.hid h
    have HD : Hid (dealB P W X x s u v kd A B = goB P W X x s u v kd A B) := Lib.hid (by rw [dealB, h]; rfl)
    have k0 := G0.out.cell (j := 0) rfl; have k1 := G0.out.cell (j := 1) rfl; have k2 := G0.out.cell (j := 2) rfl; have k3 := G0.out.cell (j := 3) rfl; have k4 := G0.out.cell (j := 4) rfl; have k5 := G0.out.cell (j := 5) rfl; have k6 := G0.out.cell (j := 6) rfl
    have n0 := G1.out.cell (j := 0) rfl; have n1 := G1.out.cell (j := 1) rfl; have n2 := G1.out.cell (j := 2) rfl
    go_wp2_with fail
    clear k0 k1 k2 k3 k4 k5 k6 n0 n1 n2 h
    refine (l12Do_any _ _ _ _ _ _ _ _ _ _ _ _ _ _ _ _ _ kd A B (hP.fr hF1) (hW.fr hF1) (hX.fr hF1) hx hs hu hv hk hA hB HH.out).mono ?_
    rw [← HD.out]
    rintro e w2 ⟨p2, n2, c2, q2, m2, d2, a2, l2, b2, M, N, rfl, o1, o2, o3, W1, W2, y1, y2, y3, f2, e1, e2, e3⟩
    have z2 := f2.size
    have H2f := Lib.hid (G2.out.fr f2)
    have j0 := H2f.out.cell (j := 0) rfl; have j1 := H2f.out.cell (j := 1) rfl; have j2 := H2f.out.cell (j := 2) rfl; have j3 := H2f.out.cell (j := 3) rfl; have j4 := H2f.out.cell (j := 4) rfl; have j5 := H2f.out.cell (j := 5) rfl; have j6 := H2f.out.cell (j := 6) rfl
    have i0 := H2f.out.free 0; have i1 := H2f.out.free 1; have i2 := H2f.out.free 2; have i3 := H2f.out.free 3; have i4 := H2f.out.free 4; have i5 := H2f.out.free 5; have i6 := H2f.out.free 6
    go_wp2
    have E := (((((((H2f.out.set 0 (.slice p2 n2 c2)).set 1 (.slice q2 m2 d2)).set 2 (.slice a2 l2 b2)).set 3 (.int .i64 (dV (dealB P W X x s u v kd A B) (dAt x kd A)))).set 4 (.int .i64 (dV (dealB P W X x s u v kd A B) (dSt s kd A)))).set 5 (.int .i64 (dV (dealB P W X x s u v kd A B) (dPu X x s u kd A)))).set 6 (.int .i64 (dV (dealB P W X x s u v kd A B) (v + 1))))
    simp only [List.setIfInBounds_toArray, List.set_cons_zero, List.set_cons_succ] at E
    refine bodyPost_ret (results_HB Try.results42 _ _ (w.heap.size + 1 + 1) _ _ _ _ _ _ _ _ rfl rfl (E.cell rfl) (E.cell rfl) (E.cell rfl) (E.cell rfl) (E.cell rfl) (E.cell rfl) (E.cell rfl)) rfl ?_
    refine ⟨p2, n2, c2, q2, m2, d2, a2, l2, b2, M, N, rfl, ?_, ?_, ?_, fun k hk => by have := W1 k hk; omega, W2, by omega, y2, by simp; omega, ?_, e1, e2, e3⟩
    · refine Own.mono ?_ (show w.heap.size ≤ w1.heap.size by omega)
      iterate 7 refine Own.past ?_ (by dsimp only; omega) _
      exact o1
    · iterate 7 refine Own.past ?_ (by dsimp only; omega) _
      exact o2
    · iterate 7 refine Own.past ?_ (by dsimp only; omega) _
      exact o3
    · iterate 7 refine Fr.setCell ?_ (by dsimp only; omega) _
      exact hF1.trans f2

end Go.Proofs.Ytojipjjfndgbhaa
/- Contracts of the laws' functions on deals; stores of whole houses. -/
set_option linter.unusedVariables false
namespace Go.Proofs.Ytojipjjfndgbhaa
open Go.ChangeShapes Go.WideShapes Go.ChangeAt Go.RowKit

theorem Own.set7 {L g : Nat} {w : World} {a : Option Addr} {n cap : Nat} {xs : List Int} (h : Own L w a n cap xs) (hg : g < L) (v0 v1 v2 v3 v4 v5 v6 : Value) :
    Own L (((((((w.setCell ⟨g, 0, none⟩ v0).setCell ⟨g, 1, none⟩ v1).setCell ⟨g, 2, none⟩ v2).setCell ⟨g, 3, none⟩ v3).setCell ⟨g, 4, none⟩ v4).setCell ⟨g, 5, none⟩ v5).setCell ⟨g, 6, none⟩ v6) a n cap xs := by
  iterate 7 refine Own.past ?_ (by dsimp only; omega) _
  exact h
theorem Fr.set7 {w0 w : World} {g : Nat} (h : Fr w0 w) (hg : w0.heap.size ≤ g) (v0 v1 v2 v3 v4 v5 v6 : Value) :
    Fr w0 (((((((w.setCell ⟨g, 0, none⟩ v0).setCell ⟨g, 1, none⟩ v1).setCell ⟨g, 2, none⟩ v2).setCell ⟨g, 3, none⟩ v3).setCell ⟨g, 4, none⟩ v4).setCell ⟨g, 5, none⟩ v5).setCell ⟨g, 6, none⟩ v6) := by
  iterate 7 refine Fr.setCell ?_ (by dsimp only; omega) _
  exact h
theorem Blk.set7 {w : World} {g : Nat} {T : TypeId} {z0 z1 z2 z3 z4 z5 z6 : Value} (h : Blk w g #[z0, z1, z2, z3, z4, z5, z6] T) (v0 v1 v2 v3 v4 v5 v6 : Value) :
    Blk (((((((w.setCell ⟨g, 0, none⟩ v0).setCell ⟨g, 1, none⟩ v1).setCell ⟨g, 2, none⟩ v2).setCell ⟨g, 3, none⟩ v3).setCell ⟨g, 4, none⟩ v4).setCell ⟨g, 5, none⟩ v5).setCell ⟨g, 6, none⟩ v6) g #[v0, v1, v2, v3, v4, v5, v6] T := by
  have E := ((((((h.set 0 v0).set 1 v1).set 2 v2).set 3 v3).set 4 v4).set 5 v5).set 6 v6
  simpa only [List.setIfInBounds_toArray, List.set_cons_zero, List.set_cons_succ] using E
theorem Blk.other7 {w : World} {g g' : Nat} {cs : Array Value} {T : TypeId} (h : Blk w g' cs T) (hne : g ≠ g') (v0 v1 v2 v3 v4 v5 v6 : Value) :
    Blk (((((((w.setCell ⟨g, 0, none⟩ v0).setCell ⟨g, 1, none⟩ v1).setCell ⟨g, 2, none⟩ v2).setCell ⟨g, 3, none⟩ v3).setCell ⟨g, 4, none⟩ v4).setCell ⟨g, 5, none⟩ v5).setCell ⟨g, 6, none⟩ v6) g' cs T :=
  ((((((h.other (p := ⟨g, 0, none⟩) hne v0).other (p := ⟨g, 1, none⟩) hne v1).other (p := ⟨g, 2, none⟩) hne v2).other (p := ⟨g, 3, none⟩) hne v3).other (p := ⟨g, 4, none⟩) hne v4).other (p := ⟨g, 5, none⟩) hne v5).other (p := ⟨g, 6, none⟩) hne v6
theorem cell7 {w : World} {g b j : Nat} (v0 v1 v2 v3 v4 v5 v6 : Value) (hne : g ≠ b) :
    (((((((w.setCell ⟨g, 0, none⟩ v0).setCell ⟨g, 1, none⟩ v1).setCell ⟨g, 2, none⟩ v2).setCell ⟨g, 3, none⟩ v3).setCell ⟨g, 4, none⟩ v4).setCell ⟨g, 5, none⟩ v5).setCell ⟨g, 6, none⟩ v6).cell? ⟨b, j, none⟩ = w.cell? ⟨b, j, none⟩ := by
  have e : ∀ (x : World) (i : Nat) (v : Value), (x.setCell ⟨g, i, none⟩ v).cell? ⟨b, j, none⟩ = x.cell? ⟨b, j, none⟩ := fun x i v => by
    apply World.cell?_setCell_other; intro h; simp only [Addr.mk.injEq] at h; exact hne h.1
  rw [e, e, e, e, e, e, e]
theorem results_D {fn : Func} {k : Nat} (hr : fn.results = #[.cell k 58]) (tmps : Array Value) (w : World) (g : Nat) (v0 v1 v2 : Value) (h : tmps[k]?.getD undef = .pointer (some ⟨g, 0, none⟩))
    (h0 : w.cell? ⟨g, 0, none⟩ = some v0) (h1 : w.cell? ⟨g, 1, none⟩ = some v1) (h2 : w.cell? ⟨g, 2, none⟩ = some v2) : (results fn tmps).run Try.prog w = .ok (.agg #[v0, v1, v2]) w := by
  simp [results, hr, go_sem, h, h0, h1, h2]

set_option maxRecDepth 100000 in
theorem toDeal_any (w : World) (x y z : Int) :
    Calls Try.prog 43 #[.agg #[.int .i64 x, .int .i64 y, .int .i64 z]] w fun e w' => e = .returned (.agg #[.int .i64 x, .int .i64 y, .int .i64 z]) ∧ Fr w w' := by
  have hb1 := (Blk.new (w.alloc (.cells #[.int .i64 x, .int .i64 y, .int .i64 z] 56)) #[.int .i64 x, .int .i64 y, .int .i64 z] 58).alloc (.cells #[.int .i64 x, .int .i64 y, .int .i64 z] 58)
  simp only [World.size_alloc] at hb1
  have H1 := Lib.hid hb1
  clear hb1
  go_enter Try.func43, Try.ntmps43
  go_wp2
  refine bodyPost_ret (results_D Try.results43 _ _ (w.heap.size + 1) _ _ _ rfl (H1.out.cell rfl) (H1.out.cell rfl) (H1.out.cell rfl)) rfl ?_
  exact ⟨rfl, (((Fr.refl w).alloc _).alloc _).alloc _⟩

end Go.Proofs.Ytojipjjfndgbhaa
/- Caps over trees: plain part. -/
set_option linter.unusedVariables false
namespace Go.Proofs.Ytojipjjfndgbhaa
open Go.ChangeShapes Go.WideShapes Go.ChangeAt Go.RowKit

/-- A node's sum times its payment. -/
def payS (P W X : List Int) (x : Nat) : Int := nth (gathM P W) x * nth X x
def capStep (P : List Int) (S F : Nat → Int) (x : Nat) : Int := if endB P x = true then S x else max (S x) (kidSum P F x (P.length - 1))
def capI (P W X : List Int) : Nat → Nat → Int
  | 0 => payS P W X
  | i + 1 => capStep P (payS P W X) (capI P W X i)
def capL (P W X : List Int) (i : Nat) : List Int := (List.range P.length).map (capI P W X i)
def capM (P W X : List Int) : List Int := capL P W X 24
theorem capL_len (P W X : List Int) (i : Nat) : (capL P W X i).length = P.length := by simp [capL]
theorem capL_nth {P W X : List Int} {i x : Nat} (h : x < P.length) : nth (capL P W X i) x = capI P W X i x := by
  rw [nth_eq (by rw [capL_len]; exact h)]; simp [capL]
theorem kidSum_congr {P : List Int} {F G : Nat → Int} {z : Nat} (hp : parB P = true) (h : ∀ y, z < y → y < P.length → F y = G y) (j : Nat) (hj : j + 1 ≤ P.length) : kidSum P F z j = kidSum P G z j := by
  induction j with
  | zero => rfl
  | succ j ih =>
    simp only [kidSum]; rw [ih (by omega)]
    split
    · rename_i e; rw [h _ (par_lt hp (by omega) e) (by omega)]
    · rfl
theorem cap_stay {P W X : List Int} (hp : parB P = true) (i : Nat) : ∀ x, x < P.length → P.length - x ≤ i → capI P W X (i + 1) x = capI P W X i x := by
  induction i with
  | zero => intro x hx h; omega
  | succ i ih =>
    intro x hx h
    show capStep P (payS P W X) (capI P W X (i + 1)) x = capStep P (payS P W X) (capI P W X i) x
    rw [capStep, capStep, kidSum_congr hp (fun y h1 h2 => ih y h2 (by omega)) _ (by omega)]
/-- The last round's numbers satisfy the recurrence. -/
theorem cap_rec {P W X : List Int} (hp : parB P = true) (hn : P.length ≤ 24) (x : Nat) (hx : x < P.length) : nth (capM P W X) x = if endB P x = true then payS P W X x else max (payS P W X x) (kidSum P (nth (capM P W X)) x (P.length - 1)) := by
  rw [capM, capL_nth hx, ← cap_stay hp 24 x hx (by omega)]
  show capStep P (payS P W X) (capI P W X 24) x = _
  rw [capStep, kidSum_congr hp (fun y h1 h2 => (capL_nth (P := P) (W := W) (X := X) (i := 24) h2).symm) _ (by omega)]
theorem kidSum_abs {P W X : List Int} {F : Nat → Int} {z : Nat} (ht : treeB P W = true) (hF : ∀ y, z < y → y < P.length → -(999 * nth (gathM P W) y) ≤ F y ∧ F y ≤ 999 * nth (gathM P W) y) (j : Nat) (hj : j + 1 ≤ P.length) :
    -(999 * kidSum P (nth (gathM P W)) z j) ≤ kidSum P F z j ∧ kidSum P F z j ≤ 999 * kidSum P (nth (gathM P W)) z j := by
  obtain ⟨h1, h2, h3, h4⟩ := treeB_iff.1 ht
  induction j with
  | zero => simp [kidSum]
  | succ j ih =>
    have := ih (by omega)
    simp only [kidSum]
    split
    · rename_i e; have := hF _ (par_lt h3 (by omega) e) (by omega); omega
    · omega
theorem kidSum_mono {P : List Int} {F : Nat → Int} {z : Nat} (h : ∀ y, z < y → y < P.length → 0 ≤ F y) (hp : parB P = true) (j k : Nat) (hk : k + 1 ≤ P.length) (hj : j ≤ k) : kidSum P F z j ≤ kidSum P F z k := by
  induction k with
  | zero => obtain rfl : j = 0 := by omega
            exact Int.le_refl _
  | succ k ih =>
    by_cases e : j = k + 1
    · subst e; exact Int.le_refl _
    · have h1 := ih (by omega) (by omega)
      simp only [kidSum]
      split
      · rename_i e2; have := h _ (par_lt hp (by omega) e2) (by omega); omega
      · omega
theorem pay_bd {P W X : List Int} (ht : treeB P W = true) (hX : ∀ i, -999 ≤ nth X i ∧ nth X i ≤ 999) (x : Nat) (hx : x < P.length) : -(999 * nth (gathM P W) x) ≤ payS P W X x ∧ payS P W X x ≤ 999 * nth (gathM P W) x := by
  have h1 := sums_pos ht x hx
  have h2 := hX x
  rw [payS]
  have h3 : nth (gathM P W) x * nth X x ≤ nth (gathM P W) x * 999 := Int.mul_le_mul_of_nonneg_left h2.2 (by omega)
  have h4 : nth (gathM P W) x * (-999) ≤ nth (gathM P W) x * nth X x := Int.mul_le_mul_of_nonneg_left h2.1 (by omega)
  omega
theorem cap_bd {P W X : List Int} (ht : treeB P W = true) (hX : ∀ i, -999 ≤ nth X i ∧ nth X i ≤ 999) (i : Nat) : ∀ x, x < P.length → -(999 * nth (gathM P W) x) ≤ capI P W X i x ∧ capI P W X i x ≤ 999 * nth (gathM P W) x := by
  obtain ⟨h1, h2, h3, h4⟩ := treeB_iff.1 ht
  induction i with
  | zero => intro x hx; exact pay_bd ht hX x hx
  | succ i ih =>
    intro x hx
    have hp := pay_bd ht hX x hx
    show _ ≤ capStep P (payS P W X) (capI P W X i) x ∧ capStep P (payS P W X) (capI P W X i) x ≤ _
    rw [capStep]
    split
    · exact hp
    · have hk := kidSum_abs (X := X) (z := x) ht (fun y _ hy => ih y hy) (P.length - 1) (by omega)
      have hr := gath_rec (a := W) h3 h2 x hx
      have hw := tree_wei ht x
      omega
/-- Partial sums of children stay small. -/
theorem kid_small {P W X : List Int} {F : Nat → Int} (ht : treeB P W = true) (hF : ∀ y, y < P.length → -(999 * nth (gathM P W) y) ≤ F y ∧ F y ≤ 999 * nth (gathM P W) y) (z j : Nat) (hz : z < P.length) (hj : j + 1 ≤ P.length) :
    -479520 ≤ kidSum P F z j ∧ kidSum P F z j ≤ 479520 := by
  obtain ⟨h1, h2, h3, h4⟩ := treeB_iff.1 ht
  have hk := kidSum_abs (X := X) (z := z) ht (fun y _ hy => hF y hy) j hj
  have hm := kidSum_mono (F := nth (gathM P W)) (z := z) (fun y _ hy => by have := sums_pos ht y hy; omega) h3 j (P.length - 1) (by omega) (by omega)
  have hr := gath_rec (a := W) h3 h2 z hz
  have hw := tree_wei ht z
  have hs := sums_le ht z
  omega
theorem cap_small {P W X : List Int} (ht : treeB P W = true) (hX : ∀ i, -999 ≤ nth X i ∧ nth X i ≤ 999) (i x : Nat) (hx : x < P.length) : -479520 ≤ capI P W X i x ∧ capI P W X i x ≤ 479520 := by
  have := cap_bd ht hX i x hx
  have := sums_le ht x
  omega
/-- The first k numbers of F, then noughts. -/
def preL (P : List Int) (F : Nat → Int) (k : Nat) : List Int := (List.range P.length).map fun x => if x < k then F x else 0
theorem preL_len (P : List Int) (F : Nat → Int) (k : Nat) : (preL P F k).length = P.length := by simp [preL]
theorem preL_zero (P : List Int) (F : Nat → Int) : preL P F 0 = List.replicate P.length 0 := by
  apply List.ext_getElem <;> simp [preL]
theorem preL_set {P : List Int} {F : Nat → Int} {k : Nat} : (preL P F k).set k (F k) = preL P F (k + 1) := by
  apply List.ext_getElem
  · simp [preL]
  · intro i h1 h2
    simp only [preL, List.getElem_set, List.getElem_map, List.getElem_range]
    by_cases e : k = i
    · subst e; simp
    · simp only [e, if_false]
      by_cases h : i < k
      · rw [if_pos h, if_pos (by omega)]
      · rw [if_neg h, if_neg (by omega)]
theorem preL_all (P : List Int) (F : Nat → Int) : preL P F P.length = (List.range P.length).map F := by
  apply List.ext_getElem
  · simp [preL]
  · intro i h1 h2
    simp only [preL, List.length_map, List.length_range] at h1
    simp [preL, h1]
/-- The sums of the children among the last j nodes, of all nodes. -/
def kidL (P : List Int) (F : Nat → Int) (j : Nat) : List Int := (List.range P.length).map fun z => kidSum P F z j
theorem kidL_len (P : List Int) (F : Nat → Int) (j : Nat) : (kidL P F j).length = P.length := by simp [kidL]
theorem kidL_nth {P : List Int} {F : Nat → Int} {j z : Nat} (h : z < P.length) : nth (kidL P F j) z = kidSum P F z j := by
  rw [nth_eq (by rw [kidL_len]; exact h)]; simp [kidL]
theorem kidL_zero (P : List Int) (F : Nat → Int) : kidL P F 0 = List.replicate P.length 0 := by
  apply List.ext_getElem <;> simp [kidL, kidSum]
theorem kidL_step {P : List Int} {F : Nat → Int} {j y : Nat} (hy : nth P (P.length - 1 - j) = (y : Int)) (hl : y < P.length) : (kidL P F j).set y (nth (kidL P F j) y + F (P.length - 1 - j)) = kidL P F (j + 1) := by
  rw [kidL_nth hl]
  apply List.ext_getElem
  · simp [kidL]
  · intro i h1 h2
    simp only [kidL, List.getElem_set, List.getElem_map, List.getElem_range, kidSum]
    by_cases e : y = i
    · subst e; rw [if_pos rfl, if_pos hy]
    · rw [if_neg e, if_neg (by omega)]; omega
end Go.Proofs.Ytojipjjfndgbhaa
/- Sums over children upward, and lists that are filled from behind: plain part. -/
set_option linter.unusedVariables false
namespace Go.Proofs.Ytojipjjfndgbhaa
open Go.ChangeShapes Go.WideShapes Go.ChangeAt Go.RowKit

/-- The sum of the children among the first k nodes. -/
def kidUp (P : List Int) (F : Nat → Int) (z : Nat) : Nat → Int
  | 0 => 0
  | k + 1 => kidUp P F z k + if nth P k = (z : Int) then F k else 0
theorem kidUp_part {P : List Int} {F : Nat → Int} {z : Nat} (j : Nat) (hj : j + 1 ≤ P.length) : kidUp P F z P.length = kidUp P F z (P.length - j) + kidSum P F z j := by
  induction j with
  | zero => simp [kidSum]
  | succ j ih =>
    have e : P.length - j = (P.length - 1 - j) + 1 := by omega
    rw [ih (by omega), e, kidUp, kidSum, show P.length - (j + 1) = P.length - 1 - j by omega]; omega
theorem kidUp_sum {P : List Int} {F : Nat → Int} {z : Nat} (hp : parB P = true) (hn : 1 ≤ P.length) : kidUp P F z P.length = kidSum P F z (P.length - 1) := by
  rw [kidUp_part (P.length - 1) (by omega), show P.length - (P.length - 1) = 0 + 1 by omega, kidUp, kidUp, (parB_iff.1 hp).1, if_neg (by omega)]; omega
def lsum (F : Nat → Int) (L : List Int) : Int := (L.map fun y => F y.toNat).sum
theorem lsum_take {F : Nat → Int} {L : List Int} {i : Nat} (h : i < L.length) : lsum F (L.take (i + 1)) = lsum F (L.take i) + F (nth L i).toNat := by
  rw [take_snoc L i h]; simp [lsum]
theorem lsum_zero (F : Nat → Int) (L : List Int) : lsum F (L.take 0) = 0 := by simp [lsum]
theorem lsum_kids (P : List Int) (F : Nat → Int) (z k : Nat) : lsum F (kidsTo P z k) = kidUp P F z k := by
  induction k with
  | zero => simp [kidsTo, lsum, kidUp]
  | succ k ih =>
    rw [kidsTo_succ, kidUp]
    by_cases h : nth P k = (z : Int)
    · rw [if_pos h, if_pos h, ← ih]; simp [lsum]
    · rw [if_neg h, if_neg h, ih]; omega
theorem lsum_bd {F : Nat → Int} {M : Int} (h : ∀ y, -M ≤ F y ∧ F y ≤ M) (L : List Int) : -(M * L.length) ≤ lsum F L ∧ lsum F L ≤ M * L.length := by
  induction L with
  | nil => simp [lsum]
  | cons y L ih =>
    have h1 := h y.toNat
    have : M * ((y :: L).length : Int) = M * L.length + M := by rw [List.length_cons, Int.natCast_add, Int.mul_add]; simp
    simp only [lsum, List.map_cons, List.sum_cons] at ih ⊢
    omega
theorem kids_nth {P : List Int} {x k i : Nat} (h : i < (kidsTo P x k).length) : ∃ y : Nat, nth (kidsTo P x k) i = (y : Int) ∧ y < k ∧ nth P y = (x : Int) := by
  have hm := nth_mem h
  simp only [kidsTo, List.mem_map, List.mem_filter, List.mem_range, beq_iff_eq] at hm
  obtain ⟨y, ⟨h1, h2⟩, h3⟩ := hm
  exact ⟨y, h3.symm, h1, h2⟩
/-- Noughts below k, the numbers of F from k on. -/
def sufL (P : List Int) (F : Nat → Int) (k : Nat) : List Int := (List.range P.length).map fun x => if x < k then 0 else F x
theorem sufL_len (P : List Int) (F : Nat → Int) (k : Nat) : (sufL P F k).length = P.length := by simp [sufL]
theorem sufL_nth {P : List Int} {F : Nat → Int} {k x : Nat} (h : x < P.length) : nth (sufL P F k) x = if x < k then 0 else F x := by
  rw [nth_eq (by rw [sufL_len]; exact h)]; simp [sufL]
theorem sufL_all (P : List Int) (F : Nat → Int) : sufL P F P.length = List.replicate P.length 0 := by
  apply List.ext_getElem
  · simp [sufL]
  · intro i h1 h2
    simp only [sufL, List.length_map, List.length_range] at h1
    simp [sufL, h1]
theorem sufL_zero (P : List Int) (F : Nat → Int) : sufL P F 0 = (List.range P.length).map F := by
  apply List.ext_getElem <;> simp [sufL]
theorem sufL_set {P : List Int} {F : Nat → Int} {k : Nat} (hk : k < P.length) : (sufL P F (k + 1)).set k (F k) = sufL P F k := by
  apply List.ext_getElem
  · simp [sufL]
  · intro i h1 h2
    simp only [sufL, List.getElem_set, List.getElem_map, List.getElem_range]
    by_cases e : k = i
    · subst e; simp
    · simp only [e, if_false]
      by_cases h : i < k
      · rw [if_pos h, if_pos (by omega)]
      · rw [if_neg h, if_neg (by omega)]
theorem capM_len (P W X : List Int) : (capM P W X).length = P.length := capL_len _ _ _ _
theorem wei_end {P W : List Int} (h : treeB P W = true) {x : Nat} (hx : x < P.length) : endB P x = (nth W x != 0) := by
  have h2 := weiOk_bd ((treeB_iff.1 h).2.2.2 x hx)
  rw [Bool.eq_iff_iff, h2.2.2, bne_iff_ne]; omega
/-- The numbers of the last round, from their own recurrence. -/
theorem cap_kids {P W X : List Int} (ht : treeB P W = true) {x : Nat} (hx : x < P.length) {L : List Int} (hl : ∀ y, x < y → y < P.length → nth L y = nth (capM P W X) y) :
    nth (capM P W X) x = if nth W x = 0 then max (payS P W X x) (kidUp P (nth L) x P.length) else payS P W X x := by
  obtain ⟨h1, h2, h3, h4⟩ := treeB_iff.1 ht
  rw [cap_rec h3 h1.2 x hx, wei_end ht hx, kidUp_sum h3 h1.1, kidSum_congr h3 hl _ (by omega)]
  by_cases e : nth W x = 0
  · rw [if_pos e, if_neg (by simp [e])]
  · rw [if_neg e, if_pos (by simp [e])]
end Go.Proofs.Ytojipjjfndgbhaa
