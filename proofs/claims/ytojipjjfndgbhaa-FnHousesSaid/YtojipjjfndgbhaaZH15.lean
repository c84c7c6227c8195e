import Derived.Test.YtojipjjfndgbhaaZH14
/- Contracts of the reference's deals: l12May, l12Make. -/
set_option linter.unusedVariables false
namespace Go.Proofs.Ytojipjjfndgbhaa
open Go.ChangeShapes Go.WideShapes Go.ChangeAt Go.RowKit

theorem l12Node_any (w : World) (p q a : Option Addr) (n c m d l b : Nat) (P W X : List Int) (x s u v y : Int) (hX : SL w a l b X) :
    Calls Try.prog 143 #[.agg #[.slice p n c, .slice q m d, .slice a l b, .int .i64 x, .int .i64 s, .int .i64 u, .int .i64 v], .int .i64 y] w fun e w' => e = .returned (.bool (inB y 0 ((l : Int) - 1))) ∧ Fr w w' := by
  have hl : l ≤ 9223372036854775807 := by have := hX.le; have := hX.mx; omega
  go_enter Try.func143, Try.ntmps143
  go_wp2_with (go_at_call 88; refine (l1In_any _ _ _ _).mono ?_; rintro e w' ⟨rfl, rfl⟩)
  go_ret
  exact ⟨rfl, (Fr.refl _).alloc _⟩

set_option maxRecDepth 100000 in
set_option maxHeartbeats 4000000 in
theorem l12May_any (w : World) (p q a : Option Addr) (n c m d l b : Nat) (P W X : List Int) (x s u v kd A B : Int) (hP : SL w p n c P) (hW : SL w q m d W) (hX : SL w a l b X) (h : houseB P W X x s u v = true) :
    Calls Try.prog 131 #[.agg #[.slice p n c, .slice q m d, .slice a l b, .int .i64 x, .int .i64 s, .int .i64 u, .int .i64 v], .agg #[.int .i64 kd, .int .i64 A, .int .i64 B]] w fun e w' => e = .returned (.bool (mayB P x kd A B)) ∧ Fr w w' := by
  have HP := Lib.hid hP.len; have HW := Lib.hid hW.len; have HX := Lib.hid hX.len
  have hfr : Fr w ((w.alloc (.cells #[.slice p n c, .slice q m d, .slice a l b, .int .i64 x, .int .i64 s, .int .i64 u, .int .i64 v] 31)).alloc (.cells #[.int .i64 kd, .int .i64 A, .int .i64 B] 58)) := ((Fr.refl w).alloc _).alloc _
  have hb0 := (Blk.new w #[.slice p n c, .slice q m d, .slice a l b, .int .i64 x, .int .i64 s, .int .i64 u, .int .i64 v] 31).alloc (.cells #[.int .i64 kd, .int .i64 A, .int .i64 B] 58)
  have hb1 := Blk.new (w.alloc (.cells #[.slice p n c, .slice q m d, .slice a l b, .int .i64 x, .int .i64 s, .int .i64 u, .int .i64 v] 31)) #[.int .i64 kd, .int .i64 A, .int .i64 B] 58
  simp only [World.size_alloc] at hb1
  have H0 := Lib.hid hb0; have H1 := Lib.hid hb1
  clear hb0 hb1
  obtain ⟨t1, t2, t3, t4⟩ := houseB_parts h
  have Ht := Lib.hid t1
  obtain ⟨g1, g2, g3, -⟩ := treeB_iff.1 t1
  have Hp := Lib.hid g3
  have hml : m = n := by rw [← HW.out, g2, HP.out]
  have hll : l = n := by rw [← HX.out, (procB_iff.1 t2).1, HP.out]
  subst hml; subst hll
  rw [HP.out] at g1 t4
  obtain ⟨y, rfl⟩ := Int.eq_ofNat_of_zero_le t3
  have i0 : (0 : Int) ≤ (y : Int) := by omega
  clear t1 t2 t3 g2 g3 h
  have m0 := H0.out.cell (j := 0) rfl; have m1 := H0.out.cell (j := 1) rfl; have m2 := H0.out.cell (j := 2) rfl; have m3 := H0.out.cell (j := 3) rfl; have m4 := H0.out.cell (j := 4) rfl; have m5 := H0.out.cell (j := 5) rfl; have m6 := H0.out.cell (j := 6) rfl
  have n0 := H1.out.cell (j := 0) rfl; have n1 := H1.out.cell (j := 1) rfl; have n2 := H1.out.cell (j := 2) rfl
  have hP1 := hP.fr hfr; have hW1 := hW.fr hfr; have hX1 := hX.fr hfr
  have zz := hfr.size
  generalize hw1 : ((w.alloc (.cells #[.slice p l c, .slice q l d, .slice a l b, .int .i64 y, .int .i64 s, .int .i64 u, .int .i64 v] 31)).alloc (.cells #[.int .i64 kd, .int .i64 A, .int .i64 B] 58)) = w1 at H0 H1 hfr m0 m1 m2 m3 m4 m5 m6 n0 n1 n2 hP1 hW1 hX1 zz
  by_cases k1 : kd = 1
  · subst k1
    by_cases hB0 : B = 0
    · subst hB0
      have HM : Hid (mayB P y 1 A 0 = decide (A ∈ kidsTo P y l)) := Lib.hid (by
        show ((0 == 0) && decide (A ∈ kidsTo P (y : Int).toNat P.length)) = _
        rw [Int.toNat_natCast, HP.out]; rfl)
      go_enter Try.func131, Try.ntmps131
      go_wp2
      go_region_held3 (fun w' => w'.cell? ⟨w.heap.size, 0, none⟩ = some (.slice p l c) ∧ w'.cell? ⟨w.heap.size, 1, none⟩ = some (.slice q l d) ∧ w'.cell? ⟨w.heap.size, 3, none⟩ = some (.int .i64 y) ∧ w'.cell? ⟨w.heap.size + 1, 1, none⟩ = some (.int .i64 A) ∧ w'.cell? ⟨w.heap.size + 1, 2, none⟩ = some (.int .i64 0))
        (first
          | go_keep
          | (exact ⟨f5.keep m0, f5.keep m1, f5.keep m3, f5.keep n1, f5.keep n2⟩))
        (first
          | (go_at_call 136; refine (l2Kids_any _ _ _ _ _ _ _ y P (hP1.fr (Fr.drewN _ 1)) Hp.out (by omega) (by omega)).mono ?_; rintro e w5 ⟨a5, n5, c5, rfl, o5, f5, _⟩)
          | (go_at_call 142; refine (l1Has_any _ _ _ _ _ A o5.sl).mono ?_; rintro e w6 ⟨rfl, rfl⟩))
      have F5 : Fr w1 w5 := (Fr.drewN _ 1).trans f5
      go_wp2
      go_ret
      exact ⟨by rw [HM.out]; rfl, hfr.trans F5⟩
    · have HM : Hid (mayB P y 1 A B = false) := Lib.hid (by
        show ((B == 0) && decide (A ∈ kidsTo P (y : Int).toNat P.length)) = false
        rw [beq_eq_false_iff_ne.2 hB0]; rfl)
      have hb0 : (B == 0) = false := by simp [hB0]
      clear hB0
      go_enter Try.func131, Try.ntmps131
      go_wp2
      go_quiet (fail)
      go_wp2
      go_ret
      exact ⟨by rw [HM.out]; rfl, hfr.drew' _⟩
  by_cases k2 : kd = 2
  · subst k2
    have HM : Hid (mayB P y 2 A B = (B == 0)) := Lib.hid rfl
    clear m0 m1 m2 m3 m4 m5 m6 n0 n1 n2 hw1
    go_enter Try.func131, Try.ntmps131
    go_wp2
    go_ret
    exact ⟨by rw [HM.out]; rfl, ((Fr.refl w).alloc _).alloc _⟩
  by_cases k3 : kd = 3
  · subst k3
    have HM : Hid (mayB P y 3 A B = ((B == 0) && inB A (-999) 999)) := Lib.hid rfl
    clear m0 m1 m2 m3 m4 m5 m6 n0 n1 n2 hw1
    cases hb : (B == 0) <;> cases hi : inB A (-999) 999
    all_goals
      have HM2 := Lib.hid (show mayB P y 3 A B = _ from by rw [HM.out, hb, hi])
      go_enter Try.func131, Try.ntmps131
      go_wp2_with (go_at_call 88; refine (l1In_any _ _ _ _).mono ?_; rintro e w' ⟨rfl, rfl⟩)
      go_ret
      exact ⟨by rw [HM2.out]; rfl, ((Fr.refl w).alloc _).alloc _⟩
  by_cases k4 : kd = 4
  · subst k4
    have HM : Hid (mayB P y 4 A B = ((A == 0) && (B == 0))) := Lib.hid rfl
    clear m0 m1 m2 m3 m4 m5 m6 n0 n1 n2 hw1
    cases hb : (A == 0) <;> cases hi : (B == 0)
    all_goals
      have HM2 := Lib.hid (show mayB P y 4 A B = _ from by rw [HM.out, hb, hi])
      go_enter Try.func131, Try.ntmps131
      go_wp2
      go_ret
      exact ⟨by rw [HM2.out]; rfl, ((Fr.refl w).alloc _).alloc _⟩
  by_cases k5 : kd = 5
  · subst k5
    have HM : Hid (mayB P y 5 A B = inB A 0 ((l : Int) - 1)) := Lib.hid (by rw [← HP.out]; rfl)
    subst hw1
    go_enter Try.func131, Try.ntmps131
    go_wp2_with fail
    refine (l12Node_any _ _ _ _ _ _ _ _ _ _ P W X _ _ _ _ A hX1).mono ?_
    rintro e w5 ⟨rfl, f5⟩
    go_wp2
    go_ret
    exact ⟨by rw [HM.out]; rfl, hfr.trans f5⟩
  by_cases k6 : kd = 6
  · subst k6
    have HM : Hid (mayB P y 6 A B = (inB A 0 ((l : Int) - 1) && decide (0 < nth W A.toNat))) := Lib.hid (by
      show decide (A ∈ endsM P) = _
      rw [Bool.eq_iff_iff, decide_eq_true_eq, ends_wei Ht.out, HP.out, Bool.and_eq_true, decide_eq_true_eq])
    subst hw1
    go_enter Try.func131, Try.ntmps131
    go_wp2_with fail
    refine (l12Node_any _ _ _ _ _ _ _ _ _ _ P W X _ _ _ _ A hX1).mono ?_
    rintro e w5 ⟨rfl, f5⟩
    cases hi : inB A 0 ((l : Int) - 1)
    · have HM2 : Hid (mayB P y 6 A B = false) := Lib.hid (by rw [HM.out, hi]; rfl)
      go_wp2
      go_ret
      exact ⟨by rw [HM2.out]; rfl, hfr.trans f5⟩
    · obtain ⟨ha0, ha1⟩ := inB_iff.1 hi
      obtain ⟨z, rfl⟩ := Int.eq_ofNat_of_zero_le ha0
      have hzl : z < l := by omega
      have HM2 : Hid (mayB P y 6 z B = decide (0 < nth W z)) := Lib.hid (by rw [HM.out, hi]; rfl)
      obtain ⟨bw, ow, rfl, hcw⟩ := (hW1.fr f5).cells.resolve_left (by omega)
      replace hcw := hcw z hzl
      have n1' := (H1.out.fr f5).cell (j := 1) rfl
      have m1' := (H0.out.fr f5).cell (j := 1) rfl
      clear m0 m1 m2 m3 m4 m5 m6 n0 n1 n2
      go_wp2
      go_ret
      exact ⟨by rw [HM2.out]; rfl, hfr.trans f5⟩
  have HM : Hid (mayB P y kd A B = false) := Lib.hid (by rw [mayB, if_neg k1, if_neg k2, if_neg k3, if_neg k4, if_neg k5, if_neg k6])
  have b1 : (kd == 1) = false := by simp [k1]
  have b2' : (kd == 2) = false := by simp [k2]
  have b3 : (kd == 3) = false := by simp [k3]
  have b4 : (kd == 4) = false := by simp [k4]
  have b5 : (kd == 5) = false := by simp [k5]
  have b6 : (kd == 6) = false := by simp [k6]
  clear k1 k2 k3 k4 k5 k6 m0 m1 m2 m3 m4 m5 m6 n0 n1 n2 hw1
  go_enter Try.func131, Try.ntmps131
  go_wp2
  go_ret
  exact ⟨by rw [HM.out]; rfl, ((Fr.refl w).alloc _).alloc _⟩

end Go.Proofs.Ytojipjjfndgbhaa
/- The contract of the reference's l12Make. -/
set_option linter.unusedVariables false
namespace Go.Proofs.Ytojipjjfndgbhaa
open Go.ChangeShapes Go.WideShapes Go.ChangeAt Go.RowKit

set_option maxRecDepth 100000 in
set_option maxHeartbeats 4000000 in
theorem l12Make_any (w : World) (p q a : Option Addr) (n c m d l b : Nat) (P W X : List Int) (x s u v kd A B : Int) (hP : SL w p n c P) (hW : SL w q m d W) (hX : SL w a l b X) (hx : I64 x) (hs : I64 s) (hu : I64 u) (hv : I64 v) (hk : I64 kd) (hA : I64 A) (hB : I64 B) (h : houseB P W X x s u v = true) (hmay : mayB P x kd A B = true) :
    Calls Try.prog 132 #[.agg #[.slice p n c, .slice q m d, .slice a l b, .int .i64 x, .int .i64 s, .int .i64 u, .int .i64 v], .agg #[.int .i64 kd, .int .i64 A, .int .i64 B]] w (RetH P (dW W kd A B) (dX X kd A B) (dAt x kd A) (dSt s kd A) (dPu X x s u kd A) v w) := by
  have HP := Lib.hid hP.len; have HW := Lib.hid hW.len; have HX := Lib.hid hX.len
  have hfr : Fr w (((w.alloc (.cells #[.slice p n c, .slice q m d, .slice a l b, .int .i64 x, .int .i64 s, .int .i64 u, .int .i64 v] 31)).alloc (.cells #[.int .i64 kd, .int .i64 A, .int .i64 B] 58)).alloc (.cells #[.slice none 0 0, .slice none 0 0, .slice none 0 0, .int .i64 0, .int .i64 0, .int .i64 0, .int .i64 0] 31)) := (((Fr.refl w).alloc _).alloc _).alloc _
  have hb0 := ((Blk.new w #[.slice p n c, .slice q m d, .slice a l b, .int .i64 x, .int .i64 s, .int .i64 u, .int .i64 v] 31).alloc (.cells #[.int .i64 kd, .int .i64 A, .int .i64 B] 58)).alloc (.cells #[.slice none 0 0, .slice none 0 0, .slice none 0 0, .int .i64 0, .int .i64 0, .int .i64 0, .int .i64 0] 31)
  have hb1 := (Blk.new (w.alloc (.cells #[.slice p n c, .slice q m d, .slice a l b, .int .i64 x, .int .i64 s, .int .i64 u, .int .i64 v] 31)) #[.int .i64 kd, .int .i64 A, .int .i64 B] 58).alloc (.cells #[.slice none 0 0, .slice none 0 0, .slice none 0 0, .int .i64 0, .int .i64 0, .int .i64 0, .int .i64 0] 31)
  have hb2 := Blk.new ((w.alloc (.cells #[.slice p n c, .slice q m d, .slice a l b, .int .i64 x, .int .i64 s, .int .i64 u, .int .i64 v] 31)).alloc (.cells #[.int .i64 kd, .int .i64 A, .int .i64 B] 58)) #[.slice none 0 0, .slice none 0 0, .slice none 0 0, .int .i64 0, .int .i64 0, .int .i64 0, .int .i64 0] 31
  simp only [World.size_alloc] at hb1 hb2
  have H0 := Lib.hid hb0; have H1 := Lib.hid hb1; have H2 := Lib.hid hb2
  clear hb0 hb1 hb2
  obtain ⟨t1, t2, t3, t4⟩ := houseB_parts h
  obtain ⟨-, r1, r2, r3⟩ := houseB_all h
  have Ht := Lib.hid t1
  have Hv := Lib.hid (nth_bd (procB_iff.1 t2).2 (by omega) (by omega))
  obtain ⟨g1, g2, g3, -⟩ := treeB_iff.1 t1
  have Hp := Lib.hid g3
  have Hm := Lib.hid hmay
  have hml : m = n := by rw [← HW.out, g2, HP.out]
  have hll : l = n := by rw [← HX.out, (procB_iff.1 t2).1, HP.out]
  subst hml; subst hll
  rw [HP.out] at g1 t4
  obtain ⟨y, rfl⟩ := Int.eq_ofNat_of_zero_le t3
  clear t1 t2 t3 g2 g3 h hmay
  have k0 := H0.out.cell (j := 0) rfl; have k1 := H0.out.cell (j := 1) rfl; have k2 := H0.out.cell (j := 2) rfl; have k3 := H0.out.cell (j := 3) rfl; have k4 := H0.out.cell (j := 4) rfl; have k5 := H0.out.cell (j := 5) rfl; have k6 := H0.out.cell (j := 6) rfl
  go_enter Try.func132, Try.ntmps132
  go_wp2_with fail
  clear k0 k1 k2 k3 k4 k5 k6
  refine (l12Own_any _ _ _ _ _ _ _ _ _ _ _ _ _ _ _ _ _ (hP.fr hfr) (hW.fr hfr) (hX.fr hfr) (by omega) (by omega) (by omega)).mono ?_
  rintro e w2 ⟨p2, n2, c2, q2, m2, d2, a2, l2, b2, M, N, rfl, o1, o2, o3, W1, W2, y1, y2, y3, f2, e1, e2, e3⟩
  have N1 : n2 = l := by rw [← o1.len, HP.out]
  have N2 : m2 = l := by rw [← o2.len, HW.out]
  have N3 : l2 = l := by rw [← o3.len, HX.out]
  subst N1; subst N2; subst N3
  have z2 := f2.size
  simp only [World.size_alloc] at z2 y1 o1
  have W3 := o3.within
  have W1' : Within p2 (w.heap.size + 1 + 1 + 1) M := fun k hk => by have := W1 k hk; simpa using this
  have hne1 : blkOf p2 ≠ some w2.heap.size := fun e => by have := W1 _ e; omega
  have hne2 : blkOf q2 ≠ some w2.heap.size := fun e => by have := W2 _ e; omega
  have hne3 : blkOf a2 ≠ some w2.heap.size := fun e => by have := W3 _ e; omega
  clear W1
  go_upto_region 2 with fail
  have fa : Fr w2 (w2.alloc (.cells #[.slice p2 l2 c2, .slice q2 l2 d2, .slice a2 l2 b2, .int .i64 y, .int .i64 s, .int .i64 u, .int .i64 v] 31)) := (Fr.refl _).alloc _
  have bG := Lib.hid (Blk.new w2 #[.slice p2 l2 c2, .slice q2 l2 d2, .slice a2 l2 b2, .int .i64 y, .int .i64 s, .int .i64 u, .int .i64 v] 31)
  have z3 := World.size_alloc w2 (.cells #[.slice p2 l2 c2, .slice q2 l2 d2, .slice a2 l2 b2, .int .i64 y, .int .i64 s, .int .i64 u, .int .i64 v] 31)
  generalize hw3 : w2.alloc (.cells #[.slice p2 l2 c2, .slice q2 l2 d2, .slice a2 l2 b2, .int .i64 y, .int .i64 s, .int .i64 u, .int .i64 v] 31) = w3 at fa bG z3 ⊢
  clear hw3
  have Z3 := Lib.hid z3
  have F3 := (hfr.trans f2).trans fa
  replace o1 := o1.fr fa; replace o2 := o2.fr fa; replace o3 := o3.fr fa
  have B0 := Lib.hid ((H0.out.fr f2).fr fa); have B1 := Lib.hid ((H1.out.fr f2).fr fa); have B2 := Lib.hid ((H2.out.fr f2).fr fa)
  clear z3 f2 fa H0 H1 H2
  have gG := Lib.hid (show w.heap.size + 1 + 1 + 1 ≤ w2.heap.size by omega)
  have m0 := B0.out.cell (j := 0) rfl; have m1 := B0.out.cell (j := 1) rfl; have m2 := B0.out.cell (j := 2) rfl; have m3 := B0.out.cell (j := 3) rfl; have m4 := B0.out.cell (j := 4) rfl; have m5 := B0.out.cell (j := 5) rfl
  have n0 := B1.out.cell (j := 0) rfl; have n1 := B1.out.cell (j := 1) rfl; have n2 := B1.out.cell (j := 2) rfl
  go_upto_block 0 with fail
  go_cut [] (fun wx => DealCut w w2.heap.size P W X y s u v kd A B p2 l2 c2 q2 l2 d2 a2 l2 b2 (w.heap.size + 1 + 1 + 1) M N (.bool (mayB P y kd A B)) wx)
  case first =>
    have gg := gG.out
    have z3 := Z3.out
    have i0 : (0 : Int) ≤ (y : Int) := by omega
    have gne : w.heap.size + 1 + 1 ≠ w2.heap.size := by omega
    have gne' : w2.heap.size ≠ w.heap.size + 1 + 1 := by omega
    by_cases k1 : kd = 1
    · subst k1
      have HM : Hid (B = 0 ∧ A ∈ kidsTo P y l2) := Lib.hid (by
        have h : ((B == 0) && decide (A ∈ kidsTo P (y : Int).toNat P.length)) = true := Hm.out
        rw [Bool.and_eq_true, decide_eq_true_eq, beq_iff_eq, Int.toNat_natCast, HP.out] at h; exact h)
      obtain ⟨z, rfl, hzl, _⟩ := kids_mem.1 HM.out.2
      obtain ⟨bx, ox, rfl, hcx⟩ := (hX.fr F3).cells.resolve_left (by omega)
      have hcz := hcx z hzl
      have hcy := hcx y (by omega)
      have v1 := Hv.out z
      have v2 := Hv.out y
      have v3 := dPu_bd r1 v1 v2
      have i1 : (y : Int) < (l2 : Int) := by omega
      have i2 : (0 : Int) ≤ (z : Int) := by omega
      have i3 : (z : Int) < (l2 : Int) := by omega
      have qG5 := bG.out.cell (j := 5) rfl
      have hfG5 := bG.out.free 5
      have qG3 := bG.out.cell (j := 3) rfl
      have hfG3 := bG.out.free 3
      clear hcx
      have w1' : IntKind.i64.wrap (nth X z - nth X y) = nth X z - nth X y := IntWalk.i64_in _ (by omega)
      have w2' : IntKind.i64.wrap (s * (nth X z - nth X y)) = s * (nth X z - nth X y) := IntWalk.i64_in _ (by omega)
      have w3' : IntKind.i64.wrap (u + s * (nth X z - nth X y)) = u + s * (nth X z - nth X y) := IntWalk.i64_in _ (by omega)
      go_wp2
      go_region
      clear w1' w2' w3'
      have nne : w.heap.size + 1 ≠ w2.heap.size := by omega
      have nne' : w2.heap.size ≠ w.heap.size + 1 := by omega
      go_wp2
      go_meet
      exact ⟨W, X, z, s, u + s * (nth X z - nth X y), rfl, (fun _ => ⟨rfl, rfl, rfl, rfl, by rw [dPu, if_pos rfl, Int.toNat_natCast, Int.toNat_natCast]⟩), ((bG.out.set 5 (.int .i64 (u + s * (nth X z - nth X y)))).set 3 (.int .i64 z)).fr (Fr.drewN _ 1), ((B2.out.other gne' _).other gne' _).fr (Fr.drewN _ 1), ((o1.setOther (p := ⟨w2.heap.size, 5, none⟩) hne1 _).setOther (p := ⟨w2.heap.size, 3, none⟩) hne1 _).drewN 1, ((o2.setOther (p := ⟨w2.heap.size, 5, none⟩) hne2 _).setOther (p := ⟨w2.heap.size, 3, none⟩) hne2 _).drewN 1, ((o3.setOther (p := ⟨w2.heap.size, 5, none⟩) hne3 _).setOther (p := ⟨w2.heap.size, 3, none⟩) hne3 _).drewN 1, ((F3.setCell (by dsimp only; omega) _).setCell (by dsimp only; omega) _).drew' 1, by simp; omega, by unfold I64; omega, hs, by unfold I64; omega⟩
    by_cases k2 : kd = 2
    · subst k2
      have qG := bG.out.cell (j := 4) rfl
      have hfG := bG.out.free 4
      go_wp2
      go_meet
      exact ⟨W, X, y, A, u, rfl, fun _ => ⟨rfl, rfl, rfl, rfl, rfl⟩, bG.out.set 4 (.int .i64 A), B2.out.other gne' _, o1.setOther hne1 _, o2.setOther hne2 _, o3.setOther hne3 _, F3.setCell (by dsimp only; omega) _, by simp; omega, hx, hA, hu⟩
    by_cases k3 : kd = 3
    · subst k3
      have hA2 : -999 ≤ A ∧ A ≤ 999 := by
        have h : ((B == 0) && inB A (-999) 999) = true := Hm.out
        rw [Bool.and_eq_true, inB_iff] at h; exact h.2
      have qG := bG.out.cell (j := 5) rfl
      have hfG := bG.out.free 5
      go_wp2
      go_meet
      exact ⟨W, X, y, s, u + A, rfl, fun _ => ⟨rfl, rfl, rfl, rfl, rfl⟩, bG.out.set 5 (.int .i64 (u + A)), B2.out.other gne' _, o1.setOther hne1 _, o2.setOther hne2 _, o3.setOther hne3 _, F3.setCell (by dsimp only; omega) _, by simp; omega, hx, hs, by unfold I64; omega⟩
    by_cases k4 : kd = 4
    · subst k4
      have qG := bG.out.cell (j := 3) rfl
      have hfG := bG.out.free 3
      go_wp2
      go_meet
      exact ⟨W, X, 0, s, u, rfl, fun _ => ⟨rfl, rfl, rfl, rfl, rfl⟩, bG.out.set 3 (.int .i64 0), B2.out.other gne' _, o1.setOther hne1 _, o2.setOther hne2 _, o3.setOther hne3 _, F3.setCell (by dsimp only; omega) _, by simp; omega, by unfold I64; omega, hs, hu⟩
    by_cases k5 : kd = 5
    · subst k5
      have hi : inB A 0 ((l2 : Int) - 1) = true := by rw [← HP.out]; exact Hm.out
      obtain ⟨ha0, ha1⟩ := inB_iff.1 hi
      obtain ⟨z, rfl⟩ := Int.eq_ofNat_of_zero_le ha0
      have hzl : z < l2 := by omega
      obtain ⟨g3, rfl, hg3, hg3', hcc, hfro⟩ := o3.op (by omega)
      have hcz := hcc z hzl
      have hfz := hfro z
      have qG := bG.out.cell (j := 2) rfl
      clear hi hcc hfro
      have hg1 : blkOf p2 ≠ some g3 := fun e => by have := W1' _ e; omega
      have hg2 : blkOf q2 ≠ some g3 := fun e => by have := W2 _ e; omega
      have hgG : g3 ≠ w2.heap.size := fun e => hne3 (by rw [← e]; rfl)
      have hgR : g3 ≠ w.heap.size + 1 + 1 := by omega
      go_wp2
      go_meet
      exact ⟨W, X.set z B, y, s, u, rfl, (fun _ => ⟨rfl, by rw [dX, if_pos rfl, Int.toNat_natCast], rfl, rfl, rfl⟩), bG.out.other hgG _, B2.out.other hgR _, o1.setOther hg1 _, o2.setOther hg2 _, o3.set rfl hzl hB, F3.setCell (by dsimp only; omega) _, by simp; omega, hx, hs, hu⟩
    by_cases k6 : kd = 6
    · subst k6
      have hm : A ∈ endsM P := by
        have h : decide (A ∈ endsM P) = true := Hm.out
        exact of_decide_eq_true h
      obtain ⟨z, rfl, hzl, _⟩ := ends_mem.1 hm
      rw [HP.out] at hzl
      obtain ⟨g3, rfl, hg3, hg3', hcc, hfro⟩ := o2.op (by omega)
      have hcz := hcc z hzl
      have hfz := hfro z
      have qG := bG.out.cell (j := 1) rfl
      clear hm hcc hfro
      have hg1 : blkOf p2 ≠ some g3 := fun e => by have := W1' _ e; omega
      have hg2 : blkOf a2 ≠ some g3 := fun e => by have := W2 g3 rfl; have := W3 _ e; omega
      have hgG : g3 ≠ w2.heap.size := fun e => hne2 (by rw [← e]; rfl)
      have hgR : g3 ≠ w.heap.size + 1 + 1 := by omega
      go_wp2
      go_meet
      exact ⟨W.set z B, X, y, s, u, rfl, (fun _ => ⟨by rw [dW, if_pos rfl, Int.toNat_natCast], rfl, rfl, rfl, rfl⟩), bG.out.other hgG _, B2.out.other hgR _, o1.setOther hg1 _, o2.set rfl hzl hB, o3.setOther hg2 _, F3.setCell (by dsimp only; omega) _, by simp; omega, hx, hs, hu⟩
    exfalso
    have h := Hm.out
    rw [mayB, if_neg k1, if_neg k2, if_neg k3, if_neg k4, if_neg k5, if_neg k6] at h
    cases h
  case rest =>
    obtain ⟨W', X', t', s', u', -, hpos, hG, h2, o1', o2', o3', hF, hN, it, is, iu⟩ := hcut
    obtain ⟨rfl, rfl, rfl, rfl, rfl⟩ := hpos Hm.out
    clear m0 m1 m2 m3 m4 m5 n0 n1 n2 o1 o2 o3 hpos Z3 F3 B0 B1 B2
    have HG := Lib.hid hG; have H2 := Lib.hid h2
    clear hG h2
    have q0 := HG.out.cell (j := 0) rfl; have q1 := HG.out.cell (j := 1) rfl; have q2' := HG.out.cell (j := 2) rfl; have q3 := HG.out.cell (j := 3) rfl; have q4 := HG.out.cell (j := 4) rfl; have q5 := HG.out.cell (j := 5) rfl; have q6 := HG.out.cell (j := 6) rfl
    have j0 := H2.out.cell (j := 0) rfl; have j1 := H2.out.cell (j := 1) rfl; have j2 := H2.out.cell (j := 2) rfl; have j3 := H2.out.cell (j := 3) rfl; have j4 := H2.out.cell (j := 4) rfl; have j5 := H2.out.cell (j := 5) rfl; have j6 := H2.out.cell (j := 6) rfl
    have i0 := H2.out.free 0; have i1 := H2.out.free 1; have i2 := H2.out.free 2; have i3 := H2.out.free 3; have i4 := H2.out.free 4; have i5 := H2.out.free 5; have i6 := H2.out.free 6
    go_wp2
    have E := (((((((H2.out.set 0 (.slice p2 l2 c2)).set 1 (.slice q2 l2 d2)).set 2 (.slice a2 l2 b2)).set 3 (.int .i64 (dAt y kd A))).set 4 (.int .i64 (dSt s kd A))).set 5 (.int .i64 (dPu X y s u kd A))).set 6 (.int .i64 v))
    simp only [List.setIfInBounds_toArray, List.set_cons_zero, List.set_cons_succ] at E
    refine bodyPost_ret (results_H Try.results132 _ _ (w.heap.size + 1 + 1) _ _ _ _ _ _ _ rfl (E.cell rfl) (E.cell rfl) (E.cell rfl) (E.cell rfl) (E.cell rfl) (E.cell rfl) (E.cell rfl)) rfl ?_
    refine ⟨p2, l2, c2, q2, l2, d2, a2, l2, b2, M, N, rfl, ?_, ?_, ?_, fun k hk => by have := W1' k hk; omega, W2, by omega, y2, by simpa using hN, ?_, e1, e2, e3⟩
    · refine Own.mono ?_ (show w.heap.size ≤ w.heap.size + 1 + 1 + 1 by omega)
      iterate 7 refine Own.past ?_ (by dsimp only; omega) _
      exact o1'
    · iterate 7 refine Own.past ?_ (by dsimp only; omega) _
      exact o2'
    · iterate 7 refine Own.past ?_ (by dsimp only; omega) _
      exact o3'
    · iterate 7 refine Fr.setCell ?_ (by dsimp only; omega) _
      exact hF

end Go.Proofs.Ytojipjjfndgbhaa
