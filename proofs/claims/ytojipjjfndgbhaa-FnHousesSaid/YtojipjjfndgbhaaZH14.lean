import Derived.Test.YtojipjjfndgbhaaZH13
import Derived.Deep.CutBlock
/- The contract of DealHouse. -/
set_option linter.unusedVariables false
namespace Go.Proofs.Ytojipjjfndgbhaa
open Go.ChangeShapes Go.WideShapes Go.ChangeAt Go.RowKit

theorem Own.nil (B : Nat) (w : World) : Own B w none 0 0 [] := ⟨World.ownsRow_nil _ _ _ _, by simp⟩
/-- What a deal's switch leaves. -/
def DealCut (w : World) (G : Nat) (P W X : List Int) (t s u v kd A B : Int) (p : Option Addr) (n c : Nat) (q : Option Addr) (m d : Nat) (a : Option Addr) (l b : Nat) (L M N : Nat) (s7 : Value) (wx : World) : Prop :=
  ∃ (W' X' : List Int) (t' s' u' : Int), s7 = .bool (mayB P t kd A B) ∧ (mayB P t kd A B = true → W' = dW W kd A B ∧ X' = dX X kd A B ∧ t' = dAt t kd A ∧ s' = dSt s kd A ∧ u' = dPu X t s u kd A) ∧
    Blk wx G #[.slice p n c, .slice q m d, .slice a l b, .int .i64 t', .int .i64 s', .int .i64 u', .int .i64 v] 31 ∧ Blk wx (w.heap.size + 2) #[.slice none 0 0, .slice none 0 0, .slice none 0 0, .int .i64 0, .int .i64 0, .int .i64 0, .int .i64 0] 31 ∧
    Own L wx p n c P ∧ Own M wx q m d W' ∧ Own N wx a l b X' ∧ Fr w wx ∧ N ≤ wx.heap.size ∧ I64 t' ∧ I64 s' ∧ I64 u'

set_option maxRecDepth 100000 in
set_option maxHeartbeats 4000000 in
theorem impl_DealHouse_any (w : World) (p q a : Option Addr) (n c m d l b : Nat) (P W X : List Int) (x s u v kd A B : Int) (hP : SL w p n c P) (hW : SL w q m d W) (hX : SL w a l b X) (hx : I64 x) (hs : I64 s) (hu : I64 u) (hv : I64 v) (hk : I64 kd) (hA : I64 A) (hB : I64 B) :
    Calls Try.prog 44 #[.agg #[.slice p n c, .slice q m d, .slice a l b, .int .i64 x, .int .i64 s, .int .i64 u, .int .i64 v], .agg #[.int .i64 kd, .int .i64 A, .int .i64 B]] w
      (RetHB (nhV (dealB P W X x s u v kd A B) P) (nhV (dealB P W X x s u v kd A B) (dW W kd A B)) (nhV (dealB P W X x s u v kd A B) (dX X kd A B)) (dV (dealB P W X x s u v kd A B) (dAt x kd A)) (dV (dealB P W X x s u v kd A B) (dSt s kd A)) (dV (dealB P W X x s u v kd A B) (dPu X x s u kd A)) (dV (dealB P W X x s u v kd A B) (v + 1)) (dealB P W X x s u v kd A B) w) := by
  have HP := Lib.hid hP.len; have HW := Lib.hid hW.len; have HX := Lib.hid hX.len
  have hfr : Fr w (((w.alloc (.cells #[.slice p n c, .slice q m d, .slice a l b, .int .i64 x, .int .i64 s, .int .i64 u, .int .i64 v] 31)).alloc (.cells #[.int .i64 kd, .int .i64 A, .int .i64 B] 58)).alloc (.cells #[.slice none 0 0, .slice none 0 0, .slice none 0 0, .int .i64 0, .int .i64 0, .int .i64 0, .int .i64 0] 31)) := (((Fr.refl w).alloc _).alloc _).alloc _
  have hb0 := ((Blk.new w #[.slice p n c, .slice q m d, .slice a l b, .int .i64 x, .int .i64 s, .int .i64 u, .int .i64 v] 31).alloc (.cells #[.int .i64 kd, .int .i64 A, .int .i64 B] 58)).alloc (.cells #[.slice none 0 0, .slice none 0 0, .slice none 0 0, .int .i64 0, .int .i64 0, .int .i64 0, .int .i64 0] 31)
  have hb1 := (Blk.new (w.alloc (.cells #[.slice p n c, .slice q m d, .slice a l b, .int .i64 x, .int .i64 s, .int .i64 u, .int .i64 v] 31)) #[.int .i64 kd, .int .i64 A, .int .i64 B] 58).alloc (.cells #[.slice none 0 0, .slice none 0 0, .slice none 0 0, .int .i64 0, .int .i64 0, .int .i64 0, .int .i64 0] 31)
  have hb2 := Blk.new ((w.alloc (.cells #[.slice p n c, .slice q m d, .slice a l b, .int .i64 x, .int .i64 s, .int .i64 u, .int .i64 v] 31)).alloc (.cells #[.int .i64 kd, .int .i64 A, .int .i64 B] 58)) #[.slice none 0 0, .slice none 0 0, .slice none 0 0, .int .i64 0, .int .i64 0, .int .i64 0, .int .i64 0] 31
  simp only [World.size_alloc] at hb1 hb2
  have H0 := Lib.hid hb0; have H1 := Lib.hid hb1; have H2 := Lib.hid hb2
  clear hb0 hb1 hb2
  have k0 := H0.out.cell (j := 0) rfl; have k1 := H0.out.cell (j := 1) rfl; have k2 := H0.out.cell (j := 2) rfl; have k3 := H0.out.cell (j := 3) rfl; have k4 := H0.out.cell (j := 4) rfl; have k5 := H0.out.cell (j := 5) rfl; have k6 := H0.out.cell (j := 6) rfl
  go_enter Try.func44, Try.ntmps44
  go_wp2_with fail
  clear k0 k1 k2 k3 k4 k5 k6
  refine (impl_IsHouse_any _ _ _ _ _ _ _ _ _ _ _ _ _ (hP.fr hfr) (hW.fr hfr) (hX.fr hfr) _ _ _ _).mono ?_
  rintro e w1 ⟨rfl, f1⟩
  have z1 := f1.size
  simp only [World.size_alloc] at z1
  have hF1 := hfr.trans f1
  have G0 := Lib.hid (H0.out.fr f1); have G1 := Lib.hid (H1.out.fr f1); have G2 := Lib.hid (H2.out.fr f1)
  clear H0 H1 H2
  cases h : houseB P W X x s u v
  · have HL : Hid (dealB P W X x s u v kd A B = false) := Lib.hid (by rw [dealB, h]; rfl)
    have j0 := G2.out.cell (j := 0) rfl; have j1 := G2.out.cell (j := 1) rfl; have j2 := G2.out.cell (j := 2) rfl; have j3 := G2.out.cell (j := 3) rfl; have j4 := G2.out.cell (j := 4) rfl; have j5 := G2.out.cell (j := 5) rfl; have j6 := G2.out.cell (j := 6) rfl
    have i0 := G2.out.free 0; have i1 := G2.out.free 1; have i2 := G2.out.free 2; have i3 := G2.out.free 3; have i4 := G2.out.free 4; have i5 := G2.out.free 5; have i6 := G2.out.free 6
    clear h
    go_wp2
    have E := (((((((G2.out.set 0 (.slice none 0 0)).set 1 (.slice none 0 0)).set 2 (.slice none 0 0)).set 3 (.int .i64 0)).set 4 (.int .i64 0)).set 5 (.int .i64 0)).set 6 (.int .i64 0))
    simp only [List.setIfInBounds_toArray, List.set_cons_zero, List.set_cons_succ] at E
    refine bodyPost_ret (results_HB Try.results44 _ _ (w.heap.size + 1 + 1) _ _ _ _ _ _ _ _ rfl rfl (E.cell rfl) (E.cell rfl) (E.cell rfl) (E.cell rfl) (E.cell rfl) (E.cell rfl) (E.cell rfl)) rfl ?_
    rw [HL.out]
    refine ⟨none, 0, 0, none, 0, 0, none, 0, 0, w.heap.size, w.heap.size, rfl, Own.nil _ _, Own.nil _ _, Own.nil _ _, fun k hk => by simp [blkOf] at hk, fun k hk => by simp [blkOf] at hk, Nat.le_refl _, Nat.le_refl _, ?_, ?_, by omega, by omega, by omega⟩
    · have := hF1.size; simpa using this
    · iterate 7 refine Fr.setCell ?_ (by dsimp only; omega) _
      exact hF1
  · have HH := Lib.hid h
    have hl := houseB_parts h
    obtain ⟨t1, t2, t3, t4⟩ := houseB_parts h
    obtain ⟨-, r1, r2, r3⟩ := houseB_all h
    have Ht := Lib.hid t1
    have Hv := Lib.hid (nth_bd (procB_iff.1 t2).2 (by omega) (by omega))
    obtain ⟨g1, g2, g3, -⟩ := treeB_iff.1 t1
    have Hp := Lib.hid g3
    have hml : m = n := by rw [← HW.out, g2, HP.out]
    have hll : l = n := by rw [← HX.out, (procB_iff.1 t2).1, HP.out]
    subst hml; subst hll
    rw [HP.out] at g1 t4
    obtain ⟨y, rfl⟩ := Int.eq_ofNat_of_zero_le t3
    clear t1 t2 t3 g2 g3 hl
    have k0 := G0.out.cell (j := 0) rfl; have k1 := G0.out.cell (j := 1) rfl; have k2 := G0.out.cell (j := 2) rfl; have k3 := G0.out.cell (j := 3) rfl; have k4 := G0.out.cell (j := 4) rfl; have k5 := G0.out.cell (j := 5) rfl; have k6 := G0.out.cell (j := 6) rfl
    go_wp2_with fail
    clear h k0 k1 k2 k3 k4 k5 k6
    refine (own_any _ _ _ _ _ _ _ _ _ _ _ _ _ _ _ _ _ (hP.fr hF1) (hW.fr hF1) (hX.fr hF1) (by omega) (by omega) (by omega)).mono ?_
    rintro e w2 ⟨p2, n2, c2, q2, m2, d2, a2, l2, b2, M, N, rfl, o1, o2, o3, W1, W2, y1, y2, y3, f2, e1, e2, e3⟩
    have N1 : n2 = l := by rw [← o1.len, HP.out]
    have N2 : m2 = l := by rw [← o2.len, HW.out]
    have N3 : l2 = l := by rw [← o3.len, HX.out]
    subst N1; subst N2; subst N3
    have z2 := f2.size
    have W3 := o3.within
    have hne1 : blkOf p2 ≠ some w2.heap.size := fun e => by have := W1 _ e; omega
    have hne2 : blkOf q2 ≠ some w2.heap.size := fun e => by have := W2 _ e; omega
    have hne3 : blkOf a2 ≠ some w2.heap.size := fun e => by have := W3 _ e; omega
    go_upto_region 4 with fail
    have fa : Fr w2 (w2.alloc (.cells #[.slice p2 l2 c2, .slice q2 l2 d2, .slice a2 l2 b2, .int .i64 y, .int .i64 s, .int .i64 u, .int .i64 v] 31)) := (Fr.refl _).alloc _
    have bG := Lib.hid (Blk.new w2 #[.slice p2 l2 c2, .slice q2 l2 d2, .slice a2 l2 b2, .int .i64 y, .int .i64 s, .int .i64 u, .int .i64 v] 31)
    have z3 := World.size_alloc w2 (.cells #[.slice p2 l2 c2, .slice q2 l2 d2, .slice a2 l2 b2, .int .i64 y, .int .i64 s, .int .i64 u, .int .i64 v] 31)
    generalize hw3 : w2.alloc (.cells #[.slice p2 l2 c2, .slice q2 l2 d2, .slice a2 l2 b2, .int .i64 y, .int .i64 s, .int .i64 u, .int .i64 v] 31) = w3 at fa bG z3 ⊢
    clear hw3
    have Z3 := Lib.hid z3
    have F3 := (hF1.trans f2).trans fa
    replace o1 := o1.fr fa; replace o2 := o2.fr fa; replace o3 := o3.fr fa
    have B0 := Lib.hid ((G0.out.fr f2).fr fa); have B1 := Lib.hid ((G1.out.fr f2).fr fa); have B2 := Lib.hid ((G2.out.fr f2).fr fa)
    clear z3 f2 fa G0 G1 G2
    have gG := Lib.hid (show w.heap.size + 1 + 1 + 1 ≤ w2.heap.size by omega)
    have m0 := B0.out.cell (j := 0) rfl; have m1 := B0.out.cell (j := 1) rfl; have m2 := B0.out.cell (j := 2) rfl; have m3 := B0.out.cell (j := 3) rfl; have m4 := B0.out.cell (j := 4) rfl
    have n0 := B1.out.cell (j := 0) rfl; have n1 := B1.out.cell (j := 1) rfl; have n2 := B1.out.cell (j := 2) rfl
    go_upto_block 0 with fail
    go_cut [7] (fun s7 wx => DealCut w w2.heap.size P W X y s u v kd A B p2 l2 c2 q2 l2 d2 a2 l2 b2 w1.heap.size M N s7 wx)
    case first =>
      have gg := gG.out
      have z3 := Z3.out
      have r0 := B1.out
      have qG3 := Lib.hid (And.intro o1 (And.intro o2 o3))
      have hmn := gG.out
      have i0 : (0 : Int) ≤ (y : Int) := by omega
      have gne : w.heap.size + 1 + 1 ≠ w2.heap.size := by omega
      have gne' : w2.heap.size ≠ w.heap.size + 1 + 1 := by omega
      clear r0 qG3 hmn
      by_cases k1 : kd = 1
      · subst k1
        by_cases hB0 : B = 0
        · subst hB0
          have HM : Hid (mayB P y 1 A 0 = decide (A ∈ kidsTo P y l2)) := Lib.hid (by
            show ((0 == 0) && decide (A ∈ kidsTo P (y : Int).toNat P.length)) = _
            rw [Int.toNat_natCast, HP.out]; rfl)
          have hP3 := hP.fr F3
          go_wp2
          go_region_held3 (fun w' => w'.cell? ⟨w.heap.size, 0, none⟩ = some (.slice p l2 c) ∧ w'.cell? ⟨w.heap.size, 1, none⟩ = some (.slice q l2 d) ∧ w'.cell? ⟨w.heap.size, 3, none⟩ = some (.int .i64 y) ∧ w'.cell? ⟨w.heap.size + 1, 1, none⟩ = some (.int .i64 A) ∧ w'.cell? ⟨w.heap.size + 1, 2, none⟩ = some (.int .i64 0))
            (first
              | go_keep
              | (exact ⟨f5.keep m0, f5.keep m1, f5.keep m3, f5.keep n1, f5.keep n2⟩))
            (first
              | (go_at_call 94; refine (children_any _ _ _ _ _ _ _ y P (hP3.fr (Fr.drewN _ 1)) (by omega)).mono ?_; rintro e w5 ⟨a5, n5, c5, rfl, o5, f5, _⟩)
              | (go_at_call 93; refine (Contains_any _ _ _ _ _ A o5.sl).mono ?_; rintro e w6 ⟨rfl, rfl⟩))
          have F5 : Fr w3 w5 := (Fr.drewN _ 1).trans f5
          have z5 := F5.size
          cases hm : decide (A ∈ kidsTo P y l2)
          · have HM2 : Hid (mayB P y 1 A 0 = false) := Lib.hid (by rw [HM.out, hm])
            clear hm
            go_wp2
            go_meet
            exact ⟨W, X, y, s, u, by rw [HM2.out], (fun h => by rw [HM2.out] at h; cases h), bG.out.fr F5, B2.out.fr F5, o1.fr F5, o2.fr F5, o3.fr F5, F3.trans F5, by omega, hx, hs, hu⟩
          · have HM2 : Hid (mayB P y 1 A 0 = true) := Lib.hid (by rw [HM.out, hm])
            obtain ⟨z, rfl, hzl, _⟩ := kids_mem.1 (of_decide_eq_true hm)
            have qG := (bG.out.fr F5).cell (j := 3) rfl
            have fG := (bG.out.fr F5).free 3
            have n1' := (B1.out.fr F5).cell (j := 1) rfl
            clear hm
            go_wp2
            have FX : Fr w3 (w5.setCell ⟨w2.heap.size, 3, none⟩ (.int .i64 z)) → True := fun _ => trivial
            have bX := Lib.hid ((bG.out.fr F5).set 3 (.int .i64 z))
            have x0 := Lib.hid ((B0.out.fr F5).other (p := ⟨w2.heap.size, 3, none⟩) (by dsimp only; omega) (.int .i64 z))
            have x1 := Lib.hid ((B1.out.fr F5).other (p := ⟨w2.heap.size, 3, none⟩) (by dsimp only; omega) (.int .i64 z))
            have x2 := Lib.hid ((B2.out.fr F5).other (p := ⟨w2.heap.size, 3, none⟩) gne' (.int .i64 z))
            have o1x := (o1.fr F5).setOther (p := ⟨w2.heap.size, 3, none⟩) hne1 (.int .i64 z)
            have o2x := (o2.fr F5).setOther (p := ⟨w2.heap.size, 3, none⟩) hne2 (.int .i64 z)
            have o3x := (o3.fr F5).setOther (p := ⟨w2.heap.size, 3, none⟩) hne3 (.int .i64 z)
            have fX := (F3.trans F5).setCell (p := ⟨w2.heap.size, 3, none⟩) (by dsimp only; omega) (.int .i64 z)
            have sX := Lib.hid (World.size_setCell w5 ⟨w2.heap.size, 3, none⟩ (.int .i64 z))
            generalize hwx : w5.setCell ⟨w2.heap.size, 3, none⟩ (.int .i64 z) = wx at bX x0 x1 x2 o1x o2x o3x fX sX ⊢
            clear hwx qG fG n1' FX m0 m1 m2 m3 m4 n0 n1 n2
            simp only [List.setIfInBounds_toArray, List.set_cons_zero, List.set_cons_succ] at bX
            have sx := sX.out
            have c5' := bX.out.cell (j := 5) rfl
            have c5f := bX.out.free 5
            have a2' := x0.out.cell (j := 2) rfl; have a3' := x0.out.cell (j := 3) rfl; have a4' := x0.out.cell (j := 4) rfl
            have e1' := x1.out.cell (j := 1) rfl
            obtain ⟨bx, ox, rfl, hcx⟩ := (hX.fr fX).cells.resolve_left (by omega)
            have hcz := hcx z hzl
            have hcy := hcx y (by omega)
            have v1 := Hv.out z
            have v2 := Hv.out y
            have v3 := dPu_bd r1 v1 v2
            have i1 : (y : Int) < (l2 : Int) := by omega
            have i2 : (0 : Int) ≤ (z : Int) := by omega
            have i3 : (z : Int) < (l2 : Int) := by omega
            clear hcx sX
            have w1' : IntKind.i64.wrap (nth X z - nth X y) = nth X z - nth X y := IntWalk.i64_in _ (by omega)
            have w2' : IntKind.i64.wrap (s * (nth X z - nth X y)) = s * (nth X z - nth X y) := IntWalk.i64_in _ (by omega)
            have w3' : IntKind.i64.wrap (u + s * (nth X z - nth X y)) = u + s * (nth X z - nth X y) := IntWalk.i64_in _ (by omega)
            go_region
            clear w1' w2' w3'
            go_wp2
            go_meet
            exact ⟨W, X, z, s, u + s * (nth X z - nth X y), by rw [HM2.out], (fun _ => ⟨rfl, rfl, rfl, rfl, by rw [dPu, if_pos rfl, Int.toNat_natCast, Int.toNat_natCast]⟩), bX.out.set 5 (.int .i64 (u + s * (nth X z - nth X y))), x2.out.other gne' _, (o1x.setOther (p := ⟨w2.heap.size, 5, none⟩) hne1 _).drewN 1, (o2x.setOther (p := ⟨w2.heap.size, 5, none⟩) hne2 _).drewN 1, (o3x.setOther (p := ⟨w2.heap.size, 5, none⟩) hne3 _).drewN 1, (fX.setCell (by dsimp only; omega) _).drew' 1, by simp; omega, by unfold I64; omega, hs, by unfold I64; omega⟩
        · have HM : Hid (mayB P y 1 A B = false) := Lib.hid (by
            show ((B == 0) && decide (A ∈ kidsTo P (y : Int).toNat P.length)) = false
            rw [beq_eq_false_iff_ne.2 hB0]; rfl)
          have hb0 : (B == 0) = false := by simp [hB0]
          clear hB0
          go_wp2
          go_quiet (fail)
          go_wp2
          go_meet
          exact ⟨W, X, y, s, u, by rw [HM.out], (fun h => by rw [HM.out] at h; cases h), bG.out.fr (Fr.drewN _ _), B2.out.fr (Fr.drewN _ _), o1.drewN _, o2.drewN _, o3.drewN _, F3.drew' _, by simp; omega, hx, hs, hu⟩
      by_cases k2 : kd = 2
      · subst k2
        have HM : Hid (mayB P y 2 A B = (B == 0)) := Lib.hid rfl
        have qG := bG.out.cell (j := 4) rfl
        have hfG := bG.out.free 4
        go_wp2
        go_meet
        exact ⟨W, X, y, A, u, by rw [HM.out], fun _ => ⟨rfl, rfl, rfl, rfl, rfl⟩, bG.out.set 4 (.int .i64 A), B2.out.other gne' _, o1.setOther hne1 _, o2.setOther hne2 _, o3.setOther hne3 _, F3.setCell (by dsimp only; omega) _, by simp; omega, hx, hA, hu⟩
      by_cases k3 : kd = 3
      · subst k3
        have HM : Hid (mayB P y 3 A B = ((B == 0) && inB A (-999) 999)) := Lib.hid rfl
        have qG := bG.out.cell (j := 5) rfl
        have hfG := bG.out.free 5
        cases hb : (B == 0) <;> cases hi : inB A (-999) 999
        case true.true =>
          have hA2 := inB_iff.1 hi
          have HM2 : Hid (mayB P y 3 A B = true) := Lib.hid (by rw [HM.out, hb, hi]; rfl)
          go_wp2_with (go_at_call 72; refine (within_any _ _ _ _).mono ?_; rintro e w' ⟨rfl, rfl⟩)
          go_meet
          exact ⟨W, X, y, s, u + A, by rw [HM2.out], fun _ => ⟨rfl, rfl, rfl, rfl, rfl⟩, bG.out.set 5 (.int .i64 (u + A)), B2.out.other gne' _, o1.setOther hne1 _, o2.setOther hne2 _, o3.setOther hne3 _, F3.setCell (by dsimp only; omega) _, by simp; omega, hx, hs, by unfold I64; omega⟩
        all_goals
          have HM2 : Hid (mayB P y 3 A B = false) := Lib.hid (by rw [HM.out, hb, hi]; rfl)
          go_wp2_with (go_at_call 72; refine (within_any _ _ _ _).mono ?_; rintro e w' ⟨rfl, rfl⟩)
          go_meet
          exact ⟨W, X, y, s, u, by rw [HM2.out], (fun h => by rw [HM2.out] at h; cases h), bG.out, B2.out, o1, o2, o3, F3, by omega, hx, hs, hu⟩
      by_cases k4 : kd = 4
      · subst k4
        have HM : Hid (mayB P y 4 A B = ((A == 0) && (B == 0))) := Lib.hid rfl
        have qG := bG.out.cell (j := 3) rfl
        have hfG := bG.out.free 3
        cases hb : (A == 0) <;> cases hi : (B == 0)
        all_goals
          have HM2 := Lib.hid (show mayB P y 4 A B = _ from by rw [HM.out, hb, hi])
          go_wp2
          go_meet
          exact ⟨W, X, 0, s, u, by rw [HM2.out]; rfl, (fun h => by first | exact ⟨rfl, rfl, rfl, rfl, rfl⟩ | (rw [HM2.out] at h; cases h)), bG.out.set 3 (.int .i64 0), B2.out.other gne' _, o1.setOther hne1 _, o2.setOther hne2 _, o3.setOther hne3 _, F3.setCell (by dsimp only; omega) _, by simp; omega, by unfold I64; omega, hs, hu⟩
      by_cases k5 : kd = 5
      · subst k5
        have HM : Hid (mayB P y 5 A B = inB A 0 ((l2 : Int) - 1)) := Lib.hid (by rw [← HP.out]; rfl)
        go_wp2_with fail
        refine (isNode_any _ _ _ _ _ _ _ _ W (hP.fr F3) A).mono ?_
        rintro e w5 ⟨rfl, f5⟩
        have z5 := f5.size
        cases hi : inB A 0 ((l2 : Int) - 1)
        · have HM2 : Hid (mayB P y 5 A B = false) := Lib.hid (by rw [HM.out, hi])
          go_wp2
          go_meet
          exact ⟨W, X, y, s, u, by rw [HM2.out], (fun h => by rw [HM2.out] at h; cases h), bG.out.fr f5, B2.out.fr f5, o1.fr f5, o2.fr f5, o3.fr f5, F3.trans f5, by omega, hx, hs, hu⟩
        · have HM2 : Hid (mayB P y 5 A B = true) := Lib.hid (by rw [HM.out, hi])
          obtain ⟨ha0, ha1⟩ := inB_iff.1 hi
          obtain ⟨z, rfl⟩ := Int.eq_ofNat_of_zero_le ha0
          have hzl : z < l2 := by omega
          have o3f := o3.fr f5
          obtain ⟨g3, rfl, hg3, hg3', hcc, hfro⟩ := o3f.op (by omega)
          have hcz := hcc z hzl
          have hfz := hfro z
          have qG := (bG.out.fr f5).cell (j := 2) rfl
          have n1' := (B1.out.fr f5).cell (j := 1) rfl; have n2' := (B1.out.fr f5).cell (j := 2) rfl
          clear hi hcc hfro
          have hg1 : blkOf p2 ≠ some g3 := fun e => by have := W1 _ e; omega
          have hg2 : blkOf q2 ≠ some g3 := fun e => by have := W2 _ e; omega
          have hgG : g3 ≠ w2.heap.size := fun e => hne3 (by rw [← e]; rfl)
          have hgR : g3 ≠ w.heap.size + 1 + 1 := by omega
          go_wp2
          go_meet
          exact ⟨W, X.set z B, y, s, u, by rw [HM2.out], fun _ => ⟨rfl, by rw [dX, if_pos rfl, Int.toNat_natCast], rfl, rfl, rfl⟩, (bG.out.fr f5).other hgG _, (B2.out.fr f5).other hgR _, (o1.fr f5).setOther hg1 _, (o2.fr f5).setOther hg2 _, o3f.set rfl hzl hB, (F3.trans f5).setCell (by dsimp only; omega) _, by simp; omega, hx, hs, hu⟩
      by_cases k6 : kd = 6
      · subst k6
        have HM : Hid (mayB P y 6 A B = decide (A ∈ endsM P)) := Lib.hid rfl
        have hP3 := hP.fr F3
        go_wp2
        go_region_held3 (fun w' => w'.cell? ⟨w.heap.size, 0, none⟩ = some (.slice p l2 c) ∧ w'.cell? ⟨w.heap.size, 1, none⟩ = some (.slice q l2 d) ∧ w'.cell? ⟨w.heap.size + 1, 1, none⟩ = some (.int .i64 A))
          (first
            | go_keep
            | (exact ⟨f5.keep m0, f5.keep m1, f5.keep n1⟩))
          (first
            | (go_at_call 80; refine (ends_any _ _ _ _ _ _ _ P (hP3.fr (Fr.drewN _ 1)) Hp.out (by omega)).mono ?_; rintro e w5 ⟨a5, n5, c5, rfl, o5, f5, _⟩)
            | (go_at_call 93; refine (Contains_any _ _ _ _ _ A o5.sl).mono ?_; rintro e w6 ⟨rfl, rfl⟩))
        have F5 : Fr w3 w5 := (Fr.drewN _ 1).trans f5
        have z5 := F5.size
        cases hm : decide (A ∈ endsM P)
        · have HM2 : Hid (mayB P y 6 A B = false) := Lib.hid (by rw [HM.out, hm])
          clear hm
          go_wp2
          go_meet
          exact ⟨W, X, y, s, u, by rw [HM2.out], (fun h => by rw [HM2.out] at h; cases h), bG.out.fr F5, B2.out.fr F5, o1.fr F5, o2.fr F5, o3.fr F5, F3.trans F5, by omega, hx, hs, hu⟩
        · have HM2 : Hid (mayB P y 6 A B = true) := Lib.hid (by rw [HM.out, hm])
          obtain ⟨z, rfl, hzl, _⟩ := ends_mem.1 (of_decide_eq_true hm)
          rw [HP.out] at hzl
          have o2f := o2.fr F5
          obtain ⟨g3, rfl, hg3, hg3', hcc, hfro⟩ := o2f.op (by omega)
          have hcz := hcc z hzl
          have hfz := hfro z
          have qG := (bG.out.fr F5).cell (j := 1) rfl
          have n1' := (B1.out.fr F5).cell (j := 1) rfl; have n2' := (B1.out.fr F5).cell (j := 2) rfl
          clear hm hcc hfro
          have hg1 : blkOf p2 ≠ some g3 := fun e => by have := W1 _ e; omega
          have hg2 : blkOf a2 ≠ some g3 := fun e => by have := W2 g3 rfl; have := W3 _ e; omega
          have hgG : g3 ≠ w2.heap.size := fun e => hne2 (by rw [← e]; rfl)
          have hgR : g3 ≠ w.heap.size + 1 + 1 := by omega
          go_wp2
          go_meet
          exact ⟨W.set z B, X, y, s, u, by rw [HM2.out], (fun _ => ⟨by rw [dW, if_pos rfl, Int.toNat_natCast], rfl, rfl, rfl, rfl⟩), (bG.out.fr F5).other hgG _, (B2.out.fr F5).other hgR _, (o1.fr F5).setOther hg1 _, o2f.set rfl hzl hB, (o3.fr F5).setOther hg2 _, (F3.trans F5).setCell (by dsimp only; omega) _, by simp; omega, hx, hs, hu⟩
      have HM : Hid (mayB P y kd A B = false) := Lib.hid (by rw [mayB, if_neg k1, if_neg k2, if_neg k3, if_neg k4, if_neg k5, if_neg k6])
      have b1 : (kd == 1) = false := by simp [k1]
      have b2' : (kd == 2) = false := by simp [k2]
      have b3 : (kd == 3) = false := by simp [k3]
      have b4 : (kd == 4) = false := by simp [k4]
      have b5 : (kd == 5) = false := by simp [k5]
      have b6 : (kd == 6) = false := by simp [k6]
      clear k1 k2 k3 k4 k5 k6
      go_wp2
      go_meet
      exact ⟨W, X, y, s, u, by rw [HM.out], (fun h => by rw [HM.out] at h; cases h), bG.out, B2.out, o1, o2, o3, F3, by omega, hx, hs, hu⟩
    case rest =>
      obtain ⟨W', X', t', s', u', rfl, hpos, hG, h2, o1', o2', o3', hF, hN, it, is, iu⟩ := hcut
      clear m0 m1 m2 m3 m4 n0 n1 n2 o1 o2 o3
      have HPos := Lib.hid hpos
      have HG := Lib.hid hG; have H2 := Lib.hid h2
      clear hpos hG h2 Z3 F3 B0 B1 B2
      have gg := gG.out
      have gne : w.heap.size + 1 + 1 ≠ w2.heap.size := by omega
      have gne' : w2.heap.size ≠ w.heap.size + 1 + 1 := by omega
      have zF := hF.size
      have q0 := HG.out.cell (j := 0) rfl; have q1 := HG.out.cell (j := 1) rfl; have q2' := HG.out.cell (j := 2) rfl; have q3 := HG.out.cell (j := 3) rfl; have q4 := HG.out.cell (j := 4) rfl; have q5 := HG.out.cell (j := 5) rfl; have q6 := HG.out.cell (j := 6) rfl
      have f6 := HG.out.free 6
      cases hmay : mayB P y kd A B
      · have HL : Hid (dealB P W X y s u v kd A B = false) := Lib.hid (by rw [dealB, goB, hmay]; simp)
        have j0 := H2.out.cell (j := 0) rfl; have j1 := H2.out.cell (j := 1) rfl; have j2 := H2.out.cell (j := 2) rfl; have j3 := H2.out.cell (j := 3) rfl; have j4 := H2.out.cell (j := 4) rfl; have j5 := H2.out.cell (j := 5) rfl; have j6 := H2.out.cell (j := 6) rfl
        have i0 := H2.out.free 0; have i1 := H2.out.free 1; have i2 := H2.out.free 2; have i3 := H2.out.free 3; have i4 := H2.out.free 4; have i5 := H2.out.free 5; have i6 := H2.out.free 6
        clear hmay
        go_wp2
        have E := ((((((((H2.out.other (p := ⟨w2.heap.size, 6, none⟩) gne' (.int .i64 (v + 1))).set 0 (.slice none 0 0)).set 1 (.slice none 0 0)).set 2 (.slice none 0 0)).set 3 (.int .i64 0)).set 4 (.int .i64 0)).set 5 (.int .i64 0)).set 6 (.int .i64 0))
        simp only [List.setIfInBounds_toArray, List.set_cons_zero, List.set_cons_succ] at E
        refine bodyPost_ret (results_HB Try.results44 _ _ (w.heap.size + 1 + 1) _ _ _ _ _ _ _ _ rfl rfl (E.cell rfl) (E.cell rfl) (E.cell rfl) (E.cell rfl) (E.cell rfl) (E.cell rfl) (E.cell rfl)) rfl ?_
        rw [HL.out]
        refine ⟨none, 0, 0, none, 0, 0, none, 0, 0, w.heap.size, w.heap.size, rfl, Own.nil _ _, Own.nil _ _, Own.nil _ _, fun k hk => by simp [blkOf] at hk, fun k hk => by simp [blkOf] at hk, Nat.le_refl _, Nat.le_refl _, ?_, ?_, by omega, by omega, by omega⟩
        · simpa using zF
        · iterate 8 refine Fr.setCell ?_ (by dsimp only; omega) _
          exact hF
      · obtain ⟨rfl, rfl, rfl, rfl, rfl⟩ := HPos.out hmay
        have o1s := o1'.setOther (p := ⟨w2.heap.size, 6, none⟩) hne1 (.int .i64 (v + 1))
        have o2s := o2'.setOther (p := ⟨w2.heap.size, 6, none⟩) hne2 (.int .i64 (v + 1))
        have o3s := o3'.setOther (p := ⟨w2.heap.size, 6, none⟩) hne3 (.int .i64 (v + 1))
        have hFs := hF.setCell (p := ⟨w2.heap.size, 6, none⟩) (by dsimp only; omega) (.int .i64 (v + 1))
        have HGs := Lib.hid (HG.out.set 6 (.int .i64 (v + 1)))
        have H2s := Lib.hid (H2.out.other (p := ⟨w2.heap.size, 6, none⟩) gne' (.int .i64 (v + 1)))
        go_wp2_with fail
        clear q0 q1 q2' q3 q4 q5 q6 f6
        refine (impl_IsHouse_any _ _ _ _ _ _ _ _ _ _ _ _ _ o1s.sl o2s.sl o3s.sl _ _ _ _).mono ?_
        rintro e w5 ⟨rfl, f5⟩
        have z5 := f5.size
        simp only [World.size_setCell] at z5
        have HD : Hid (houseB P (dW W kd A B) (dX X kd A B) (dAt y kd A) (dSt s kd A) (dPu X y s u kd A) (v + 1) = dealB P W X y s u v kd A B) := Lib.hid (by rw [dealB, goB, hmay, HH.out, doneB]; rfl)
        rw [HD.out]
        replace o1s := o1s.fr f5; replace o2s := o2s.fr f5; replace o3s := o3s.fr f5; replace hFs := hFs.trans f5
        have HGf := Lib.hid (HGs.out.fr f5); have H2f := Lib.hid (H2s.out.fr f5)
        have j0 := H2f.out.cell (j := 0) rfl; have j1 := H2f.out.cell (j := 1) rfl; have j2 := H2f.out.cell (j := 2) rfl; have j3 := H2f.out.cell (j := 3) rfl; have j4 := H2f.out.cell (j := 4) rfl; have j5 := H2f.out.cell (j := 5) rfl; have j6 := H2f.out.cell (j := 6) rfl
        have i0 := H2f.out.free 0; have i1 := H2f.out.free 1; have i2 := H2f.out.free 2; have i3 := H2f.out.free 3; have i4 := H2f.out.free 4; have i5 := H2f.out.free 5; have i6 := H2f.out.free 6
        clear o1' o2' o3' hF HG H2 HGs H2s f5
        cases hd : dealB P W X y s u v kd A B
        · have HL := Lib.hid hd
          clear hmay hd
          go_wp2
          have E := (((((((H2f.out.set 0 (.slice none 0 0)).set 1 (.slice none 0 0)).set 2 (.slice none 0 0)).set 3 (.int .i64 0)).set 4 (.int .i64 0)).set 5 (.int .i64 0)).set 6 (.int .i64 0))
          simp only [List.setIfInBounds_toArray, List.set_cons_zero, List.set_cons_succ] at E
          refine bodyPost_ret (results_HB Try.results44 _ _ (w.heap.size + 1 + 1) _ _ _ _ _ _ _ _ rfl rfl (E.cell rfl) (E.cell rfl) (E.cell rfl) (E.cell rfl) (E.cell rfl) (E.cell rfl) (E.cell rfl)) rfl ?_
          rw [HL.out]
          refine ⟨none, 0, 0, none, 0, 0, none, 0, 0, w.heap.size, w.heap.size, rfl, Own.nil _ _, Own.nil _ _, Own.nil _ _, fun k hk => by simp [blkOf] at hk, fun k hk => by simp [blkOf] at hk, Nat.le_refl _, Nat.le_refl _, ?_, ?_, by omega, by omega, by omega⟩
          · have := hFs.size; simpa using this
          · iterate 7 refine Fr.setCell ?_ (by dsimp only; omega) _
            exact hFs
        · have HL := Lib.hid hd
          simp only [List.setIfInBounds_toArray, List.set_cons_zero, List.set_cons_succ] at HGf
          have q0 := HGf.out.cell (j := 0) rfl; have q1 := HGf.out.cell (j := 1) rfl; have q2' := HGf.out.cell (j := 2) rfl; have q3 := HGf.out.cell (j := 3) rfl; have q4 := HGf.out.cell (j := 4) rfl; have q5 := HGf.out.cell (j := 5) rfl; have q6 := HGf.out.cell (j := 6) rfl
          clear hmay hd
          go_wp2
          have E := (((((((H2f.out.set 0 (.slice p2 l2 c2)).set 1 (.slice q2 l2 d2)).set 2 (.slice a2 l2 b2)).set 3 (.int .i64 (dAt y kd A))).set 4 (.int .i64 (dSt s kd A))).set 5 (.int .i64 (dPu X y s u kd A))).set 6 (.int .i64 (v + 1)))
          simp only [List.setIfInBounds_toArray, List.set_cons_zero, List.set_cons_succ] at E
          refine bodyPost_ret (results_HB Try.results44 _ _ (w.heap.size + 1 + 1) _ _ _ _ _ _ _ _ rfl rfl (E.cell rfl) (E.cell rfl) (E.cell rfl) (E.cell rfl) (E.cell rfl) (E.cell rfl) (E.cell rfl)) rfl ?_
          rw [HL.out]
          refine ⟨p2, l2, c2, q2, l2, d2, a2, l2, b2, M, N, rfl, ?_, ?_, ?_, fun k hk => by have := W1 k hk; omega, W2, by omega, y2, by simp; omega, ?_, e1, e2, e3⟩
          · refine Own.mono ?_ (show w.heap.size ≤ w1.heap.size by omega)
            iterate 7 refine Own.past ?_ (by dsimp only; omega) _
            exact o1s
          · iterate 7 refine Own.past ?_ (by dsimp only; omega) _
            exact o2s
          · iterate 7 refine Own.past ?_ (by dsimp only; omega) _
            exact o3s
          · iterate 7 refine Fr.setCell ?_ (by dsimp only; omega) _
            exact hFs

end Go.Proofs.Ytojipjjfndgbhaa
