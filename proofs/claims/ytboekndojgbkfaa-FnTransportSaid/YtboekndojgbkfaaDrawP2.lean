import Derived.Test.YtboekndojgbkfaaDrawP
import Derived.Test.YtboekndojgbkfaaFillN
import Derived.Deep.CutRange
/- Draws of plans. -/
set_option linter.unusedVariables false
namespace Go.Proofs.Ytboekndojgbkfaa
open Go.ChangeShapes Go.WideShapes Go.ChangeAt Go.RowKit
theorem lit4 (V : World) : ∀ i, i < 4 → ∃ x, (V.alloc (.cells #[.int .i64 0, .int .i64 1, .int .i64 (-1), .int .i64 4611686018427387904] 3)).cell? ⟨V.heap.size, i, none⟩ = some (.int .i64 x) ∧ (-1 ≤ x ∧ x ≤ 4611686018427387904) := fun i hi => by
  have h : i = 0 ∨ i = 1 ∨ i = 2 ∨ i = 3 := by omega
  rcases h with rfl | rfl | rfl | rfl
  all_goals exact ⟨_, by rw [cell_of_row _ _ _ _ _ _ (heap_alloc_new _ _)]; rfl, by decide⟩
theorem PlI.made {w : World} {g A B : Nat} {p q t : Option Addr} {n1 c1 c2 ct : Nat} {P Q : List Int} {T : List (List Int)} {wr : World} (hal : alikeB P Q = true) (hpl : planB P Q T = true) (op : Own w.heap.size wr p n1 c1 P) (oq : Own w.heap.size wr q n1 c2 Q) (oT : OwnSS B wr.heap.size wr t n1 ct T) (D : Dr g A w wr) (wp : Within p w.heap.size B) (wq : Within q w.heap.size B) (lo : w.heap.size ≤ B) : PlI w g A B wr.heap.size 0 p q t n1 c1 c2 ct wr := by
  refine ⟨⟨_, op⟩, ⟨_, oq⟩, ⟨T, oT, fun i hi => ?_, fun a b => by have := plan_cell hpl a b; omega⟩, D, wp, wq, lo, Nat.le_refl _⟩
  rw [plan_row hpl (by rw [oT.len]; exact hi), oq.len]
set_option maxRecDepth 100000 in
set_option maxHeartbeats 1000000 in
theorem planned_dr {g A : Nat} {w0 : World} (w : World) (h : Dr g A w0 w) (hA : A ≤ 1000000000) :
    Calls Try.prog 108 #[.pointer (some ⟨g, 0, none⟩)] w fun e w' => ∃ (p : Option Addr) (m c : Nat) (q : Option Addr) (k d : Nat) (t : Option Addr) (n ct : Nat), e = .returned (.tuple #[.slice p m c, .slice q k d, .slice t n ct]) ∧ (∃ xs ys T, Own w.heap.size w' p m c xs ∧ Own w.heap.size w' q k d ys ∧ OwnSS w.heap.size w'.heap.size w' t n ct T) ∧ (m ≤ 9 ∧ k ≤ 9 ∧ n ≤ 9) ∧ Dr g (A + 10000) w0 w' := by
  have hg := h.cur.lt
  have hself := Dr.refl h.cur
  go_enter Try.func108, Try.ntmps108
  go_wp2_with fail
  refine (orders_dr _ hself (by omega)).mono ?_
  rintro e w1 ⟨p, m, c, q, k, d, rfl, ⟨xs, ys, op, oq⟩, hm, hk, D1, -⟩
  clear hself
  cases hal : alikeB xs ys
  · go_wp2_with fail
    refine (l10Alike_any _ _ _ _ _ _ _ _ _ op.sl oq.sl).mono ?_
    rintro e w' ⟨rfl, rfl⟩
    rw [hal]
    clear hal
    go_wp2
    have F := (Fr.refl w1).alloc (.cells #[] 22)
    refine bodyPost_ret (v := .tuple #[.slice p m c, .slice q k d, .slice (some ⟨w1.heap.size, 0, none⟩) 0 0]) (by simp [results, Try.results108, go_sem]) rfl ?_
    exact ⟨_, _, _, _, _, _, _, _, _, rfl, ⟨_, _, [], op.fr F, oq.fr F, OwnSS.made0 w1 D1.size (by simp)⟩, by omega, h.trans ((D1.alloc _).mono (by omega))⟩
  · have Hal := Lib.hid hal
    have hl : k = m := by rw [← op.len, ← oq.len]; exact (alikeB_iff.1 hal).2.2.1.symm
    subst hl
    go_wp2_with fail
    refine (l10Alike_any _ _ _ _ _ _ _ _ _ op.sl oq.sl).mono ?_
    rintro e w' ⟨rfl, rfl⟩
    rw [hal]
    clear hal
    go_wp2_with fail
    refine (l10Sorted_any _ _ _ _ _ _ _ _ _ op.sl oq.sl Hal.out).mono ?_
    rintro e w2 ⟨t, n, ct, rfl, oT, f, -, -⟩
    have hn : n = k := by rw [← oT.len, (planB_iff.1 (sorted_plan Hal.out).1).1, op.len]
    subst hn
    have P2 : PlI w g (A + 2000) w1.heap.size w2.heap.size 0 p q t n c d ct w2 := PlI.made Hal.out (sorted_plan Hal.out).1 (op.fr f) (oq.fr f) oT (D1.fr f) op.within oq.within D1.size
    replace op := op.fr f; replace oq := oq.fr f
    clear oT D1 f
    go_wp2_with fail
    refine (one_dr _ 2 P2.D (by omega) (by unfold I64; omega)).mono ?_
    rintro e w3 ⟨b, rfl, D3, E3⟩
    replace P2 := P2.step hg E3
    replace op := E3.own op hg; replace oq := E3.own oq hg
    clear E3
    go_upto_if 30 with fail
    go_cut [7] from 31 to 36 (fun s wx => ∃ (t : Option Addr) (ct B H : Nat), s = .slice t n ct ∧ PlI w g (A + 2002) B H 0 p q t n c d ct wx)
    case first =>
      as_aux_lemma =>
        cases b
        · go_wp2_with fail; go_meet; exact ⟨_, _, _, _, rfl, P2⟩
        · go_wp2_with fail
          refine (spec_KeepingPlan_any _ _ _ _ _ _ _ _ _ op.sl oq.sl).mono ?_
          rintro e w4 ⟨t4, n4, ct4, rfl, oT, f, -, -⟩
          have ek : keepingV xs ys = keepingM xs ys := by rw [keepingV, Hal.out]; rfl
          rw [ek] at oT
          have hn : n4 = n := by rw [← oT.len, (planB_iff.1 (keeping_plan Hal.out).1).1, op.len]
          subst hn
          have P4 : PlI w g (A + 2000 + 2) w3.heap.size w4.heap.size 0 p q t4 n4 c d ct4 w4 := PlI.made Hal.out (keeping_plan Hal.out).1 (op.fr f) (oq.fr f) oT (D3.fr f) op.within oq.within D3.size
          go_wp2_with fail; go_meet; exact ⟨_, _, _, _, rfl, P4⟩
    case rest =>
      obtain ⟨t5, ct5, B, H, rfl, P5⟩ := hcut
      clear P2 op oq D3
      obtain ⟨w5, rfl⟩ : ∃ wz : World, wz = wc := ⟨_, rfl⟩
      obtain ⟨gt, _, _, _, rfl, _⟩ := P5.spot hg (by omega) (i := 0) (k := 0) (by omega) (by omega)
      go_wp2_with fail
      refine (pick_dr _ 4 P5.D (by omega) (by unfold I64; omega)).mono ?_
      rintro e w6 ⟨r, rfl, hr, D6, E6⟩
      have P6 := P5.step hg E6
      obtain ⟨R, rfl⟩ := Int.eq_ofNat_of_zero_le hr.1
      clear P5 D6 E6
      go_wp2
      go_loopw [8] (fun i wr => ∃ j : Nat, j ≤ 3 ∧ i = .int .i64 j ∧ PlI w g (A + 2004 + 8 * (3 - j)) B H (4 * (3 - (j : Int))) p q (some ⟨gt, 0, none⟩) n c d ct5 wr) (fun i _ => (intOf i).toNat)
      case atStart => exact ⟨R, by omega, rfl, P6.mono (by omega) (by omega)⟩
      case round =>
        clear P6
        obtain ⟨j, hj, rfl, P⟩ := hrel
        by_cases hlt : 0 < j
        · have hji : (0 : Int) < (j : Int) := by omega
          go_wp2_with fail
          refine (pick_dr _ _ P.D (by omega) (by unfold I64; omega)).mono ?_
          rintro e wI ⟨I, rfl, hI, DI, EI⟩
          replace P := P.step hg EI
          obtain ⟨I, rfl⟩ := Int.eq_ofNat_of_zero_le hI.1
          have lI : I < n := by omega
          have vIx : (0 : Int) ≤ (I : Int) := by omega
          have vIy : (I : Int) < (n : Int) := by omega
          clear DI EI hI
          go_wp2_with fail
          refine (pick_dr _ _ P.D (by omega) (by unfold I64; omega)).mono ?_
          rintro e wJ ⟨J, rfl, hJ, DJ, EJ⟩
          replace P := P.step hg EJ
          obtain ⟨J, rfl⟩ := Int.eq_ofNat_of_zero_le hJ.1
          have lJ : J < n := by omega
          have vJx : (0 : Int) ≤ (J : Int) := by omega
          have vJy : (J : Int) < (n : Int) := by omega
          clear DJ EJ hJ
          go_wp2_with fail
          refine (pick_dr _ _ P.D (by omega) (by unfold I64; omega)).mono ?_
          rintro e wK ⟨K, rfl, hK, DK, EK⟩
          replace P := P.step hg EK
          obtain ⟨K, rfl⟩ := Int.eq_ofNat_of_zero_le hK.1
          have lK : K < n := by omega
          have vKx : (0 : Int) ≤ (K : Int) := by omega
          have vKy : (K : Int) < (n : Int) := by omega
          clear DK EK hK
          go_wp2_with fail
          refine (pick_dr _ _ P.D (by omega) (by unfold I64; omega)).mono ?_
          rintro e wL ⟨L, rfl, hL, DL, EL⟩
          replace P := P.step hg EL
          obtain ⟨L, rfl⟩ := Int.eq_ofNat_of_zero_le hL.1
          have lL : L < n := by omega
          have vLx : (0 : Int) ≤ (L : Int) := by omega
          have vLy : (L : Int) < (n : Int) := by omega
          clear DL EL hL
          by_cases e1 : I = J
          · have e1b : ((I : Int) != (J : Int)) = false := by subst e1; simp
            go_wp2
            go_roundw
            case rel => exact ⟨j - 1, by omega, by go_num, P.mono (by omega) (by omega)⟩
            case measure => simp [intOf]; omega
          · have e1b : ((I : Int) != (J : Int)) = true := by simp; omega
            by_cases e2 : K = L
            · have e2b : ((K : Int) != (L : Int)) = false := by subst e2; simp
              go_wp2
              go_roundw
              case rel => exact ⟨j - 1, by omega, by go_num, P.mono (by omega) (by omega)⟩
              case measure => simp [intOf]; omega
            · have e2b : ((K : Int) != (L : Int)) = true := by simp; omega
              obtain ⟨gx, r1, cr1, xr1, hgx, sr1, er1, zr1, br1, nr1, lr1, mr1, setr1⟩ := P.spot hg (by omega) (i := I) (k := K) lI lK
              injection hgx with hgx; injection hgx with hgx; subst hgx
              obtain ⟨gx, r2, cr2, xr2, hgx, sr2, er2, zr2, br2, nr2, lr2, mr2, setr2⟩ := P.spot hg (by omega) (i := J) (k := L) lJ lL
              injection hgx with hgx; injection hgx with hgx; subst hgx
              by_cases e3 : 0 < xr1
              rotate_left
              · skip
                go_wp2
                go_roundw
                case rel => exact ⟨j - 1, by omega, by go_num, P.mono (by omega) (by omega)⟩
                case measure => simp [intOf]; omega
              · by_cases e4 : 0 < xr2
                rotate_left
                · skip
                  go_wp2
                  go_roundw
                  case rel => exact ⟨j - 1, by omega, by go_num, P.mono (by omega) (by omega)⟩
                  case measure => simp [intOf]; omega
                · go_upto_region 12 with fail
                  have Q1 := setr1 (xr1 - 1) (by omega)
                  clear sr2 er2 zr2 br2 nr2 lr2 mr2 setr2 setr1
                  go_upto_region 13 with fail
                  clear sr1 er1 zr1 br1 nr1 lr1 mr1 P
                  obtain ⟨gx, r3, cr3, xr3, hgx, sr3, er3, zr3, br3, nr3, lr3, mr3, setr3⟩ := Q1.spot hg (by omega) (i := J) (k := L) lJ lL
                  injection hgx with hgx; injection hgx with hgx; subst hgx
                  have Q2 := setr3 (xr3 - 1) (by omega)
                  clear setr3 Q1
                  go_upto_region 14 with fail
                  clear sr3 er3 zr3 br3 nr3 lr3 mr3
                  obtain ⟨gx, r4, cr4, xr4, hgx, sr4, er4, zr4, br4, nr4, lr4, mr4, setr4⟩ := Q2.spot hg (by omega) (i := I) (k := L) lI lL
                  injection hgx with hgx; injection hgx with hgx; subst hgx
                  have Q3 := setr4 (xr4 + 1) (by omega)
                  clear setr4 Q2
                  go_upto_region 15 with fail
                  clear sr4 er4 zr4 br4 nr4 lr4 mr4
                  obtain ⟨gx, r5, cr5, xr5, hgx, sr5, er5, zr5, br5, nr5, lr5, mr5, setr5⟩ := Q3.spot hg (by omega) (i := J) (k := K) lJ lK
                  injection hgx with hgx; injection hgx with hgx; subst hgx
                  have Q4 := setr5 (xr5 + 1) (by omega)
                  clear setr5 Q3
                  go_wp2
                  go_roundw
                  case rel => exact ⟨j - 1, by omega, by go_num, Q4.mono (by omega) (by omega)⟩
                  case measure => simp [intOf]; omega
        · obtain rfl : j = 0 := by omega
          have P9 := P.mono (show A + 2004 + 8 * (3 - 0) ≤ A + 2100 by omega) (show 4 * (3 - ((0 : Nat) : Int)) ≤ 12 by omega)
          clear P hlt
          go_wp2_with fail
          refine (one_dr _ 12 P9.D (by omega) (by unfold I64; omega)).mono ?_
          rintro e w7 ⟨b, rfl, D7, E7⟩
          replace P9 := P9.step hg E7
          clear D7 E7
          cases b
          · go_wp2
            obtain ⟨⟨xs, h1⟩, ⟨ys, h2⟩, ⟨T, h3, _⟩, h6, _, _, h9, h10⟩ := P9
            refine bodyPost_ret (v := .tuple #[.slice p n c, .slice q n d, .slice (some ⟨gt, 0, none⟩) n ct5]) (by simp [results, Try.results108, go_sem]) rfl ?_
            exact ⟨_, _, _, _, _, _, _, _, _, rfl, ⟨_, _, _, h1, h2, (h3.mono h9).upto h10⟩, by omega, h.trans (h6.mono (by omega))⟩
          · go_wp2_with fail
            refine (pick_dr _ _ P9.D (by omega) (by unfold I64; omega)).mono ?_
            rintro e w8 ⟨s, rfl, hs, D8, E8⟩
            replace P9 := P9.step hg E8
            obtain ⟨S, rfl⟩ := Int.eq_ofNat_of_zero_le hs.1
            have lS : S < n := by omega
            clear D8 E8
            have PX := P9.mono (Nat.le_refl _) (show (12 : Int) ≤ 4611686018427387900 by omega)
            obtain ⟨gx, r1, cr1, x1, hgx, s1, e1, z1, b1, n1, l1, m1, set1⟩ := PX.spot hg (by omega) (i := S) (k := 0) lS (by omega)
            injection hgx with hgx; injection hgx with hgx; subst hgx
            have vSx : (0 : Int) ≤ (S : Int) := by omega
            have vSy : (S : Int) < (n : Int) := by omega
            have P9D := P9.D
            have lgt := World.block_lt_of_cell? w8 _ s1
            have ngt : g ≠ gt := fun e => by have := PX.lo; omega
            have ngs : some (⟨gt, S, none⟩ : Addr).block ≠ some g := fun e => ngt (by injection e with e; exact e.symm)
            clear set1 e1 z1 b1 n1 P9
            have P9Da : Dr g _ w w8.drew := P9D.drewN 1
            have s1a : w8.drew.cell? ⟨gt, S, none⟩ = _ := s1
            have PXa : PlI w g _ B H _ p q (some ⟨gt, 0, none⟩) n c d ct5 w8.drew := PX.fr (Fr.drewN w8 1)
            have P9Db : Dr g _ w (w8.alloc (.cells #[.int .i64 0, .int .i64 1, .int .i64 (-1), .int .i64 4611686018427387904] 3)).drew := (P9D.alloc _).drewN 1
            have s1b : (w8.alloc (.cells #[.int .i64 0, .int .i64 1, .int .i64 (-1), .int .i64 4611686018427387904] 3)).drew.cell? ⟨gt, S, none⟩ = _ := ((Fr.refl w8).alloc (.cells #[.int .i64 0, .int .i64 1, .int .i64 (-1), .int .i64 4611686018427387904] 3)).keep s1
            have PXb : PlI w g _ B H _ p q (some ⟨gt, 0, none⟩) n c d ct5 (w8.alloc (.cells #[.int .i64 0, .int .i64 1, .int .i64 (-1), .int .i64 4611686018427387904] 3)).drew := PX.fr (((Fr.refl w8).alloc _).drew' 1)
            have LBb : ∀ i, i < 4 → ∃ x, (w8.alloc (.cells #[.int .i64 0, .int .i64 1, .int .i64 (-1), .int .i64 4611686018427387904] 3)).drew.cell? ⟨w8.heap.size, i, none⟩ = some (.int .i64 x) ∧ (-1 ≤ x ∧ x ≤ 4611686018427387904) := lit4 w8
            go_upto_region 18 with fail
            go_region_held3 (fun w' => w'.cell? ⟨gt, S, none⟩ = some (.slice (some ⟨r1, 0, none⟩) n cr1))
              (first | (with_reducible exact sC) | (with_reducible exact sB) | (with_reducible exact sA) | go_keep)
              (first
                | (go_at_call 104; refine (pick_dr (w0 := w) _ _ (by first | with_reducible exact P9Da | with_reducible exact P9Db | with_reducible exact P9D) (by omega) (by unfold I64; omega)).mono ?_; rintro e wa ⟨u, rfl, hu, DA, EA⟩; have sA := EA.grow.cell (by first | with_reducible exact s1a | with_reducible exact s1b | with_reducible exact s1) ngs; obtain ⟨U, rfl⟩ := Int.eq_ofNat_of_zero_le hu.1; have vU : U < n := (by omega); have vUx : (0 : Int) ≤ (U : Int) := (by omega); have vUy : (U : Int) < (n : Int) := (by omega); have PA := (show PlI w g _ B H 4611686018427387900 p q (some ⟨gt, 0, none⟩) n c d ct5 wa from (by first | with_reducible exact PXa.step hg EA | with_reducible exact PXb.step hg EA | with_reducible exact PX.step hg EA)); have LA := lit4 wa; (first | (have LB : ∀ i, i < 4 → ∃ x, wa.cell? ⟨w8.heap.size, i, none⟩ = some (.int .i64 x) ∧ (-1 ≤ x ∧ x ≤ 4611686018427387904) := fun i hi => (by obtain ⟨x, h1, h2⟩ := LBb i hi; exact ⟨x, EA.grow.cell (by with_reducible exact h1) (fun e => by have := P9D.cur.lt; injection e with e; change w8.heap.size = g at e; omega), h2⟩)) | (have LB := LA)); clear hu)
                | (go_at_call 110; refine (among_any g _ _ 4 4 (fun x => -1 ≤ x ∧ x ≤ 4611686018427387904) _ (by first | with_reducible exact DA.cur | with_reducible exact (DA.alloc _).cur) (by omega) (by omega) (by omega) (by have := P9D.cur.lt; have := EA.size; have := DA.cur.lt; omega) (by first | with_reducible exact LA | with_reducible exact LB)).mono ?_; rintro e wb ⟨z, rfl, hz, CB, gB⟩; have EB : Dr g _ _ wb := ⟨CB, gB⟩; have sB := EB.grow.cell (by first | with_reducible exact sA | with_reducible exact ((Fr.refl _).alloc _).keep sA) ngs; have PB := (show PlI w g _ B H 4611686018427387900 p q (some ⟨gt, 0, none⟩) n c d ct5 wb from (by first | with_reducible exact PA.step hg EB | with_reducible exact (PA.fr ((Fr.refl _).alloc _)).step hg EB)); obtain ⟨gy, r2, cr2, x2, hgy, s2, e2, z2, b2, n2, l2, m2, set2⟩ := PB.spot hg (by omega) (i := S) (k := U) lS vU; injection hgy with hgy; injection hgy with hgy; subst hgy; have sq := s2.symm.trans sB; injection sq with sq; injection sq with sq; injection sq with sq; injection sq with sq; subst sq; have IZ : I64 z := (by unfold I64; omega); have sC := (grownBy_setCell (grownBy_refl wb (some r2)) (p := ⟨r2, U, none⟩) rfl (.int .i64 z)).cell sB (fun e => n2 (by injection e)); have FIN := Lib.hid (set2 z (by omega)); clear set2 b2 n2 l2 m2 s2))
            all_goals
              obtain ⟨⟨xs, h1⟩, ⟨ys, h2⟩, ⟨T, h3, _⟩, h6, _, _, h9, h10⟩ := FIN.out
              have HF := Lib.hid (And.intro h1 (And.intro h2 (And.intro ((h3.mono h9).upto h10) (h.trans (h6.mono (show _ ≤ A + 10000 by omega))))))
              clear h1 h2 h3 h6 h9 h10
              go_wp2
              refine bodyPost_ret (v := .tuple #[.slice p n c, .slice q n d, .slice (some ⟨gt, 0, none⟩) n ct5]) (by simp [results, Try.results108, go_sem]) rfl ?_
              exact ⟨_, _, _, _, _, _, _, _, _, rfl, ⟨_, _, _, HF.out.1, HF.out.2.1, HF.out.2.2.1⟩, by omega, HF.out.2.2.2⟩
end Go.Proofs.Ytboekndojgbkfaa
