import Derived.Test.YtojipjjfndgbhaaZV16
import Derived.Test.YtojipjjfndgbhaaZV06
import Derived.Test.YtojipjjfndgbhaaZV05
import Derived.Test.YtojipjjfndgbhaaZV14
/- Contracts of bound and SeerMean. -/
set_option linter.unusedVariables false
namespace Go.Proofs.Ytojipjjfndgbhaa
open Go.ChangeShapes Go.WideShapes Go.ChangeAt Go.RowKit
theorem prod_bd {x y : Int} (hx : -999 ≤ x ∧ x ≤ 999) (hy : 0 ≤ y ∧ y ≤ 20) : -19980 ≤ x * y ∧ x * y ≤ 19980 := by
  have := natAbs_mul_le (x := x) (y := y) (M := 999) (N := 20) (by omega) (by omega)
  omega
theorem top_se {P W X : List Int} (ht : treeB P W = true) (hX : ∀ i, -999 ≤ nth X i ∧ nth X i ≤ 999) {k : Nat} (hk : k ≤ (endsM P).length) : -479520 ≤ seTo (fun x => topM P X x * nth W x) (endsM P) k ∧ seTo (fun x => topM P X x * nth W x) (endsM P) k ≤ 479520 := by
  have h1 := se_bd (G := fun x => topM P X x * nth W x) (L := endsM P) (lo := -19980) (hi := 19980) (fun i hi => by
    obtain ⟨y, hy, hl, _⟩ := ends_nth hi
    rw [hy, Int.toNat_natCast]
    exact prod_bd (top_bd ht hX hl) (tree_wei ht y)) k hk
  have h2 : (endsM P).length ≤ P.length := endsTo_len P P.length
  have h3 := (treeB_iff.1 ht).1
  omega
set_option maxRecDepth 100000 in
set_option maxHeartbeats 1000000 in
theorem bound_any (w : World) (p q a a9 : Option Addr) (n c m d l b l9 b9 : Nat) (P W X L : List Int) (hP : SL w p n c P) (hW : SL w q m d W) (hX : SL w a l b X) (hL : SL w a9 l9 b9 L) (ht : treeB P W = true) (hx : procB P X = true) (hl9 : l9 = n) (hL0 : ∀ i, nth L i = 0) :
    Calls Try.prog 100 #[.agg #[.slice p n c, .slice q m d], .slice a l b, .slice a9 l9 b9] w fun e w' => e = .returned (.tuple #[.agg #[.int .i64 (lowA (lmS P W X) (nth (gathM P W) 0)), .int .i64 (lowB (lmS P W X) (nth (gathM P W) 0))], .bool true]) ∧ Fr w w' := by
  have HP := Lib.hid hP.len
  have HX := Lib.hid hX.len
  have HW := Lib.hid hW.len
  have Ht := Lib.hid ht
  have hln : l = n := by rw [← HX.out, ← HP.out]; exact (procB_iff.1 hx).1
  subst hln
  subst hl9
  have Hv := Lib.hid (nth_bd (procB_iff.1 hx).2 (by omega) (by omega))
  obtain ⟨t1, t2, t3, _⟩ := treeB_iff.1 ht
  have Hp := Lib.hid t3
  rw [HP.out] at t1
  obtain rfl : l9 = m := by rw [← HW.out, t2, HP.out]
  have N4' : Hid ((gathM P W).length = l9) := Lib.hid (by rw [gathM, gathTo_len, t2, HP.out])
  have HL0 := Lib.hid hL0
  have fit : (-1000000000 ≤ lmS P W X ∧ lmS P W X ≤ 1000000000) ∧ (0 < nth (gathM P W) 0 ∧ nth (gathM P W) 0 ≤ 1000000) := by
    have h1 := totals_bd (P := P) (W := W) (V := pkM P X) t3 (tree_wei ht) (pk_bd ht Hv.out) (by rw [HP.out]; exact t1.2) (by rw [HP.out]; exact t1.1) 0
    have h2 := sums_pos ht 0 (by rw [HP.out]; omega)
    have h3 := sums_le ht 0
    unfold lmS; omega
  have HFit := Lib.hid fit
  have HOk : Hid (lowOk (lmS P W X) (nth (gathM P W) 0) = true) := Lib.hid (lowOk_fit fit.1 fit.2)
  clear t2 t3 ht hx hL0 fit
  have hfr : Fr w ((w.alloc (.cells #[.slice p l9 c, .slice q l9 d] 29)).alloc (.cells #[.int .i64 0, .int .i64 0] 46)) := ((Fr.refl w).alloc _).alloc _
  have hb0 := (Blk.new w #[.slice p l9 c, .slice q l9 d] 29).alloc (.cells #[.int .i64 0, .int .i64 0] 46)
  have hb1 := Blk.new (w.alloc (.cells #[.slice p l9 c, .slice q l9 d] 29)) #[.int .i64 0, .int .i64 0] 46
  rw [World.size_alloc] at hb1
  have H0 := Lib.hid hb0; have H1 := Lib.hid hb1
  clear hb0 hb1
  go_enter Try.func100, Try.ntmps100
  go_upto_region 1 with fail
  generalize hw2 : (w.alloc (.cells #[.slice p l9 c, .slice q l9 d] 29)).alloc (.cells #[.int .i64 0, .int .i64 0] 46) = w2 at hfr H0 H1 ⊢
  clear hw2
  obtain ⟨bl, ol, rfl, ql⟩ := (hL.fr hfr).cells.resolve_left (by omega)
  have qL := ql 0 (by omega)
  rw [HL0.out 0, Nat.add_zero] at qL
  have c0 := H0.out.cell (j := 0) rfl; have c1 := H0.out.cell (j := 1) rfl
  have hP2 := hP.fr hfr
  have hW2 := hW.fr hfr
  clear ql
  have vn : (0 : Int) < (l9 : Int) := by omega
  go_cut [8] from 14 to 21 (fun s8 wx => s8 = .int .i64 0 ∧ Fr w2 wx)
  case first =>
    have d0 := (H0.out.fr (Fr.drewN w2 1)).cell (j := 0) rfl; have d1 := (H0.out.fr (Fr.drewN w2 1)).cell (j := 1) rfl
    have dL := (Fr.drewN w2 1).keep qL
    go_region_with
      ((go_at_call 91; refine (sums_any _ _ _ _ _ _ _ _ _ (hP2.fr (by first | exact (Fr.refl w2).drew' 1 | exact Fr.drewN w2 1)) (hW2.fr (by first | exact (Fr.refl w2).drew' 1 | exact Fr.drewN w2 1)) Ht.out).mono ?_; rintro e w4 ⟨a4, n4, k4, rfl, o4, f4', _⟩; have f4 : Fr w2 w4 := (by first | exact ((Fr.refl w2).drew' 1).trans f4' | exact (Fr.drewN w2 1).trans f4'); have k0 := f4.keep c0; have k1 := f4.keep c1; have kL := f4.keep qL; have hn4 : l9 = n4 := (by rw [← o4.len, N4'.out]); subst hn4; obtain ⟨g4, rfl, _, _, q4, _⟩ := o4.op (by omega); replace q4 := q4 0 (by omega)))
    all_goals
      go_wp2_with fail
      go_meet
      exact ⟨by first | rfl | simp | decide, f4⟩
  case rest =>
    obtain ⟨rfl, hF1⟩ := hcut
    obtain ⟨w3, rfl⟩ : ∃ wz : World, wz = wc := ⟨_, rfl⟩
    clear c0 c1 hP2 hW2 qL
    have hFw := hfr.trans hF1
    have c0 := (H0.out.fr hF1).cell (j := 0) rfl; have c1 := (H0.out.fr hF1).cell (j := 1) rfl
    go_wp2_with fail
    clear c0 c1
    refine (ends_any _ _ _ _ _ _ _ _ (hP.fr hFw) Hp.out (by omega)).mono ?_
    rintro e w4 ⟨a2, n2, c2, rfl, o2, f4, m2⟩
    have Hn2 := Lib.hid o2.len
    have S2 := o2.sl
    have hF4 := hF1.trans f4
    have n24 : n2 ≤ 24 := by have := Hn2.out; have := endsTo_len P P.length; rw [endsM] at *; have := HP.out; omega
    clear o2 f4 hF1 hFw
    go_wp2
    go_loopw [8, 25] (fun s i wr => ∃ k : Nat, k ≤ n2 ∧ i = .int .i64 k ∧ s = .int .i64 (seTo (fun x => topM P X x * nth W x) (endsM P) k) ∧ Fr w4 wr) (fun _ i _ => n2 - (intOf i).toNat)
    case atStart => exact ⟨0, by omega, rfl, rfl, Fr.refl _⟩
    case round =>
      obtain ⟨k, hk, rfl, rfl, hF⟩ := hrel
      obtain ⟨wo, rfl⟩ : ∃ wo : World, wo = wr := ⟨_, rfl⟩
      have hFo := hF4.trans hF
      have hFw := hfr.trans hFo
      by_cases hlt : k < n2
      · obtain ⟨z, hz, hzl, _⟩ := ends_nth (P := P) (i := k) (by rw [Hn2.out]; exact hlt)
        have HZL := Lib.hid hzl
        rw [HP.out] at hzl
        obtain ⟨b2, of2, rfl, hce⟩ := (S2.fr hF).cells.resolve_left (by omega)
        replace hce := hce k hlt
        have HS : Hid (seTo (fun x => topM P X x * nth W x) (endsM P) (k + 1) = seTo (fun x => topM P X x * nth W x) (endsM P) k + topM P X z * nth W z) := Lib.hid (by rw [seTo, hz]; rfl)
        rw [hz] at hce
        clear hz
        have b6 := top_se Ht.out Hv.out (k := k) (by rw [Hn2.out]; exact hk)
        have b7 := top_se Ht.out Hv.out (k := k + 1) (by rw [Hn2.out]; exact hlt)
        rw [HS.out] at b7
        generalize seTo (fun x => topM P X x * nth W x) (endsM P) k = acc at HS b6 b7 ⊢
        have vk0 : (0 : Int) ≤ (k : Int) := by omega
        have vk : (k : Int) < (n2 : Int) := by omega
        have vz0 : (0 : Int) ≤ (z : Int) := by omega
        have vz : (z : Int) < (l9 : Int) := by omega
        obtain ⟨bx, ox, rfl, qx⟩ := (hX.fr hFw).cells.resolve_left (by omega)
        have q0 := qx 0 (by omega)
        rw [Nat.add_zero] at q0
        obtain ⟨bl', ol', ebl, ql⟩ := (hL.fr hFw).cells.resolve_left (by omega)
        injection ebl with ebl; injection ebl with ebl1 ebl2; subst ebl1; subst ebl2
        have q9 := ql 0 (by omega)
        rw [HL0.out 0, Nat.add_zero] at q9
        have b0 := Hv.out 0
        have e1 : IntKind.i64.wrap (nth X 0 - 0) = nth X 0 := by rw [Int.sub_zero]; exact IntWalk.i64_in _ (by omega)
        have e2 : IntKind.i64.wrap (nth X 0) = nth X 0 := IntWalk.i64_in _ (by omega)
        clear qx ql
        go_upto_region 5 with fail
        go_quiet (fail)
        clear q0 q9 hce e1 e2
        have D1 : Fr wo (wo.drewN nq) := Fr.drewN wo _
        have hF6 := hF.trans D1
        have hFo6 := hFo.trans D1
        have hFw6 := hFw.trans D1
        generalize wo.drewN nq = w6 at D1 hF6 hFo6 hFw6 ⊢
        have c0 := (H0.out.fr hFo6).cell (j := 0) rfl; have c1 := (H0.out.fr hFo6).cell (j := 1) rfl
        go_wp2_with fail
        clear c0 c1
        refine (way_any _ _ _ _ _ _ _ z _ (hP.fr hFw6) Hp.out hzl (by omega)).mono ?_
        rintro e w7 ⟨a5, n5, k5, rfl, o5, f7, _⟩
        have S5 := o5.sl
        have HK := Lib.hid S5.len
        have hF7 := hF6.trans f7
        have hFo7 := hFo6.trans f7
        have hFw7 := hFw6.trans f7
        have HMX : Hid (mxTo X (wayM P z) (nth X 0) n5 = topM P X z) := Lib.hid (by
          rw [← HK.out, mx_way Hp.out (nth X 0) z z (Nat.le_refl _) HZL.out]
          have := topM_bd Hp.out Hv.out z z (Nat.le_refl _) HZL.out
          omega)
        clear o5 hF hFo hFw D1 hF6 hFo6 hFw6 f7
        go_wp2
        go_loopw [11, 40] (fun x i wr => ∃ t : Nat, t ≤ n5 ∧ i = .int .i64 t ∧ x = .int .i64 (mxTo X (wayM P z) (nth X 0) t) ∧ Qt w7 wr) (fun _ i _ => n5 - (intOf i).toNat)
        case atStart => exact ⟨0, Nat.zero_le _, rfl, rfl, Qt.refl _⟩
        case round =>
          obtain ⟨t, ht5, rfl, rfl, hQ⟩ := hrel
          by_cases htl : t < n5
          · obtain ⟨y, hy, hyn⟩ := wayM_nth Hp.out HZL.out (i := t) (by rw [HK.out]; exact htl)
            rw [HP.out] at hyn
            obtain ⟨b5, of5, rfl, q5⟩ := (S5.qt hQ).cells.resolve_left (by omega)
            replace q5 := q5 t htl
            rw [hy] at q5
            have HT : Hid (mxTo X (wayM P z) (nth X 0) (t + 1) = max (mxTo X (wayM P z) (nth X 0) t) (nth X y)) := Lib.hid (by rw [mxTo, hy]; rfl)
            clear hy
            obtain ⟨bx', ox', ebx, qx⟩ := ((hX.fr hFw7).qt hQ).cells.resolve_left (by omega)
            injection ebx with ebx; injection ebx with ebx1 ebx2; subst ebx1; subst ebx2
            replace qx := qx y hyn
            obtain ⟨bl', ol', ebl, ql⟩ := ((hL.fr hFw7).qt hQ).cells.resolve_left (by omega)
            injection ebl with ebl; injection ebl with ebl1 ebl2; subst ebl1; subst ebl2
            replace ql := ql y hyn
            rw [HL0.out y] at ql
            have vt0 : (0 : Int) ≤ (t : Int) := by omega
            have vt : (t : Int) < (n5 : Int) := by omega
            have vy0 : (0 : Int) ≤ (y : Int) := by omega
            have vy : (y : Int) < (l9 : Int) := by omega
            have b1 := Hv.out y
            have e1 : IntKind.i64.wrap (nth X y - 0) = nth X y := by rw [Int.sub_zero]; exact IntWalk.i64_in _ (by omega)
            have e2 : IntKind.i64.wrap (nth X y) = nth X y := IntWalk.i64_in _ (by omega)
            generalize mxTo X (wayM P z) (nth X 0) t = v at HT ⊢
            go_wp2
            go_quiet (fail)
            clear e1 e2
            go_wp2
            go_roundw
            case rel => exact ⟨t + 1, by omega, by go_num, by rw [HT.out]; congr 1; split <;> omega, hQ.drewN _⟩
            case measure => simp [intOf]; omega
          · obtain rfl : t = n5 := by omega
            rw [HMX.out]
            have b1 := top_bd Ht.out Hv.out HZL.out
            have b2 := tree_wei Ht.out z
            have b3 := prod_bd b1 b2
            have hF8 := hF7.trans hQ.fr
            have hFw8 := hFw7.trans hQ.fr
            have c1 := (H0.out.fr (hFo7.trans hQ.fr)).cell (j := 1) rfl
            obtain ⟨bw, ow, rfl, qw⟩ := (hW.fr hFw8).cells.resolve_left (by omega)
            replace qw := qw z (by omega)
            go_wp2
            go_roundw
            case rel => exact ⟨k + 1, by omega, by go_num, by rw [HS.out], hF8⟩
            case measure => simp [intOf]; omega
      · obtain rfl : k = n2 := by omega
        have HTR : Hid (seTo (fun x => topM P X x * nth W x) (endsM P) k = lmS P W X) := Lib.hid (by rw [lmS, pkM, tot_root Hp.out (by rw [HP.out]; omega), Hn2.out])
        rw [HTR.out]
        have c0 := (H0.out.fr hFo).cell (j := 0) rfl; have c1 := (H0.out.fr hFo).cell (j := 1) rfl
        go_wp2_with fail
        clear c0 c1
        refine (sums_any _ _ _ _ _ _ _ _ _ (hP.fr hFw) (hW.fr hFw) Ht.out).mono ?_
        rintro e w6 ⟨a4, n4, k4, rfl, o4, f6, _⟩
        have hn4 : n4 = l9 := by rw [← o4.len, N4'.out]
        subst hn4
        obtain ⟨g4, rfl, _, _, q4, _⟩ := o4.op (by omega)
        replace q4 := q4 0 (by omega)
        have b8 := HFit.out
        have hFo6 := hFo.trans f6
        have hFw6 := hFw.trans f6
        go_wp2_with fail
        refine (lowest_any _ _ _ (by omega) (by omega)).mono ?_
        rintro e w7 ⟨rfl, f7⟩
        rw [HOk.out]
        have J1 := Lib.hid (H1.out.fr (hFo6.trans f7))
        have p0 := J1.out.cell (j := 0) rfl; have p1 := J1.out.cell (j := 1) rfl
        have r0 := J1.out.free 0; have r1 := J1.out.free 1
        have hFw7 := hFw6.trans f7
        have E := (J1.out.set 0 (.int .i64 (lowA (lmS P W X) (nth (gathM P W) 0)))).set 1 (.int .i64 (lowB (lmS P W X) (nth (gathM P W) 0)))
        simp only [List.setIfInBounds_toArray, List.set_cons_zero, List.set_cons_succ] at E
        have hsw := hFw7.size
        go_wp2
        refine bodyPost_ret (results_FB Try.results100 _ _ (w.heap.size + 1) _ _ _ rfl rfl (E.cell rfl) (E.cell rfl)) rfl ?_
        refine ⟨rfl, ?_⟩
        iterate 2 refine Fr.setCell ?_ (by dsimp only; omega) _
        exact hFw7
set_option maxRecDepth 100000 in
set_option maxHeartbeats 1000000 in
theorem SeerMean_yes (w : World) (p q a : Option Addr) (n c m d l b : Nat) (P W X : List Int) (hP : SL w p n c P) (hW : SL w q m d W) (hX : SL w a l b X) (ht : treeB P W = true) (hx : procB P X = true) :
    Calls Try.prog 54 #[.agg #[.slice p n c, .slice q m d], .slice a l b] w fun e w' => e = .returned (.tuple #[.agg #[.int .i64 (lowA (lmS P W X) (nth (gathM P W) 0)), .int .i64 (lowB (lmS P W X) (nth (gathM P W) 0))], .bool true]) ∧ Fr w w' := by
  have HP := Lib.hid hP.len
  have HX := Lib.hid hX.len
  have Ht := Lib.hid ht; have Hx := Lib.hid hx
  have hln : l = n := by rw [← HX.out, ← HP.out]; exact (procB_iff.1 hx).1
  subst hln
  have t1 := (treeB_iff.1 ht).1
  rw [HP.out] at t1
  have hmk := fun w => run_make_row' 22 3 (.int .i64 0) 8 Try.underlying22 infoInt rfl .i64 .i64 l (by omega) (by omega) w
  have hfr : Fr w ((w.alloc (.cells #[.slice p l c, .slice q m d] 29)).alloc (.cells #[.int .i64 0, .int .i64 0] 46)) := ((Fr.refl w).alloc _).alloc _
  have hb0 := (Blk.new w #[.slice p l c, .slice q m d] 29).alloc (.cells #[.int .i64 0, .int .i64 0] 46)
  have hb1 := Blk.new (w.alloc (.cells #[.slice p l c, .slice q m d] 29)) #[.int .i64 0, .int .i64 0] 46
  rw [World.size_alloc] at hb1
  have H0 := Lib.hid hb0; have H1 := Lib.hid hb1
  clear hb0 hb1
  have c0 := H0.out.cell (j := 0) rfl; have c1 := H0.out.cell (j := 1) rfl
  go_enter Try.func54, Try.ntmps54
  go_wp2_with fail
  clear c0 c1
  refine (IsTree_any _ _ _ _ _ _ _ _ _ (hP.fr hfr) (hW.fr hfr)).mono ?_
  rintro e w1 ⟨rfl, f1⟩
  have G1 := Lib.hid (H0.out.fr f1)
  have hF1 := hfr.trans f1
  have c0 := G1.out.cell (j := 0) rfl; have c1 := G1.out.cell (j := 1) rfl
  go_wp2_with fail
  clear c0 c1 ht
  refine (isProcess_any _ _ _ _ _ _ _ _ _ _ _ W _ (hP.fr hF1) (hX.fr hF1)).mono ?_
  rintro e w2 ⟨rfl, f2⟩
  have hF2 := hF1.trans f2
  have hFo := f1.trans f2
  have c0 := (H0.out.fr hFo).cell (j := 0) rfl; have c1 := (H0.out.fr hFo).cell (j := 1) rfl
  have d0 := (H0.out.fr (hFo.drew' 1)).cell (j := 0) rfl; have d1 := (H0.out.fr (hFo.drew' 1)).cell (j := 1) rfl
  have x0 := (H0.out.fr (hFo.alloc (.cells (madeCells #[.int .i64 0] l) 3))).cell (j := 0) rfl; have x1 := (H0.out.fr (hFo.alloc (.cells (madeCells #[.int .i64 0] l) 3))).cell (j := 1) rfl
  have o9 := Own.made (B := w2.heap.size) w2 l (Nat.le_refl _) (by unfold maxLen; omega)
  have hP2 := hP.fr hF2
  have hW2 := hW.fr hF2
  have hX2 := hX.fr hF2
  have HZ : Hid (∀ i, nth (List.replicate l 0) i = 0) := Lib.hid (fun i => by unfold nth; rw [List.getElem?_replicate]; split <;> rfl)
  go_upto_region 3 with fail
  clear hx
  go_region_with
    ((go_at_call 100; refine (bound_any _ _ _ _ _ _ _ _ _ _ _ _ _ _ _ _ _ (hP2.fr (by first | exact ((Fr.refl w2).alloc _).drew' 1 | exact (Fr.refl w2).alloc _)) (hW2.fr (by first | exact ((Fr.refl w2).alloc _).drew' 1 | exact (Fr.refl w2).alloc _)) (hX2.fr (by first | exact ((Fr.refl w2).alloc _).drew' 1 | exact (Fr.refl w2).alloc _)) (by first | exact o9.sl | exact (o9.fr ((Fr.refl _).drew' 1)).sl) Ht.out Hx.out rfl HZ.out).mono ?_; rintro e w3 ⟨rfl, f3'⟩; have f3 : Fr w2 w3 := (by first | exact (((Fr.refl w2).alloc _).drew' 1).trans f3' | exact ((Fr.refl w2).alloc _).trans f3'); have J1 := Lib.hid (H1.out.fr (hFo.trans f3)); have p0 := J1.out.cell (j := 0) rfl; have p1 := J1.out.cell (j := 1) rfl; have r0 := J1.out.free 0; have r1 := J1.out.free 1))
  all_goals
    have E := (J1.out.set 0 (.int .i64 (lowA (lmS P W X) (nth (gathM P W) 0)))).set 1 (.int .i64 (lowB (lmS P W X) (nth (gathM P W) 0)))
    simp only [List.setIfInBounds_toArray, List.set_cons_zero, List.set_cons_succ] at E
    have hFw7 := hF2.trans f3
    have hsw := hFw7.size
    go_wp2
    refine bodyPost_ret (results_FB Try.results54 _ _ (w.heap.size + 1) _ _ _ rfl rfl (E.cell rfl) (E.cell rfl)) rfl ?_
    refine ⟨rfl, ?_⟩
    iterate 2 refine Fr.setCell ?_ (by dsimp only; omega) _
    exact hFw7
end Go.Proofs.Ytojipjjfndgbhaa
/- Contracts of LargestMean. -/
set_option linter.unusedVariables false
namespace Go.Proofs.Ytojipjjfndgbhaa
open Go.ChangeShapes Go.WideShapes Go.ChangeAt Go.RowKit
theorem lm_fit {P W X : List Int} (h : evenB P W X = true) : (-1000000000 ≤ lmS P W X ∧ lmS P W X ≤ 1000000000) ∧ (0 < nth (gathM P W) 0 ∧ nth (gathM P W) 0 ≤ 1000000) := by
  obtain ⟨ht, hx, _, _⟩ := evenB_parts h
  obtain ⟨t1, t2, t3, _⟩ := treeB_iff.1 ht
  have hv := nth_bd (procB_iff.1 hx).2 (by omega) (by omega)
  have h1 := totals_bd (P := P) (W := W) (V := pkM P X) t3 (tree_wei ht) (pk_bd ht hv) t1.2 t1.1 0
  have h2 := sums_pos ht 0 (by omega)
  have h3 := sums_le ht 0
  unfold lmS; omega
theorem lm_mean {P W X : List Int} (h : evenB P W X = true) : lmV P W X = meanP P W (pkM P X) 0 := by rw [lmV, h]; rfl
set_option maxRecDepth 100000 in
theorem impl_LargestMean_any (w : World) (p q a : Option Addr) (n c m d l b : Nat) (P W X : List Int) (hP : SL w p n c P) (hW : SL w q m d W) (hX : SL w a l b X) :
    Calls Try.prog 39 #[.agg #[.slice p n c, .slice q m d], .slice a l b] w fun e w' => e = .returned (.tuple #[.agg #[.int .i64 (lmV P W X).1, .int .i64 (lmV P W X).2], .bool (evenB P W X)]) ∧ Fr w w' := by
  have hfr : Fr w ((w.alloc (.cells #[.slice p n c, .slice q m d] 29)).alloc (.cells #[.int .i64 0, .int .i64 0] 46)) := ((Fr.refl w).alloc _).alloc _
  have hb0 := (Blk.new w #[.slice p n c, .slice q m d] 29).alloc (.cells #[.int .i64 0, .int .i64 0] 46)
  have hb1 := Blk.new (w.alloc (.cells #[.slice p n c, .slice q m d] 29)) #[.int .i64 0, .int .i64 0] 46
  rw [World.size_alloc] at hb1
  have H0 := Lib.hid hb0; have H1 := Lib.hid hb1
  clear hb0 hb1
  have c0 := H0.out.cell (j := 0) rfl; have c1 := H0.out.cell (j := 1) rfl
  go_enter Try.func39, Try.ntmps39
  go_wp2_with fail
  clear c0 c1
  refine (isBalancedUp_any _ _ _ _ _ _ _ _ _ _ _ _ _ (hP.fr hfr) (hW.fr hfr) (hX.fr hfr)).mono ?_
  rintro e w1 ⟨rfl, f1⟩
  have hF1 := hfr.trans f1
  have hs1 := hF1.size
  cases h : evenB P W X
  · have HB := Lib.hid h
    have HH : Hid (lmV P W X = (0, 0)) := Lib.hid (by rw [lmV, h]; rfl)
    have G1 := Lib.hid (H1.out.fr f1)
    have j0 := G1.out.cell (j := 0) rfl; have j1 := G1.out.cell (j := 1) rfl
    have i0 := G1.out.free 0; have i1 := G1.out.free 1
    go_wp2
    have E := (G1.out.set 0 (.int .i64 0)).set 1 (.int .i64 0)
    refine bodyPost_ret (results_FB Try.results39 _ _ (w.heap.size + 1) (.int .i64 0) (.int .i64 0) _ rfl rfl (E.cell rfl) (E.cell rfl)) rfl ?_
    refine ⟨by rw [HH.out, HB.out]; rfl, ?_⟩
    iterate 2 refine Fr.setCell ?_ (by dsimp only; omega) _
    exact hF1
  · have HB := Lib.hid h
    obtain ⟨ht, hx, _, _⟩ := evenB_parts h
    have HH : Hid (lmV P W X = (lowA (lmS P W X) (nth (gathM P W) 0), lowB (lmS P W X) (nth (gathM P W) 0))) := Lib.hid (by rw [lmV, h]; rfl)
    have c0 := (H0.out.fr f1).cell (j := 0) rfl; have c1 := (H0.out.fr f1).cell (j := 1) rfl
    go_wp2_with fail
    clear c0 c1 h
    refine (SeerMean_yes _ _ _ _ _ _ _ _ _ _ _ _ _ (hP.fr hF1) (hW.fr hF1) (hX.fr hF1) ht hx).mono ?_
    rintro e w2 ⟨rfl, f2⟩
    have G1 := Lib.hid (H1.out.fr (f1.trans f2))
    have j0 := G1.out.cell (j := 0) rfl; have j1 := G1.out.cell (j := 1) rfl
    have i0 := G1.out.free 0; have i1 := G1.out.free 1
    have hF2 := hF1.trans f2
    have E := (G1.out.set 0 (.int .i64 (lowA (lmS P W X) (nth (gathM P W) 0)))).set 1 (.int .i64 (lowB (lmS P W X) (nth (gathM P W) 0)))
    simp only [List.setIfInBounds_toArray, List.set_cons_zero, List.set_cons_succ] at E
    clear ht hx
    go_wp2
    refine bodyPost_ret (results_FB Try.results39 _ _ (w.heap.size + 1) _ _ _ rfl rfl (E.cell rfl) (E.cell rfl)) rfl ?_
    refine ⟨by rw [HH.out, HB.out]; rfl, ?_⟩
    iterate 2 refine Fr.setCell ?_ (by dsimp only; omega) _
    exact hF2
set_option maxRecDepth 100000 in
set_option maxHeartbeats 1000000 in
theorem spec_LargestMean_any (w : World) (p q a : Option Addr) (n c m d l b : Nat) (P W X : List Int) (hP : SL w p n c P) (hW : SL w q m d W) (hX : SL w a l b X) :
    Calls Try.prog 38 #[.agg #[.slice p n c, .slice q m d], .slice a l b] w fun e w' => e = .returned (.tuple #[.agg #[.int .i64 (lmV P W X).1, .int .i64 (lmV P W X).2], .bool (evenB P W X)]) ∧ Fr w w' := by
  have HP := Lib.hid hP.len
  have hfr : Fr w ((w.alloc (.cells #[.slice p n c, .slice q m d] 29)).alloc (.cells #[.int .i64 0, .int .i64 0] 46)) := ((Fr.refl w).alloc _).alloc _
  have hb0 := (Blk.new w #[.slice p n c, .slice q m d] 29).alloc (.cells #[.int .i64 0, .int .i64 0] 46)
  have hb1 := Blk.new (w.alloc (.cells #[.slice p n c, .slice q m d] 29)) #[.int .i64 0, .int .i64 0] 46
  rw [World.size_alloc] at hb1
  have H0 := Lib.hid hb0; have H1 := Lib.hid hb1
  clear hb0 hb1
  have c0 := H0.out.cell (j := 0) rfl; have c1 := H0.out.cell (j := 1) rfl
  go_enter Try.func38, Try.ntmps38
  go_wp2_with fail
  clear c0 c1
  refine (l10Fair_any _ _ _ _ _ _ _ _ _ _ _ _ _ (hP.fr hfr) (hW.fr hfr) (hX.fr hfr)).mono ?_
  rintro e w1 ⟨rfl, f1⟩
  have hF1 := hfr.trans f1
  have hs1 := hF1.size
  cases h : evenB P W X
  · have HB := Lib.hid h
    have HH : Hid (lmV P W X = (0, 0)) := Lib.hid (by rw [lmV, h]; rfl)
    have G1 := Lib.hid (H1.out.fr f1)
    have j0 := G1.out.cell (j := 0) rfl; have j1 := G1.out.cell (j := 1) rfl
    have i0 := G1.out.free 0; have i1 := G1.out.free 1
    go_wp2
    have E := (G1.out.set 0 (.int .i64 0)).set 1 (.int .i64 0)
    refine bodyPost_ret (results_FB Try.results38 _ _ (w.heap.size + 1) (.int .i64 0) (.int .i64 0) _ rfl rfl (E.cell rfl) (E.cell rfl)) rfl ?_
    refine ⟨by rw [HH.out, HB.out]; rfl, ?_⟩
    iterate 2 refine Fr.setCell ?_ (by dsimp only; omega) _
    exact hF1
  · have HE := Lib.hid h
    have HB := Lib.hid h
    obtain ⟨ht, hx, _, hpos⟩ := evenB_parts h
    have Ht := Lib.hid ht
    have Hv := Lib.hid (nth_bd (procB_iff.1 hx).2 (by omega) (by omega))
    have t1 := (treeB_iff.1 ht).1
    rw [HP.out] at t1
    have HH : Hid (lmV P W X = meanP P W (pkM P X) 0) := Lib.hid (lm_mean h)
    have HPK : Hid ((pkM P X).length = (endsM P).length) := Lib.hid (by rw [pkM, enM, enTo_len])
    have c0 := (H0.out.fr f1).cell (j := 0) rfl; have c1 := (H0.out.fr f1).cell (j := 1) rfl
    have d0 := (H0.out.fr (f1.drew' 1)).cell (j := 0) rfl; have d1 := (H0.out.fr (f1.drew' 1)).cell (j := 1) rfl
    have hP1 := hP.fr hF1; have hW1 := hW.fr hF1; have hX1 := hX.fr hF1
    clear ht hx hpos
    go_upto_region 3 with fail
    clear h
    go_region_with (first
      | (go_at_call 86; refine (l10Peaks_any _ _ _ _ _ _ _ _ _ _ _ _ _ (hP1.fr (by first | exact (Fr.refl w1).drew' 1 | exact Fr.drewN w1 1)) (hW1.fr (by first | exact (Fr.refl w1).drew' 1 | exact Fr.drewN w1 1)) (hX1.fr (by first | exact (Fr.refl w1).drew' 1 | exact Fr.drewN w1 1)) HE.out).mono ?_; rintro e w2 ⟨a2, n2, c2, rfl, o2, f2', _⟩; have f2 : Fr w1 w2 := (by first | exact ((Fr.refl w1).drew' 1).trans f2' | exact (Fr.drewN w1 1).trans f2'); have k0 := f2.keep c0; have k1 := f2.keep c1)
      | (go_at_call 85; refine (l2Means_any _ _ _ _ _ _ _ _ _ _ _ _ _ (hP1.fr f2) (hW1.fr f2) o2.sl Ht.out (by rw [← o2.len]; exact HPK.out) (pk_bd Ht.out Hv.out)).mono ?_; rintro e w3 ⟨a3, n3, c3, rfl, o3, f3', _⟩; have f3 : Fr w1 w3 := f2.trans f3'; have N3 : n = n3 := (by rw [← o3.len, meansM_len, HP.out]); subst N3; obtain ⟨g3, rfl, hg1, hg2, hcap, hc3⟩ := o3.op (by omega); obtain ⟨hy0, hy1⟩ := hc3 0 (by omega); rw [meansM_nth (by rw [HP.out]; omega)] at hy0 hy1; have j0 := (H1.out.fr (f1.trans f3)).cell (j := 0) rfl; have j1 := (H1.out.fr (f1.trans f3)).cell (j := 1) rfl; have i0 := (H1.out.fr (f1.trans f3)).free 0; have i1 := (H1.out.fr (f1.trans f3)).free 1))
    all_goals
      have E := ((H1.out.fr (f1.trans f3)).set 0 (.int .i64 (meanP P W (pkM P X) 0).1)).set 1 (.int .i64 (meanP P W (pkM P X) 0).2)
      simp only [List.setIfInBounds_toArray, List.set_cons_zero, List.set_cons_succ] at E
      go_wp2
      refine bodyPost_ret (results_FB Try.results38 _ _ (w.heap.size + 1) (.int .i64 (meanP P W (pkM P X) 0).1) (.int .i64 (meanP P W (pkM P X) 0).2) _ rfl rfl (E.cell rfl) (E.cell rfl)) rfl ?_
      refine ⟨by rw [HH.out, HB.out]; rfl, ?_⟩
      iterate 2 refine Fr.setCell ?_ (by dsimp only; omega) _
      exact hF1.trans f3
end Go.Proofs.Ytojipjjfndgbhaa
/- Contracts of LargestChance. -/
set_option linter.unusedVariables false
namespace Go.Proofs.Ytojipjjfndgbhaa
open Go.ChangeShapes Go.WideShapes Go.ChangeAt Go.RowKit
theorem ch_999 (P X : List Int) (v : Int) (i : Nat) : -999 ≤ nth (enM P (chF P X v)) i ∧ nth (enM P (chF P X v)) i ≤ 999 :=
  en_bd (fun x _ => by have := chF_bd P X v x; omega) (by omega) (Nat.le_refl _) i
theorem lc_fit {P W X : List Int} (h : evenB P W X = true) (v : Int) : (-1000000000 ≤ lcS P W X v ∧ lcS P W X v ≤ 1000000000) ∧ (0 < nth (gathM P W) 0 ∧ nth (gathM P W) 0 ≤ 1000000) := by
  obtain ⟨ht, hx, _, _⟩ := evenB_parts h
  obtain ⟨t1, t2, t3, _⟩ := treeB_iff.1 ht
  have h1 := totals_bd (P := P) (W := W) (V := enM P (chF P X v)) t3 (tree_wei ht) (ch_999 P X v) t1.2 t1.1 0
  have h2 := sums_pos ht 0 (by omega)
  have h3 := sums_le ht 0
  unfold lcS; omega
theorem lc_mean {P W X : List Int} {v : Int} (h : lcB P W X v = true) : lcV P W X v = meanP P W (enM P (chF P X v)) 0 := by rw [lcV, h]; rfl
theorem lcB_parts {P W X : List Int} {v : Int} (h : lcB P W X v = true) : evenB P W X = true ∧ 1 ≤ v ∧ v ≤ 999 := by
  rw [lcB, Bool.and_eq_true, inB_iff] at h; exact h
theorem lcB_no1 {P W X : List Int} {v : Int} (h : evenB P W X = false) : lcB P W X v = false := by rw [lcB, h]; rfl
theorem lcB_no2 {P W X : List Int} {v : Int} (h : inB v 1 999 = false) : lcB P W X v = false := by rw [lcB, h]; simp
/-- The first k peaks told. -/
def mixE (P X : List Int) (v : Int) (k : Nat) : List Int := (List.range (endsM P).length).map fun i => if i < k then chF P X v (nth (endsM P) i).toNat else topM P X (nth (endsM P) i).toNat
theorem mixE_len (P X : List Int) (v : Int) (k : Nat) : (mixE P X v k).length = (endsM P).length := by simp [mixE]
theorem mixE_nth {P X : List Int} {v : Int} {k i : Nat} (h : i < (endsM P).length) : nth (mixE P X v k) i = if i < k then chF P X v (nth (endsM P) i).toNat else topM P X (nth (endsM P) i).toNat := by simp [nth, mixE, h]
theorem mixE_zero (P X : List Int) (v : Int) : mixE P X v 0 = pkM P X := by simp [mixE, pkM, enM, enTo]
theorem mixE_all (P X : List Int) (v : Int) : mixE P X v (endsM P).length = enM P (chF P X v) := by
  refine nth_ext (by rw [mixE_len, enM, enTo_len]) fun i hi => ?_
  rw [mixE_len] at hi
  rw [mixE_nth hi, if_pos hi, enM, enTo_nth hi]
theorem mixE_set {P X : List Int} {v : Int} {k : Nat} (hk : k < (endsM P).length) : (mixE P X v k).set k (chF P X v (nth (endsM P) k).toNat) = mixE P X v (k + 1) := by
  refine nth_ext (by simp [mixE_len]) fun i hi => ?_
  simp only [List.length_set, mixE_len] at hi
  by_cases e : k = i
  · subst e; rw [nth_set_same (by rw [mixE_len]; exact hi), mixE_nth hi, if_pos (by omega)]
  · rw [nth_set_ne e, mixE_nth hi, mixE_nth hi]
    by_cases e2 : i < k
    · rw [if_pos e2, if_pos (by omega)]
    · rw [if_neg e2, if_neg (by omega)]
theorem ch_se {P W X : List Int} (ht : treeB P W = true) (v : Int) {k : Nat} (hk : k ≤ (endsM P).length) : 0 ≤ seTo (fun x => chF P X v x * nth W x) (endsM P) k ∧ seTo (fun x => chF P X v x * nth W x) (endsM P) k ≤ 480 := by
  have h1 := se_bd (G := fun x => chF P X v x * nth W x) (L := endsM P) (lo := 0) (hi := 20) (fun i hi => by
    have h2 := chF_bd P X v (nth (endsM P) i).toNat
    have h3 := tree_wei ht (nth (endsM P) i).toNat
    have h4 : chF P X v (nth (endsM P) i).toNat = 0 ∨ chF P X v (nth (endsM P) i).toNat = 1 := by omega
    rcases h4 with h4 | h4
    · simp only [h4]; omega
    · simp only [h4]; omega) k hk
  have h2 : (endsM P).length ≤ P.length := endsTo_len P P.length
  have h3 := (treeB_iff.1 ht).1
  omega
set_option maxRecDepth 100000 in
set_option maxHeartbeats 1000000 in
theorem impl_LargestChance_any (w : World) (p q a : Option Addr) (n c m d l b : Nat) (P W X : List Int) (v : Int) (hP : SL w p n c P) (hW : SL w q m d W) (hX : SL w a l b X) (hv : I64 v) :
    Calls Try.prog 41 #[.agg #[.slice p n c, .slice q m d], .slice a l b, .int .i64 v] w fun e w' => e = .returned (.tuple #[.agg #[.int .i64 (lcV P W X v).1, .int .i64 (lcV P W X v).2], .bool (lcB P W X v)]) ∧ Fr w w' := by
  have HP := Lib.hid hP.len
  have HW := Lib.hid hW.len
  have hfr : Fr w ((w.alloc (.cells #[.slice p n c, .slice q m d] 29)).alloc (.cells #[.int .i64 0, .int .i64 0] 46)) := ((Fr.refl w).alloc _).alloc _
  have hb0 := (Blk.new w #[.slice p n c, .slice q m d] 29).alloc (.cells #[.int .i64 0, .int .i64 0] 46)
  have hb1 := Blk.new (w.alloc (.cells #[.slice p n c, .slice q m d] 29)) #[.int .i64 0, .int .i64 0] 46
  rw [World.size_alloc] at hb1
  have H0 := Lib.hid hb0; have H1 := Lib.hid hb1
  clear hb0 hb1
  have c0 := H0.out.cell (j := 0) rfl; have c1 := H0.out.cell (j := 1) rfl
  go_enter Try.func41, Try.ntmps41
  go_wp2_with fail
  clear c0 c1
  refine (isBalancedUp_any _ _ _ _ _ _ _ _ _ _ _ _ _ (hP.fr hfr) (hW.fr hfr) (hX.fr hfr)).mono ?_
  rintro e w1 ⟨rfl, f1⟩
  have hF1 := hfr.trans f1
  have hs1 := hF1.size
  have G1 := Lib.hid (H1.out.fr f1)
  cases h : evenB P W X
  · have HB : Hid (lcB P W X v = false) := Lib.hid (lcB_no1 h)
    have HH : Hid (lcV P W X v = (0, 0)) := Lib.hid (by rw [lcV, HB.out]; rfl)
    have j0 := G1.out.cell (j := 0) rfl; have j1 := G1.out.cell (j := 1) rfl
    have i0 := G1.out.free 0; have i1 := G1.out.free 1
    go_wp2
    have E := (G1.out.set 0 (.int .i64 0)).set 1 (.int .i64 0)
    refine bodyPost_ret (results_FB Try.results41 _ _ (w.heap.size + 1) (.int .i64 0) (.int .i64 0) _ rfl rfl (E.cell rfl) (E.cell rfl)) rfl ?_
    refine ⟨by rw [HH.out, HB.out]; rfl, ?_⟩
    iterate 2 refine Fr.setCell ?_ (by dsimp only; omega) _
    exact hF1
  have HE := Lib.hid h
  go_wp2_with fail
  refine (within_any _ _ _ _).mono ?_
  rintro e w' ⟨rfl, rfl⟩
  clear h
  cases h2 : inB v 1 999
  · have HB : Hid (lcB P W X v = false) := Lib.hid (lcB_no2 h2)
    have HH : Hid (lcV P W X v = (0, 0)) := Lib.hid (by rw [lcV, HB.out]; rfl)
    have j0 := G1.out.cell (j := 0) rfl; have j1 := G1.out.cell (j := 1) rfl
    have i0 := G1.out.free 0; have i1 := G1.out.free 1
    go_wp2
    have E := (G1.out.set 0 (.int .i64 0)).set 1 (.int .i64 0)
    refine bodyPost_ret (results_FB Try.results41 _ _ (w.heap.size + 1) (.int .i64 0) (.int .i64 0) _ rfl rfl (E.cell rfl) (E.cell rfl)) rfl ?_
    refine ⟨by rw [HH.out, HB.out]; rfl, ?_⟩
    iterate 2 refine Fr.setCell ?_ (by dsimp only; omega) _
    exact hF1
  have HB : Hid (lcB P W X v = true) := Lib.hid (by rw [lcB, HE.out, h2]; rfl)
  have HH : Hid (lcV P W X v = (lowA (lcS P W X v) (nth (gathM P W) 0), lowB (lcS P W X v) (nth (gathM P W) 0))) := Lib.hid (by rw [lcV, HB.out]; rfl)
  obtain ⟨ht, hx, _, _⟩ := evenB_parts HE.out
  have Ht := Lib.hid ht; have Hx := Lib.hid hx
  obtain ⟨t1, t2, t3, _⟩ := treeB_iff.1 ht
  have Hp := Lib.hid t3
  rw [HP.out] at t1
  have N4' : Hid ((gathM P W).length = n) := Lib.hid (by rw [gathM, gathTo_len, t2, HP.out])
  obtain rfl : n = m := by rw [← HW.out, t2, HP.out]
  have HFit := Lib.hid (lc_fit HE.out v)
  have HOk : Hid (lowOk (lcS P W X v) (nth (gathM P W) 0) = true) := Lib.hid (lowOk_fit HFit.out.1 HFit.out.2)
  clear ht hx t2 t3
  have c0 := (H0.out.fr f1).cell (j := 0) rfl; have c1 := (H0.out.fr f1).cell (j := 1) rfl
  go_wp2_with fail
  clear c0 c1 h2
  refine (HighestOf_yes _ _ _ _ _ _ _ _ _ _ _ _ _ (hP.fr hF1) (hW.fr hF1) (hX.fr hF1) Ht.out Hx.out).mono ?_
  rintro e w2 ⟨a2, n2, c2, rfl, o2, f2, _⟩
  have Hn2 : Hid (n2 = (endsM P).length) := Lib.hid (by rw [← o2.len, pkM, enM, enTo_len])
  have S2 := o2.sl
  have hF2 := hF1.trans f2
  have hFo2 := f1.trans f2
  have c0 := (H0.out.fr hFo2).cell (j := 0) rfl; have c1 := (H0.out.fr hFo2).cell (j := 1) rfl
  clear o2 f2
  go_wp2_with fail
  clear c0 c1
  refine (ends_any _ _ _ _ _ _ _ _ (hP.fr hF2) Hp.out (by omega)).mono ?_
  rintro e w3 ⟨a3, n3, c3, rfl, o3, f3, m3⟩
  have Hn3 := Lib.hid o3.len
  obtain rfl : n3 = n2 := by rw [Hn2.out, o3.len]
  have S3 := o3.sl
  have S2' := S2.fr f3
  have hF3 := hF2.trans f3
  have hFo3 := hFo2.trans f3
  clear o3 f3 S2 hF2 hFo2
  have hPF := hP.fr hF3; have hWF := hW.fr hF3
  go_wp2
  go_loop [8, 32] (fun s i => ∃ k : Nat, k ≤ n3 ∧ i = .int .i64 k ∧ s = .int .i64 (seTo (fun x => chF P X v x * nth W x) (endsM P) k)) (fun _ i => n3 - (intOf i).toNat)
  case atStart => exact ⟨0, by omega, rfl, rfl⟩
  case round =>
    obtain ⟨k, hk, rfl, rfl⟩ := hrel
    by_cases hlt : k < n3
    · obtain ⟨z, hz, hzl, _⟩ := ends_nth (P := P) (i := k) (by rw [Hn3.out]; exact hlt)
      rw [HP.out] at hzl
      obtain ⟨b3, of3, rfl, q3⟩ := S3.cells.resolve_left (by omega)
      replace q3 := q3 k hlt
      obtain ⟨b2, of2, rfl, q2⟩ := S2'.cells.resolve_left (by omega)
      replace q2 := q2 k hlt
      rw [pkM, enM, enTo_nth (by rw [Hn3.out]; exact hlt), hz, Int.toNat_natCast] at q2
      have HS : Hid (seTo (fun x => chF P X v x * nth W x) (endsM P) (k + 1) = seTo (fun x => chF P X v x * nth W x) (endsM P) k + chF P X v z * nth W z) := Lib.hid (by rw [seTo, hz]; rfl)
      rw [hz] at q3
      clear hz
      have b6 := ch_se (X := X) Ht.out v (k := k) (by rw [Hn3.out]; exact hk)
      have b7 := tree_wei Ht.out z
      have HC : Hid (chF P X v z = if v ≤ topM P X z then 1 else 0) := Lib.hid rfl
      rw [HC.out] at HS
      generalize seTo (fun x => chF P X v x * nth W x) (endsM P) k = acc at HS b6 ⊢
      generalize topM P X z = tz at q2 HS
      have vk0 : (0 : Int) ≤ (k : Int) := by omega
      have vk : (k : Int) < (n3 : Int) := by omega
      have vz0 : (0 : Int) ≤ (z : Int) := by omega
      have vz : (z : Int) < (n : Int) := by omega
      have c1 := (H0.out.fr hFo3).cell (j := 1) rfl
      obtain ⟨bw, ow, rfl, qw⟩ := hWF.cells.resolve_left (by omega)
      replace qw := qw z hzl
      clear HC
      by_cases hc : v ≤ tz
      · rw [if_pos hc, Int.one_mul] at HS
        go_wp2
        go_round
        case rel => exact ⟨k + 1, by omega, by go_num, by rw [HS.out]⟩
        case measure => simp [intOf]; omega
      · rw [if_neg hc, Int.zero_mul, Int.add_zero] at HS
        go_wp2
        go_round
        case rel => exact ⟨k + 1, by omega, by go_num, by rw [HS.out]⟩
        case measure => simp [intOf]; omega
    · obtain rfl : k = n3 := by omega
      have HTR : Hid (seTo (fun x => chF P X v x * nth W x) (endsM P) k = lcS P W X v) := Lib.hid (by rw [lcS, tot_root Hp.out (by rw [HP.out]; omega), Hn3.out])
      rw [HTR.out]
      have c0 := (H0.out.fr hFo3).cell (j := 0) rfl; have c1 := (H0.out.fr hFo3).cell (j := 1) rfl
      go_wp2_with fail
      clear c0 c1
      refine (sums_any _ _ _ _ _ _ _ _ _ hPF hWF Ht.out).mono ?_
      rintro e w6 ⟨a4, n4, k4, rfl, o4, f6, _⟩
      obtain rfl : n = n4 := by rw [← o4.len, N4'.out]
      obtain ⟨g4, rfl, _, _, q4, _⟩ := o4.op (by omega)
      replace q4 := q4 0 (by omega)
      have b8 := HFit.out
      have hF6 := hF3.trans f6
      have hFo6 := hFo3.trans f6
      go_wp2_with fail
      refine (lowest_any _ _ _ (by omega) (by omega)).mono ?_
      rintro e w7 ⟨rfl, f7⟩
      rw [HOk.out]
      have J1 := Lib.hid (H1.out.fr (hFo6.trans f7))
      have p0 := J1.out.cell (j := 0) rfl; have p1 := J1.out.cell (j := 1) rfl
      have r0 := J1.out.free 0; have r1 := J1.out.free 1
      have hFw7 := hF6.trans f7
      have E := (J1.out.set 0 (.int .i64 (lowA (lcS P W X v) (nth (gathM P W) 0)))).set 1 (.int .i64 (lowB (lcS P W X v) (nth (gathM P W) 0)))
      simp only [List.setIfInBounds_toArray, List.set_cons_zero, List.set_cons_succ] at E
      go_wp2
      refine bodyPost_ret (results_FB Try.results41 _ _ (w.heap.size + 1) _ _ _ rfl rfl (E.cell rfl) (E.cell rfl)) rfl ?_
      refine ⟨by rw [HH.out, HB.out]; rfl, ?_⟩
      iterate 2 refine Fr.setCell ?_ (by dsimp only; omega) _
      exact hFw7
set_option maxRecDepth 100000 in
set_option maxHeartbeats 1000000 in
theorem spec_LargestChance_any (w : World) (p q a : Option Addr) (n c m d l b : Nat) (P W X : List Int) (v : Int) (hP : SL w p n c P) (hW : SL w q m d W) (hX : SL w a l b X) (hv : I64 v) :
    Calls Try.prog 40 #[.agg #[.slice p n c, .slice q m d], .slice a l b, .int .i64 v] w fun e w' => e = .returned (.tuple #[.agg #[.int .i64 (lcV P W X v).1, .int .i64 (lcV P W X v).2], .bool (lcB P W X v)]) ∧ Fr w w' := by
  have HP := Lib.hid hP.len
  have HW := Lib.hid hW.len
  have hfr : Fr w ((w.alloc (.cells #[.slice p n c, .slice q m d] 29)).alloc (.cells #[.int .i64 0, .int .i64 0] 46)) := ((Fr.refl w).alloc _).alloc _
  have hb0 := (Blk.new w #[.slice p n c, .slice q m d] 29).alloc (.cells #[.int .i64 0, .int .i64 0] 46)
  have hb1 := Blk.new (w.alloc (.cells #[.slice p n c, .slice q m d] 29)) #[.int .i64 0, .int .i64 0] 46
  rw [World.size_alloc] at hb1
  have H0 := Lib.hid hb0; have H1 := Lib.hid hb1
  clear hb0 hb1
  have c0 := H0.out.cell (j := 0) rfl; have c1 := H0.out.cell (j := 1) rfl
  go_enter Try.func40, Try.ntmps40
  go_wp2_with fail
  clear c0 c1
  refine (l10Fair_any _ _ _ _ _ _ _ _ _ _ _ _ _ (hP.fr hfr) (hW.fr hfr) (hX.fr hfr)).mono ?_
  rintro e w1 ⟨rfl, f1⟩
  have hF1 := hfr.trans f1
  have hs1 := hF1.size
  have G1 := Lib.hid (H1.out.fr f1)
  cases h : evenB P W X
  · have HB : Hid (lcB P W X v = false) := Lib.hid (lcB_no1 h)
    have HH : Hid (lcV P W X v = (0, 0)) := Lib.hid (by rw [lcV, HB.out]; rfl)
    have j0 := G1.out.cell (j := 0) rfl; have j1 := G1.out.cell (j := 1) rfl
    have i0 := G1.out.free 0; have i1 := G1.out.free 1
    go_wp2
    have E := (G1.out.set 0 (.int .i64 0)).set 1 (.int .i64 0)
    refine bodyPost_ret (results_FB Try.results40 _ _ (w.heap.size + 1) (.int .i64 0) (.int .i64 0) _ rfl rfl (E.cell rfl) (E.cell rfl)) rfl ?_
    refine ⟨by rw [HH.out, HB.out]; rfl, ?_⟩
    iterate 2 refine Fr.setCell ?_ (by dsimp only; omega) _
    exact hF1
  have HE := Lib.hid h
  go_wp2_with fail
  refine (l1In_any _ _ _ _).mono ?_
  rintro e w' ⟨rfl, rfl⟩
  clear h
  cases h2 : inB v 1 999
  · have HB : Hid (lcB P W X v = false) := Lib.hid (lcB_no2 h2)
    have HH : Hid (lcV P W X v = (0, 0)) := Lib.hid (by rw [lcV, HB.out]; rfl)
    have j0 := G1.out.cell (j := 0) rfl; have j1 := G1.out.cell (j := 1) rfl
    have i0 := G1.out.free 0; have i1 := G1.out.free 1
    go_wp2
    have E := (G1.out.set 0 (.int .i64 0)).set 1 (.int .i64 0)
    refine bodyPost_ret (results_FB Try.results40 _ _ (w.heap.size + 1) (.int .i64 0) (.int .i64 0) _ rfl rfl (E.cell rfl) (E.cell rfl)) rfl ?_
    refine ⟨by rw [HH.out, HB.out]; rfl, ?_⟩
    iterate 2 refine Fr.setCell ?_ (by dsimp only; omega) _
    exact hF1
  have HB : Hid (lcB P W X v = true) := Lib.hid (by rw [lcB, HE.out, h2]; rfl)
  have HH : Hid (lcV P W X v = meanP P W (enM P (chF P X v)) 0) := Lib.hid (lc_mean HB.out)
  obtain ⟨ht, hx, _, _⟩ := evenB_parts HE.out
  have Ht := Lib.hid ht; have Hx := Lib.hid hx
  have t1 := (treeB_iff.1 ht).1
  rw [HP.out] at t1
  clear ht hx
  have c0 := (H0.out.fr f1).cell (j := 0) rfl; have c1 := (H0.out.fr f1).cell (j := 1) rfl
  go_wp2_with fail
  clear c0 c1 h2
  refine (l10Peaks_any _ _ _ _ _ _ _ _ _ _ _ _ _ (hP.fr hF1) (hW.fr hF1) (hX.fr hF1) HE.out).mono ?_
  rintro e w2 ⟨a2, n2, c2, rfl, o2, f2, _⟩
  have Hn2 : Hid (n2 = (endsM P).length) := Lib.hid (by rw [← o2.len, pkM, enM, enTo_len])
  rw [← mixE_zero P X v] at o2
  have hF2 := hF1.trans f2
  have hFo2 := f1.trans f2
  have o2' := o2.mono (Nat.le_refl w1.heap.size)
  have zz2 := f2.size
  clear o2
  go_wp2
  go_loopw [9] (fun i wr => ∃ k : Nat, k ≤ n2 ∧ i = .int .i64 k ∧ Own w1.heap.size wr a2 n2 c2 (mixE P X v k) ∧ Fr w1 wr) (fun i _ => n2 - (intOf i).toNat)
  case atStart => exact ⟨0, by omega, rfl, o2', f2⟩
  case round =>
    clear o2'
    obtain ⟨k, hk, rfl, ho, hF⟩ := hrel
    obtain ⟨wo, rfl⟩ : ∃ wo : World, wo = wr := ⟨_, rfl⟩
    by_cases hlt : k < n2
    · have hk2 : k < (endsM P).length := by rw [← Hn2.out]; exact hlt
      obtain ⟨g2, rfl, hg2, _, q2, z2⟩ := ho.op (by omega)
      replace q2 := q2 k hlt
      replace z2 := z2 k
      rw [mixE_nth hk2, if_neg (by omega)] at q2
      have HS : Hid ((mixE P X v k).set k (chF P X v (nth (endsM P) k).toNat) = mixE P X v (k + 1)) := Lib.hid (mixE_set hk2)
      have HC : Hid (chF P X v (nth (endsM P) k).toNat = if v ≤ topM P X (nth (endsM P) k).toNat then 1 else 0) := Lib.hid rfl
      rw [HC.out] at HS
      generalize topM P X (nth (endsM P) k).toNat = tz at q2 HS
      have vk0 : (0 : Int) ≤ (k : Int) := by omega
      have vk : (k : Int) < (n2 : Int) := by omega
      clear HC hk2
      by_cases hc : v ≤ tz
      · rw [if_pos hc] at HS
        have o3 := ho.set rfl hlt (show I64 1 by unfold I64; omega)
        rw [HS.out] at o3
        have f3 := hF.setCell (p := ⟨g2, k, none⟩) hg2 (.int .i64 1)
        clear ho hF
        go_wp2
        go_roundw
        case rel => exact ⟨k + 1, by omega, by go_num, o3, f3⟩
        case measure => simp [intOf]; omega
      · rw [if_neg hc] at HS
        have o3 := ho.set rfl hlt (show I64 0 by unfold I64; omega)
        rw [HS.out] at o3
        have f3 := hF.setCell (p := ⟨g2, k, none⟩) hg2 (.int .i64 0)
        clear ho hF
        go_wp2
        go_roundw
        case rel => exact ⟨k + 1, by omega, by go_num, o3, f3⟩
        case measure => simp [intOf]; omega
    · obtain rfl : k = n2 := by omega
      rw [Hn2.out, mixE_all, ← Hn2.out] at ho
      have hFw := hF1.trans hF
      have hFo := f1.trans hF
      have c0 := (H0.out.fr hFo).cell (j := 0) rfl; have c1 := (H0.out.fr hFo).cell (j := 1) rfl
      go_wp2_with fail
      clear c0 c1
      refine (l2Means_any _ _ _ _ _ _ _ _ _ _ _ _ _ (hP.fr hFw) (hW.fr hFw) ho.sl Ht.out Hn2.out (ch_999 P X v)).mono ?_
      rintro e w3 ⟨a3, n3, c3, rfl, o3, f3, _⟩
      obtain rfl : n = n3 := by rw [← o3.len, meansM_len, HP.out]
      obtain ⟨g3, rfl, hg1, hg2, hcap, hc3⟩ := o3.op (by omega)
      obtain ⟨hy0, hy1⟩ := hc3 0 (by omega)
      rw [meansM_nth (by rw [HP.out]; omega)] at hy0 hy1
      have J1 := Lib.hid (H1.out.fr (hFo.trans f3))
      have p0 := J1.out.cell (j := 0) rfl; have p1 := J1.out.cell (j := 1) rfl
      have r0 := J1.out.free 0; have r1 := J1.out.free 1
      have E := (J1.out.set 0 (.int .i64 (meanP P W (enM P (chF P X v)) 0).1)).set 1 (.int .i64 (meanP P W (enM P (chF P X v)) 0).2)
      simp only [List.setIfInBounds_toArray, List.set_cons_zero, List.set_cons_succ] at E
      have hFw3 := hFw.trans f3
      go_wp2
      refine bodyPost_ret (results_FB Try.results40 _ _ (w.heap.size + 1) _ _ _ rfl rfl (E.cell rfl) (E.cell rfl)) rfl ?_
      refine ⟨by rw [HH.out, HB.out]; rfl, ?_⟩
      iterate 2 refine Fr.setCell ?_ (by dsimp only; omega) _
      exact hFw3
end Go.Proofs.Ytojipjjfndgbhaa
/- Laws of trees: what is largest on the way, and what a house is worth. Plain part. -/
set_option linter.unusedVariables false
namespace Go.Proofs.Ytojipjjfndgbhaa
open Go.ChangeShapes Go.WideShapes Go.ChangeAt Go.RowKit
theorem kid_of {P : List Int} (hp : parB P = true) {y z : Nat} (hy : y < P.length) (e : nth P y = (z : Int)) : 1 ≤ y ∧ par P y = z ∧ z < y := by
  have h0 := (parB_iff.1 hp).1
  have h1 : 1 ≤ y := by
    rcases Nat.eq_zero_or_pos y with h | h
    · subst h; rw [h0] at e; omega
    · exact h
  have h2 := par_of hp hy h1
  refine ⟨h1, ?_, ?_⟩ <;> omega
theorem kidUp_le {P : List Int} {F G : Nat → Int} {z : Nat} : ∀ k, (∀ y, y < k → nth P y = (z : Int) → F y ≤ G y) → kidUp P F z k ≤ kidUp P G z k
  | 0, _ => by simp [kidUp]
  | k + 1, h => by
    have := kidUp_le k (fun y hy => h y (by omega))
    rw [kidUp, kidUp]
    by_cases e : nth P k = (z : Int)
    · rw [if_pos e, if_pos e]; have := h k (by omega) e; omega
    · rw [if_neg e, if_neg e]; omega
theorem kidUp_mulc {P : List Int} {F : Nat → Int} {z : Nat} (c : Int) : ∀ k, kidUp P (fun y => c * F y) z k = c * kidUp P F z k
  | 0 => by simp [kidUp]
  | k + 1 => by
    rw [kidUp, kidUp, kidUp_mulc c k, Int.mul_add]
    split <;> simp
theorem kidUp_same {P : List Int} {F G : Nat → Int} {z : Nat} (k : Nat) (h : ∀ y, y < k → nth P y = (z : Int) → F y = G y) : kidUp P F z k = kidUp P G z k :=
  Int.le_antisymm (kidUp_le k fun y hy e => Int.le_of_eq (h y hy e)) (kidUp_le k fun y hy e => Int.le_of_eq (h y hy e).symm)
theorem tree_back {n : Nat} {C : Nat → Prop} (h : ∀ x, x < n → (∀ y, x < y → y < n → C y) → C x) : ∀ x, x < n → C x := by
  have key : ∀ d x, x < n → n - x ≤ d → C x := by
    intro d
    induction d with
    | zero => intro x hx hd; omega
    | succ d ih => intro x hx hd; exact h x hx fun y hy hyn => ih y hyn (by omega)
  intro x hx
  exact key n x hx (by omega)
theorem mul_nn {a b : Int} (ha : 0 ≤ a) (hb : 0 ≤ b) : 0 ≤ a * b := Int.mul_nonneg ha hb
theorem gath_end {P W : List Int} (ht : treeB P W = true) {z : Nat} (hz : z < P.length) (he : endB P z = true) : nth (gathM P W) z = nth W z := by
  obtain ⟨h1, h2, h3, h4⟩ := treeB_iff.1 ht
  rw [gath_up h3 h2 z hz, kidUp_end _ he]; omega
/-- No more weight than there is. -/
theorem tot_le {P W : List Int} {F : Nat → Int} (ht : treeB P W = true) (hF : ∀ x, 0 ≤ F x ∧ F x ≤ 1) : ∀ z, z < P.length → nth (totalsM P W (enM P F)) z ≤ nth (gathM P W) z := by
  obtain ⟨h1, h2, h3, h4⟩ := treeB_iff.1 ht
  refine tree_back fun z hz ih => ?_
  rw [tot_up h3 hz, gath_up h3 h2 z hz]
  have hk := kidUp_le (P := P) (F := nth (totalsM P W (enM P F))) (G := nth (gathM P W)) (z := z) P.length (fun y hy e => ih y (kid_of h3 hy e).2.2 hy)
  have hw := tree_wei ht z
  have he : enA P W F z ≤ nth W z := by
    unfold enA
    split
    · have h5 := hF z
      rcases (show F z = 0 ∨ F z = 1 by omega) with e | e
      · rw [e]; omega
      · rw [e]; omega
    · omega
  omega
/-- The level on the way. -/
theorem doob_low {P W X : List Int} {v : Int} (h : evenB P W X = true) (hv : 1 ≤ v) : ∀ z, z < P.length → (z = 0 ∨ topM P X (par P z) < v) → v * nth (totalsM P W (enM P (chF P X v))) z ≤ prodF P W X z := by
  obtain ⟨ht, hx, hf, hX⟩ := evenB_parts h
  obtain ⟨h1, h2, h3, h4⟩ := treeB_iff.1 ht
  refine tree_back (C := fun z => (z = 0 ∨ topM P X (par P z) < v) → v * nth (totalsM P W (enM P (chF P X v))) z ≤ prodF P W X z) fun z hz ih hq => ?_
  have hs := sums_pos ht z hz
  have hXz := hX z
  by_cases htop : v ≤ topM P X z
  · have hXv : v ≤ nth X z := by
      rcases Nat.eq_zero_or_pos z with e | e
      · subst e; rw [topM_zero] at htop; exact htop
      · rw [topM_succ h3 hz e] at htop
        rcases hq with e2 | e2
        · omega
        · omega
    have hT := tot_le (F := chF P X v) ht (chF_bd P X v) z hz
    have a1 : v * nth (totalsM P W (enM P (chF P X v))) z ≤ v * nth (gathM P W) z := Int.mul_le_mul_of_nonneg_left hT (by omega)
    have a2 : v * nth (gathM P W) z ≤ nth X z * nth (gathM P W) z := Int.mul_le_mul_of_nonneg_right hXv (by omega)
    unfold prodF
    rw [Int.mul_comm (nth (gathM P W) z)]
    omega
  · rw [tot_up h3 hz]
    have hk : v * kidUp P (nth (totalsM P W (enM P (chF P X v)))) z P.length ≤ kidUp P (prodF P W X) z P.length := by
      rw [← kidUp_mulc]
      refine kidUp_le _ fun y hy e => ?_
      obtain ⟨k1, k2, k3⟩ := kid_of h3 hy e
      exact ih y k3 hy (.inr (by rw [k2]; omega))
    by_cases he : endB P z = true
    · have e0 : enA P W (chF P X v) z = 0 := by
        unfold enA chF; rw [if_pos he, if_neg htop]; simp
      rw [e0, kidUp_end _ he]
      have := mul_nn (a := nth (gathM P W) z) (b := nth X z) (by omega) (by omega)
      unfold prodF; omega
    · have e0 : enA P W (chF P X v) z = 0 := by unfold enA; rw [if_neg he]
      rw [e0, Int.zero_add, (flat_iff ht).1 hf z hz (by simpa using he)]
      exact hk
theorem doob_high {P W X : List Int} (h : evenB P W X = true) : ∀ z, z < P.length → prodF P W X z ≤ nth (totalsM P W (pkM P X)) z := by
  obtain ⟨ht, hx, hf, hX⟩ := evenB_parts h
  obtain ⟨h1, h2, h3, h4⟩ := treeB_iff.1 ht
  refine tree_back fun z hz ih => ?_
  have hk := kidUp_le (P := P) (F := prodF P W X) (G := nth (totalsM P W (pkM P X))) (z := z) P.length (fun y hy e => ih y (kid_of h3 hy e).2.2 hy)
  unfold pkM at hk ⊢
  rw [tot_up h3 hz]
  by_cases he : endB P z = true
  · have hw := tree_wei ht z
    have hge : nth X z ≤ topM P X z := by
      rcases Nat.eq_zero_or_pos z with e | e
      · subst e; rw [topM_zero]; omega
      · rw [topM_succ h3 hz e]; omega
    have e0 : enA P W (topM P X) z = topM P X z * nth W z := by unfold enA; rw [if_pos he]
    rw [e0, kidUp_end _ he]
    have a2 : nth X z * nth W z ≤ topM P X z * nth W z := Int.mul_le_mul_of_nonneg_right hge (by omega)
    unfold prodF
    rw [gath_end ht hz he, Int.mul_comm (nth W z)]; omega
  · have e0 : enA P W (topM P X) z = 0 := by unfold enA; rw [if_neg he]
    rw [e0, Int.zero_add, (flat_iff ht).1 hf z hz (by simpa using he)]
    exact hk
/-- The chance times the level is at most the number of the root. -/
theorem chance_le {P W X : List Int} {v : Int} (h : lcB P W X v = true) : ¬ nth X 0 * (lcV P W X v).2 < (lcV P W X v).1 * v := by
  obtain ⟨he, hv⟩ := lcB_parts h
  obtain ⟨ht, _⟩ := evenB_parts he
  have hn := (treeB_iff.1 ht).1.1
  have h1 := doob_low he hv.1 0 (by omega) (.inl rfl)
  obtain ⟨f1, f2⟩ := lc_fit he v
  obtain ⟨c1, c2⟩ := low_cross f1 f2
  rw [lcV, h]
  simp only [cond_true]
  change v * lcS P W X v ≤ nth (gathM P W) 0 * nth X 0 at h1
  generalize lcS P W X v = T at *
  generalize nth (gathM P W) 0 = s at *
  generalize lowA T s = A at *
  generalize lowB T s = B at *
  generalize nth X 0 = x at *
  intro hlt
  have k1 : x * B * s < A * v * s := Int.mul_lt_mul_of_pos_right hlt f2.1
  have k2 : v * T * B ≤ s * x * B := Int.mul_le_mul_of_nonneg_right h1 (by omega)
  have k3 : A * v * s = v * T * B := by rw [Int.mul_right_comm, c1, Int.mul_right_comm, Int.mul_comm T v]
  have k4 : x * B * s = s * x * B := by rw [Int.mul_comm s x, Int.mul_right_comm]
  omega
theorem largest_ge {P W X : List Int} (h : evenB P W X = true) : nth X 0 * (lmV P W X).2 ≤ (lmV P W X).1 := by
  obtain ⟨ht, _⟩ := evenB_parts h
  have hn := (treeB_iff.1 ht).1.1
  have h1 := doob_high h 0 (by omega)
  obtain ⟨f1, f2⟩ := lm_fit h
  obtain ⟨c1, c2⟩ := low_cross f1 f2
  rw [lmV, h]
  simp only [cond_true]
  change nth (gathM P W) 0 * nth X 0 ≤ lmS P W X at h1
  generalize lmS P W X = T at *
  generalize nth (gathM P W) 0 = s at *
  generalize lowA T s = A at *
  generalize lowB T s = B at *
  generalize nth X 0 = x at *
  refine Int.le_of_mul_le_mul_right (a := s) ?_ f2.1
  have k2 : s * x * B ≤ T * B := Int.mul_le_mul_of_nonneg_right h1 (by omega)
  have k4 : x * B * s = s * x * B := by rw [Int.mul_comm s x, Int.mul_right_comm]
  omega
/-- The value of a house is at least the price and the mean below. -/
theorem cap_pay {P W X : List Int} (ht : treeB P W = true) (z : Nat) (hz : z < P.length) : payS P W X z ≤ nth (capM P W X) z := by
  obtain ⟨h1, h2, h3, h4⟩ := treeB_iff.1 ht
  rw [cap_rec h3 h1.2 z hz]
  split <;> omega
theorem cap_tot {P W X : List Int} (ht : treeB P W = true) : ∀ z, z < P.length → nth (totalsM P W (pvM P X)) z ≤ nth (capM P W X) z := by
  obtain ⟨h1, h2, h3, h4⟩ := treeB_iff.1 ht
  rw [pv_en]
  refine tree_back fun z hz ih => ?_
  have hk := kidUp_le (P := P) (F := nth (totalsM P W (enM P (nth X)))) (G := nth (capM P W X)) (z := z) P.length (fun y hy e => ih y (kid_of h3 hy e).2.2 hy)
  rw [tot_up h3 hz, cap_rec h3 h1.2 z hz, ← kidUp_sum h3 h1.1]
  by_cases he : endB P z = true
  · have e0 : enA P W (nth X) z = nth X z * nth W z := by unfold enA; rw [if_pos he]
    rw [e0, kidUp_end _ he, if_pos he, payS, gath_end ht hz he, Int.mul_comm]; omega
  · have e0 : enA P W (nth X) z = 0 := by unfold enA; rw [if_neg he]
    rw [e0, if_neg he]; omega
theorem flat_tot {P W X : List Int} (ht : treeB P W = true) (hf : flatB P W X = true) : ∀ z, z < P.length → nth (totalsM P W (pvM P X)) z = payS P W X z := by
  obtain ⟨h1, h2, h3, h4⟩ := treeB_iff.1 ht
  rw [pv_en]
  refine tree_back fun z hz ih => ?_
  have hk := kidUp_same (P := P) (F := nth (totalsM P W (enM P (nth X)))) (G := prodF P W X) (z := z) P.length (fun y hy e => ih y (kid_of h3 hy e).2.2 hy)
  rw [tot_up h3 hz]
  by_cases he : endB P z = true
  · have e0 : enA P W (nth X) z = nth X z * nth W z := by unfold enA; rw [if_pos he]
    rw [e0, kidUp_end _ he, payS, gath_end ht hz he, Int.mul_comm]; omega
  · have e0 : enA P W (nth X) z = 0 := by unfold enA; rw [if_neg he]
    rw [e0, Int.zero_add, hk]
    exact ((flat_iff ht).1 hf z hz (by simpa using he)).symm
theorem fall_cap {P W X : List Int} (ht : treeB P W = true) (hf : fallB P W X = true) : ∀ z, z < P.length → nth (capM P W X) z = payS P W X z := by
  obtain ⟨h1, h2, h3, h4⟩ := treeB_iff.1 ht
  refine tree_back fun z hz ih => ?_
  have hk := kidUp_same (P := P) (F := nth (capM P W X)) (G := prodF P W X) (z := z) P.length (fun y hy e => ih y (kid_of h3 hy e).2.2 hy)
  rw [cap_rec h3 h1.2 z hz, ← kidUp_sum h3 h1.1, hk]
  by_cases he : endB P z = true
  · rw [if_pos he]
  · rw [if_neg he]
    have := fallB_iff.1 hf z hz
    rw [drA_eq ht hz, if_neg he] at this
    have e : prodF P W X z = payS P W X z := rfl
    omega
end Go.Proofs.Ytojipjjfndgbhaa
