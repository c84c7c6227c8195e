import Derived.Test.YtojipjjfndgbhaaPeak2
import Derived.Test.YtojipjjfndgbhaaPrice
/- Contracts of bound and SeerMean. -/
set_option linter.unusedVariables false
namespace Go.Proofs.Ytojipjjfndgbhaa
open Go.ChangeShapes Go.WideShapes Go.ChangeAt Go.RowKit
theorem prod_bd {x y : Int} (hx : -999 ≤ x ∧ x ≤ 999) (hy : 0 ≤ y ∧ y ≤ 20) : -19980 ≤ x * y ∧ x * y ≤ 19980 := by
  have := natAbs_mul_le (x := x) (y := y) (M := 999) (N := 20) (by omega) (by omega)
  omega
theorem top_se {P W X : List Int} (ht : treeB P W = true) (hX : ∀ i, -999 ≤ nth X i ∧ nth X i ≤ 999) {k : Nat} (hk : k ≤ (endsM P).length) : -479520 ≤ seTo (fun x => topM P X x * nth W x) (endsM P) k ∧ seTo (fun x => topM P X x * nth W x) (endsM P) k ≤ 479520 := by
  have h1 := se_bd (G := fun x => topM P X x * nth W x) (L := endsM P) (lo := -19980) (hi := 19980) (fun i hi => by
    obtain ⟨y, hy, hl, _⟩ := ends_nth hi
    rw [hy, Int.toNat_natCast]
    exact prod_bd (top_bd ht hX hl) (tree_wei ht y)) k hk
  have h2 : (endsM P).length ≤ P.length := endsTo_len P P.length
  have h3 := (treeB_iff.1 ht).1
  omega
set_option maxRecDepth 100000 in
set_option maxHeartbeats 1000000 in
theorem bound_any (w : World) (p q a a9 : Option Addr) (n c m d l b l9 b9 : Nat) (P W X L : List Int) (hP : SL w p n c P) (hW : SL w q m d W) (hX : SL w a l b X) (hL : SL w a9 l9 b9 L) (ht : treeB P W = true) (hx : procB P X = true) (hl9 : l9 = n) (hL0 : ∀ i, nth L i = 0) :
    Calls Try.prog 100 #[.agg #[.slice p n c, .slice q m d], .slice a l b, .slice a9 l9 b9] w fun e w' => e = .returned (.tuple #[.agg #[.int .i64 (lowA (lmS P W X) (nth (gathM P W) 0)), .int .i64 (lowB (lmS P W X) (nth (gathM P W) 0))], .bool true]) ∧ Fr w w' := by
  have HP := Lib.hid hP.len
  have HX := Lib.hid hX.len
  have HW := Lib.hid hW.len
  have Ht := Lib.hid ht
  have hln : l = n := by rw [← HX.out, ← HP.out]; exact (procB_iff.1 hx).1
  subst hln
  subst hl9
  have Hv := Lib.hid (nth_bd (procB_iff.1 hx).2 (by omega) (by omega))
  obtain ⟨t1, t2, t3, _⟩ := treeB_iff.1 ht
  have Hp := Lib.hid t3
  rw [HP.out] at t1
  obtain rfl : l9 = m := by rw [← HW.out, t2, HP.out]
  have N4' : Hid ((gathM P W).length = l9) := Lib.hid (by rw [gathM, gathTo_len, t2, HP.out])
  have HL0 := Lib.hid hL0
  have fit : (-1000000000 ≤ lmS P W X ∧ lmS P W X ≤ 1000000000) ∧ (0 < nth (gathM P W) 0 ∧ nth (gathM P W) 0 ≤ 1000000) := by
    have h1 := totals_bd (P := P) (W := W) (V := pkM P X) t3 (tree_wei ht) (pk_bd ht Hv.out) (by rw [HP.out]; exact t1.2) (by rw [HP.out]; exact t1.1) 0
    have h2 := sums_pos ht 0 (by rw [HP.out]; omega)
    have h3 := sums_le ht 0
    unfold lmS; omega
  have HFit := Lib.hid fit
  have HOk : Hid (lowOk (lmS P W X) (nth (gathM P W) 0) = true) := Lib.hid (lowOk_fit fit.1 fit.2)
  clear t2 t3 ht hx hL0 fit
  have hfr : Fr w ((w.alloc (.cells #[.slice p l9 c, .slice q l9 d] 29)).alloc (.cells #[.int .i64 0, .int .i64 0] 46)) := ((Fr.refl w).alloc _).alloc _
  have hb0 := (Blk.new w #[.slice p l9 c, .slice q l9 d] 29).alloc (.cells #[.int .i64 0, .int .i64 0] 46)
  have hb1 := Blk.new (w.alloc (.cells #[.slice p l9 c, .slice q l9 d] 29)) #[.int .i64 0, .int .i64 0] 46
  rw [World.size_alloc] at hb1
  have H0 := Lib.hid hb0; have H1 := Lib.hid hb1
  clear hb0 hb1
  go_enter Try.func100, Try.ntmps100
  go_upto_region 1 with fail
  generalize hw2 : (w.alloc (.cells #[.slice p l9 c, .slice q l9 d] 29)).alloc (.cells #[.int .i64 0, .int .i64 0] 46) = w2 at hfr H0 H1 ⊢
  clear hw2
  obtain ⟨bl, ol, rfl, ql⟩ := (hL.fr hfr).cells.resolve_left (by omega)
  have qL := ql 0 (by omega)
  rw [HL0.out 0, Nat.add_zero] at qL
  have c0 := H0.out.cell (j := 0) rfl; have c1 := H0.out.cell (j := 1) rfl
  have hP2 := hP.fr hfr
  have hW2 := hW.fr hfr
  clear ql
  have vn : (0 : Int) < (l9 : Int) := by omega
  go_cut [8] from 14 to 21 (fun s8 wx => s8 = .int .i64 0 ∧ Fr w2 wx)
  case first =>
    have d0 := (H0.out.fr (Fr.drewN w2 1)).cell (j := 0) rfl; have d1 := (H0.out.fr (Fr.drewN w2 1)).cell (j := 1) rfl
    have dL := (Fr.drewN w2 1).keep qL
    go_region_with
      ((go_at_call 91; refine (sums_any _ _ _ _ _ _ _ _ _ (hP2.fr (by first | exact (Fr.refl w2).drew' 1 | exact Fr.drewN w2 1)) (hW2.fr (by first | exact (Fr.refl w2).drew' 1 | exact Fr.drewN w2 1)) Ht.out).mono ?_; rintro e w4 ⟨a4, n4, k4, rfl, o4, f4', _⟩; have f4 : Fr w2 w4 := (by first | exact ((Fr.refl w2).drew' 1).trans f4' | exact (Fr.drewN w2 1).trans f4'); have k0 := f4.keep c0; have k1 := f4.keep c1; have kL := f4.keep qL; have hn4 : l9 = n4 := (by rw [← o4.len, N4'.out]); subst hn4; obtain ⟨g4, rfl, _, _, q4, _⟩ := o4.op (by omega); replace q4 := q4 0 (by omega)))
    all_goals
      go_wp2_with fail
      go_meet
      exact ⟨by first | rfl | simp | decide, f4⟩
  case rest =>
    obtain ⟨rfl, hF1⟩ := hcut
    obtain ⟨w3, rfl⟩ : ∃ wz : World, wz = wc := ⟨_, rfl⟩
    clear c0 c1 hP2 hW2 qL
    have hFw := hfr.trans hF1
    have c0 := (H0.out.fr hF1).cell (j := 0) rfl; have c1 := (H0.out.fr hF1).cell (j := 1) rfl
    go_wp2_with fail
    clear c0 c1
    refine (ends_any _ _ _ _ _ _ _ _ (hP.fr hFw) Hp.out (by omega)).mono ?_
    rintro e w4 ⟨a2, n2, c2, rfl, o2, f4, m2⟩
    have Hn2 := Lib.hid o2.len
    have S2 := o2.sl
    have hF4 := hF1.trans f4
    have n24 : n2 ≤ 24 := by have := Hn2.out; have := endsTo_len P P.length; rw [endsM] at *; have := HP.out; omega
    clear o2 f4 hF1 hFw
    go_wp2
    go_loopw [8, 25] (fun s i wr => ∃ k : Nat, k ≤ n2 ∧ i = .int .i64 k ∧ s = .int .i64 (seTo (fun x => topM P X x * nth W x) (endsM P) k) ∧ Fr w4 wr) (fun _ i _ => n2 - (intOf i).toNat)
    case atStart => exact ⟨0, by omega, rfl, rfl, Fr.refl _⟩
    case round =>
      obtain ⟨k, hk, rfl, rfl, hF⟩ := hrel
      obtain ⟨wo, rfl⟩ : ∃ wo : World, wo = wr := ⟨_, rfl⟩
      have hFo := hF4.trans hF
      have hFw := hfr.trans hFo
      by_cases hlt : k < n2
      · obtain ⟨z, hz, hzl, _⟩ := ends_nth (P := P) (i := k) (by rw [Hn2.out]; exact hlt)
        have HZL := Lib.hid hzl
        rw [HP.out] at hzl
        obtain ⟨b2, of2, rfl, hce⟩ := (S2.fr hF).cells.resolve_left (by omega)
        replace hce := hce k hlt
        have HS : Hid (seTo (fun x => topM P X x * nth W x) (endsM P) (k + 1) = seTo (fun x => topM P X x * nth W x) (endsM P) k + topM P X z * nth W z) := Lib.hid (by rw [seTo, hz]; rfl)
        rw [hz] at hce
        clear hz
        have b6 := top_se Ht.out Hv.out (k := k) (by rw [Hn2.out]; exact hk)
        have b7 := top_se Ht.out Hv.out (k := k + 1) (by rw [Hn2.out]; exact hlt)
        rw [HS.out] at b7
        generalize seTo (fun x => topM P X x * nth W x) (endsM P) k = acc at HS b6 b7 ⊢
        have vk0 : (0 : Int) ≤ (k : Int) := by omega
        have vk : (k : Int) < (n2 : Int) := by omega
        have vz0 : (0 : Int) ≤ (z : Int) := by omega
        have vz : (z : Int) < (l9 : Int) := by omega
        obtain ⟨bx, ox, rfl, qx⟩ := (hX.fr hFw).cells.resolve_left (by omega)
        have q0 := qx 0 (by omega)
        rw [Nat.add_zero] at q0
        obtain ⟨bl', ol', ebl, ql⟩ := (hL.fr hFw).cells.resolve_left (by omega)
        injection ebl with ebl; injection ebl with ebl1 ebl2; subst ebl1; subst ebl2
        have q9 := ql 0 (by omega)
        rw [HL0.out 0, Nat.add_zero] at q9
        have b0 := Hv.out 0
        have e1 : IntKind.i64.wrap (nth X 0 - 0) = nth X 0 := by rw [Int.sub_zero]; exact IntWalk.i64_in _ (by omega)
        have e2 : IntKind.i64.wrap (nth X 0) = nth X 0 := IntWalk.i64_in _ (by omega)
        clear qx ql
        go_upto_region 5 with fail
        go_quiet (fail)
        clear q0 q9 hce e1 e2
        have D1 : Fr wo (wo.drewN nq) := Fr.drewN wo _
        have hF6 := hF.trans D1
        have hFo6 := hFo.trans D1
        have hFw6 := hFw.trans D1
        generalize wo.drewN nq = w6 at D1 hF6 hFo6 hFw6 ⊢
        have c0 := (H0.out.fr hFo6).cell (j := 0) rfl; have c1 := (H0.out.fr hFo6).cell (j := 1) rfl
        go_wp2_with fail
        clear c0 c1
        refine (way_any _ _ _ _ _ _ _ z _ (hP.fr hFw6) Hp.out hzl (by omega)).mono ?_
        rintro e w7 ⟨a5, n5, k5, rfl, o5, f7, _⟩
        have S5 := o5.sl
        have HK := Lib.hid S5.len
        have hF7 := hF6.trans f7
        have hFo7 := hFo6.trans f7
        have hFw7 := hFw6.trans f7
        have HMX : Hid (mxTo X (wayM P z) (nth X 0) n5 = topM P X z) := Lib.hid (by
          rw [← HK.out, mx_way Hp.out (nth X 0) z z (Nat.le_refl _) HZL.out]
          have := topM_bd Hp.out Hv.out z z (Nat.le_refl _) HZL.out
          omega)
        clear o5 hF hFo hFw D1 hF6 hFo6 hFw6 f7
        go_wp2
        go_loopw [11, 40] (fun x i wr => ∃ t : Nat, t ≤ n5 ∧ i = .int .i64 t ∧ x = .int .i64 (mxTo X (wayM P z) (nth X 0) t) ∧ Qt w7 wr) (fun _ i _ => n5 - (intOf i).toNat)
        case atStart => exact ⟨0, Nat.zero_le _, rfl, rfl, Qt.refl _⟩
        case round =>
          obtain ⟨t, ht5, rfl, rfl, hQ⟩ := hrel
          by_cases htl : t < n5
          · obtain ⟨y, hy, hyn⟩ := wayM_nth Hp.out HZL.out (i := t) (by rw [HK.out]; exact htl)
            rw [HP.out] at hyn
            obtain ⟨b5, of5, rfl, q5⟩ := (S5.qt hQ).cells.resolve_left (by omega)
            replace q5 := q5 t htl
            rw [hy] at q5
            have HT : Hid (mxTo X (wayM P z) (nth X 0) (t + 1) = max (mxTo X (wayM P z) (nth X 0) t) (nth X y)) := Lib.hid (by rw [mxTo, hy]; rfl)
            clear hy
            obtain ⟨bx', ox', ebx, qx⟩ := ((hX.fr hFw7).qt hQ).cells.resolve_left (by omega)
            injection ebx with ebx; injection ebx with ebx1 ebx2; subst ebx1; subst ebx2
            replace qx := qx y hyn
            obtain ⟨bl', ol', ebl, ql⟩ := ((hL.fr hFw7).qt hQ).cells.resolve_left (by omega)
            injection ebl with ebl; injection ebl with ebl1 ebl2; subst ebl1; subst ebl2
            replace ql := ql y hyn
            rw [HL0.out y] at ql
            have vt0 : (0 : Int) ≤ (t : Int) := by omega
            have vt : (t : Int) < (n5 : Int) := by omega
            have vy0 : (0 : Int) ≤ (y : Int) := by omega
            have vy : (y : Int) < (l9 : Int) := by omega
            have b1 := Hv.out y
            have e1 : IntKind.i64.wrap (nth X y - 0) = nth X y := by rw [Int.sub_zero]; exact IntWalk.i64_in _ (by omega)
            have e2 : IntKind.i64.wrap (nth X y) = nth X y := IntWalk.i64_in _ (by omega)
            generalize mxTo X (wayM P z) (nth X 0) t = v at HT ⊢
            go_wp2
            go_quiet (fail)
            clear e1 e2
            go_wp2
            go_roundw
            case rel => exact ⟨t + 1, by omega, by go_num, by rw [HT.out]; congr 1; split <;> omega, hQ.drewN _⟩
            case measure => simp [intOf]; omega
          · obtain rfl : t = n5 := by omega
            rw [HMX.out]
            have b1 := top_bd Ht.out Hv.out HZL.out
            have b2 := tree_wei Ht.out z
            have b3 := prod_bd b1 b2
            have hF8 := hF7.trans hQ.fr
            have hFw8 := hFw7.trans hQ.fr
            have c1 := (H0.out.fr (hFo7.trans hQ.fr)).cell (j := 1) rfl
            obtain ⟨bw, ow, rfl, qw⟩ := (hW.fr hFw8).cells.resolve_left (by omega)
            replace qw := qw z (by omega)
            go_wp2
            go_roundw
            case rel => exact ⟨k + 1, by omega, by go_num, by rw [HS.out], hF8⟩
            case measure => simp [intOf]; omega
      · obtain rfl : k = n2 := by omega
        have HTR : Hid (seTo (fun x => topM P X x * nth W x) (endsM P) k = lmS P W X) := Lib.hid (by rw [lmS, pkM, tot_root Hp.out (by rw [HP.out]; omega), Hn2.out])
        rw [HTR.out]
        have c0 := (H0.out.fr hFo).cell (j := 0) rfl; have c1 := (H0.out.fr hFo).cell (j := 1) rfl
        go_wp2_with fail
        clear c0 c1
        refine (sums_any _ _ _ _ _ _ _ _ _ (hP.fr hFw) (hW.fr hFw) Ht.out).mono ?_
        rintro e w6 ⟨a4, n4, k4, rfl, o4, f6, _⟩
        have hn4 : n4 = l9 := by rw [← o4.len, N4'.out]
        subst hn4
        obtain ⟨g4, rfl, _, _, q4, _⟩ := o4.op (by omega)
        replace q4 := q4 0 (by omega)
        have b8 := HFit.out
        have hFo6 := hFo.trans f6
        have hFw6 := hFw.trans f6
        go_wp2_with fail
        refine (lowest_any _ _ _ (by omega) (by omega)).mono ?_
        rintro e w7 ⟨rfl, f7⟩
        rw [HOk.out]
        have J1 := Lib.hid (H1.out.fr (hFo6.trans f7))
        have p0 := J1.out.cell (j := 0) rfl; have p1 := J1.out.cell (j := 1) rfl
        have r0 := J1.out.free 0; have r1 := J1.out.free 1
        have hFw7 := hFw6.trans f7
        have E := (J1.out.set 0 (.int .i64 (lowA (lmS P W X) (nth (gathM P W) 0)))).set 1 (.int .i64 (lowB (lmS P W X) (nth (gathM P W) 0)))
        simp only [List.setIfInBounds_toArray, List.set_cons_zero, List.set_cons_succ] at E
        have hsw := hFw7.size
        go_wp2
        refine bodyPost_ret (results_FB Try.results100 _ _ (w.heap.size + 1) _ _ _ rfl rfl (E.cell rfl) (E.cell rfl)) rfl ?_
        refine ⟨rfl, ?_⟩
        iterate 2 refine Fr.setCell ?_ (by dsimp only; omega) _
        exact hFw7
set_option maxRecDepth 100000 in
set_option maxHeartbeats 1000000 in
theorem SeerMean_yes (w : World) (p q a : Option Addr) (n c m d l b : Nat) (P W X : List Int) (hP : SL w p n c P) (hW : SL w q m d W) (hX : SL w a l b X) (ht : treeB P W = true) (hx : procB P X = true) :
    Calls Try.prog 54 #[.agg #[.slice p n c, .slice q m d], .slice a l b] w fun e w' => e = .returned (.tuple #[.agg #[.int .i64 (lowA (lmS P W X) (nth (gathM P W) 0)), .int .i64 (lowB (lmS P W X) (nth (gathM P W) 0))], .bool true]) ∧ Fr w w' := by
  have HP := Lib.hid hP.len
  have HX := Lib.hid hX.len
  have Ht := Lib.hid ht; have Hx := Lib.hid hx
  have hln : l = n := by rw [← HX.out, ← HP.out]; exact (procB_iff.1 hx).1
  subst hln
  have t1 := (treeB_iff.1 ht).1
  rw [HP.out] at t1
  have hmk := fun w => run_make_row' 22 3 (.int .i64 0) 8 Try.underlying22 infoInt rfl .i64 .i64 l (by omega) (by omega) w
  have hfr : Fr w ((w.alloc (.cells #[.slice p l c, .slice q m d] 29)).alloc (.cells #[.int .i64 0, .int .i64 0] 46)) := ((Fr.refl w).alloc _).alloc _
  have hb0 := (Blk.new w #[.slice p l c, .slice q m d] 29).alloc (.cells #[.int .i64 0, .int .i64 0] 46)
  have hb1 := Blk.new (w.alloc (.cells #[.slice p l c, .slice q m d] 29)) #[.int .i64 0, .int .i64 0] 46
  rw [World.size_alloc] at hb1
  have H0 := Lib.hid hb0; have H1 := Lib.hid hb1
  clear hb0 hb1
  have c0 := H0.out.cell (j := 0) rfl; have c1 := H0.out.cell (j := 1) rfl
  go_enter Try.func54, Try.ntmps54
  go_wp2_with fail
  clear c0 c1
  refine (IsTree_any _ _ _ _ _ _ _ _ _ (hP.fr hfr) (hW.fr hfr)).mono ?_
  rintro e w1 ⟨rfl, f1⟩
  have G1 := Lib.hid (H0.out.fr f1)
  have hF1 := hfr.trans f1
  have c0 := G1.out.cell (j := 0) rfl; have c1 := G1.out.cell (j := 1) rfl
  go_wp2_with fail
  clear c0 c1 ht
  refine (isProcess_any _ _ _ _ _ _ _ _ _ _ _ W _ (hP.fr hF1) (hX.fr hF1)).mono ?_
  rintro e w2 ⟨rfl, f2⟩
  have hF2 := hF1.trans f2
  have hFo := f1.trans f2
  have c0 := (H0.out.fr hFo).cell (j := 0) rfl; have c1 := (H0.out.fr hFo).cell (j := 1) rfl
  have d0 := (H0.out.fr (hFo.drew' 1)).cell (j := 0) rfl; have d1 := (H0.out.fr (hFo.drew' 1)).cell (j := 1) rfl
  have x0 := (H0.out.fr (hFo.alloc (.cells (madeCells #[.int .i64 0] l) 3))).cell (j := 0) rfl; have x1 := (H0.out.fr (hFo.alloc (.cells (madeCells #[.int .i64 0] l) 3))).cell (j := 1) rfl
  have o9 := Own.made (B := w2.heap.size) w2 l (Nat.le_refl _) (by unfold maxLen; omega)
  have hP2 := hP.fr hF2
  have hW2 := hW.fr hF2
  have hX2 := hX.fr hF2
  have HZ : Hid (∀ i, nth (List.replicate l 0) i = 0) := Lib.hid (fun i => by unfold nth; rw [List.getElem?_replicate]; split <;> rfl)
  go_upto_region 3 with fail
  clear hx
  go_region_with
    ((go_at_call 100; refine (bound_any _ _ _ _ _ _ _ _ _ _ _ _ _ _ _ _ _ (hP2.fr (by first | exact ((Fr.refl w2).alloc _).drew' 1 | exact (Fr.refl w2).alloc _)) (hW2.fr (by first | exact ((Fr.refl w2).alloc _).drew' 1 | exact (Fr.refl w2).alloc _)) (hX2.fr (by first | exact ((Fr.refl w2).alloc _).drew' 1 | exact (Fr.refl w2).alloc _)) (by first | exact o9.sl | exact (o9.fr ((Fr.refl _).drew' 1)).sl) Ht.out Hx.out rfl HZ.out).mono ?_; rintro e w3 ⟨rfl, f3'⟩; have f3 : Fr w2 w3 := (by first | exact (((Fr.refl w2).alloc _).drew' 1).trans f3' | exact ((Fr.refl w2).alloc _).trans f3'); have J1 := Lib.hid (H1.out.fr (hFo.trans f3)); have p0 := J1.out.cell (j := 0) rfl; have p1 := J1.out.cell (j := 1) rfl; have r0 := J1.out.free 0; have r1 := J1.out.free 1))
  all_goals
    have E := (J1.out.set 0 (.int .i64 (lowA (lmS P W X) (nth (gathM P W) 0)))).set 1 (.int .i64 (lowB (lmS P W X) (nth (gathM P W) 0)))
    simp only [List.setIfInBounds_toArray, List.set_cons_zero, List.set_cons_succ] at E
    have hFw7 := hF2.trans f3
    have hsw := hFw7.size
    go_wp2
    refine bodyPost_ret (results_FB Try.results54 _ _ (w.heap.size + 1) _ _ _ rfl rfl (E.cell rfl) (E.cell rfl)) rfl ?_
    refine ⟨rfl, ?_⟩
    iterate 2 refine Fr.setCell ?_ (by dsimp only; omega) _
    exact hFw7
end Go.Proofs.Ytojipjjfndgbhaa
