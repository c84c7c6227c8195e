import Derived.Test.YtojipjjfndgbhaaPeak3
import Derived.Test.YtojipjjfndgbhaaMeans2
/- Contracts of LargestMean. -/
set_option linter.unusedVariables false
namespace Go.Proofs.Ytojipjjfndgbhaa
open Go.ChangeShapes Go.WideShapes Go.ChangeAt Go.RowKit
theorem lm_fit {P W X : List Int} (h : evenB P W X = true) : (-1000000000 ≤ lmS P W X ∧ lmS P W X ≤ 1000000000) ∧ (0 < nth (gathM P W) 0 ∧ nth (gathM P W) 0 ≤ 1000000) := by
  obtain ⟨ht, hx, _, _⟩ := evenB_parts h
  obtain ⟨t1, t2, t3, _⟩ := treeB_iff.1 ht
  have hv := nth_bd (procB_iff.1 hx).2 (by omega) (by omega)
  have h1 := totals_bd (P := P) (W := W) (V := pkM P X) t3 (tree_wei ht) (pk_bd ht hv) t1.2 t1.1 0
  have h2 := sums_pos ht 0 (by omega)
  have h3 := sums_le ht 0
  unfold lmS; omega
theorem lm_mean {P W X : List Int} (h : evenB P W X = true) : lmV P W X = meanP P W (pkM P X) 0 := by rw [lmV, h]; rfl
set_option maxRecDepth 100000 in
theorem impl_LargestMean_any (w : World) (p q a : Option Addr) (n c m d l b : Nat) (P W X : List Int) (hP : SL w p n c P) (hW : SL w q m d W) (hX : SL w a l b X) :
    Calls Try.prog 39 #[.agg #[.slice p n c, .slice q m d], .slice a l b] w fun e w' => e = .returned (.tuple #[.agg #[.int .i64 (lmV P W X).1, .int .i64 (lmV P W X).2], .bool (evenB P W X)]) ∧ Fr w w' := by
  have hfr : Fr w ((w.alloc (.cells #[.slice p n c, .slice q m d] 29)).alloc (.cells #[.int .i64 0, .int .i64 0] 46)) := ((Fr.refl w).alloc _).alloc _
  have hb0 := (Blk.new w #[.slice p n c, .slice q m d] 29).alloc (.cells #[.int .i64 0, .int .i64 0] 46)
  have hb1 := Blk.new (w.alloc (.cells #[.slice p n c, .slice q m d] 29)) #[.int .i64 0, .int .i64 0] 46
  rw [World.size_alloc] at hb1
  have H0 := Lib.hid hb0; have H1 := Lib.hid hb1
  clear hb0 hb1
  have c0 := H0.out.cell (j := 0) rfl; have c1 := H0.out.cell (j := 1) rfl
  go_enter Try.func39, Try.ntmps39
  go_wp2_with fail
  clear c0 c1
  refine (isBalancedUp_any _ _ _ _ _ _ _ _ _ _ _ _ _ (hP.fr hfr) (hW.fr hfr) (hX.fr hfr)).mono ?_
  rintro e w1 ⟨rfl, f1⟩
  have hF1 := hfr.trans f1
  have hs1 := hF1.size
  cases h : evenB P W X
  · have HB := Lib.hid h
    have HH : Hid (lmV P W X = (0, 0)) := Lib.hid (by rw [lmV, h]; rfl)
    have G1 := Lib.hid (H1.out.fr f1)
    have j0 := G1.out.cell (j := 0) rfl; have j1 := G1.out.cell (j := 1) rfl
    have i0 := G1.out.free 0; have i1 := G1.out.free 1
    go_wp2
    have E := (G1.out.set 0 (.int .i64 0)).set 1 (.int .i64 0)
    refine bodyPost_ret (results_FB Try.results39 _ _ (w.heap.size + 1) (.int .i64 0) (.int .i64 0) _ rfl rfl (E.cell rfl) (E.cell rfl)) rfl ?_
    refine ⟨by rw [HH.out, HB.out]; rfl, ?_⟩
    iterate 2 refine Fr.setCell ?_ (by dsimp only; omega) _
    exact hF1
  · have HB := Lib.hid h
    obtain ⟨ht, hx, _, _⟩ := evenB_parts h
    have HH : Hid (lmV P W X = (lowA (lmS P W X) (nth (gathM P W) 0), lowB (lmS P W X) (nth (gathM P W) 0))) := Lib.hid (by rw [lmV, h]; rfl)
    have c0 := (H0.out.fr f1).cell (j := 0) rfl; have c1 := (H0.out.fr f1).cell (j := 1) rfl
    go_wp2_with fail
    clear c0 c1 h
    refine (SeerMean_yes _ _ _ _ _ _ _ _ _ _ _ _ _ (hP.fr hF1) (hW.fr hF1) (hX.fr hF1) ht hx).mono ?_
    rintro e w2 ⟨rfl, f2⟩
    have G1 := Lib.hid (H1.out.fr (f1.trans f2))
    have j0 := G1.out.cell (j := 0) rfl; have j1 := G1.out.cell (j := 1) rfl
    have i0 := G1.out.free 0; have i1 := G1.out.free 1
    have hF2 := hF1.trans f2
    have E := (G1.out.set 0 (.int .i64 (lowA (lmS P W X) (nth (gathM P W) 0)))).set 1 (.int .i64 (lowB (lmS P W X) (nth (gathM P W) 0)))
    simp only [List.setIfInBounds_toArray, List.set_cons_zero, List.set_cons_succ] at E
    clear ht hx
    go_wp2
    refine bodyPost_ret (results_FB Try.results39 _ _ (w.heap.size + 1) _ _ _ rfl rfl (E.cell rfl) (E.cell rfl)) rfl ?_
    refine ⟨by rw [HH.out, HB.out]; rfl, ?_⟩
    iterate 2 refine Fr.setCell ?_ (by dsimp only; omega) _
    exact hF2
set_option maxRecDepth 100000 in
set_option maxHeartbeats 1000000 in
theorem spec_LargestMean_any (w : World) (p q a : Option Addr) (n c m d l b : Nat) (P W X : List Int) (hP : SL w p n c P) (hW : SL w q m d W) (hX : SL w a l b X) :
    Calls Try.prog 38 #[.agg #[.slice p n c, .slice q m d], .slice a l b] w fun e w' => e = .returned (.tuple #[.agg #[.int .i64 (lmV P W X).1, .int .i64 (lmV P W X).2], .bool (evenB P W X)]) ∧ Fr w w' := by
  have HP := Lib.hid hP.len
  have hfr : Fr w ((w.alloc (.cells #[.slice p n c, .slice q m d] 29)).alloc (.cells #[.int .i64 0, .int .i64 0] 46)) := ((Fr.refl w).alloc _).alloc _
  have hb0 := (Blk.new w #[.slice p n c, .slice q m d] 29).alloc (.cells #[.int .i64 0, .int .i64 0] 46)
  have hb1 := Blk.new (w.alloc (.cells #[.slice p n c, .slice q m d] 29)) #[.int .i64 0, .int .i64 0] 46
  rw [World.size_alloc] at hb1
  have H0 := Lib.hid hb0; have H1 := Lib.hid hb1
  clear hb0 hb1
  have c0 := H0.out.cell (j := 0) rfl; have c1 := H0.out.cell (j := 1) rfl
  go_enter Try.func38, Try.ntmps38
  go_wp2_with fail
  clear c0 c1
  refine (l10Fair_any _ _ _ _ _ _ _ _ _ _ _ _ _ (hP.fr hfr) (hW.fr hfr) (hX.fr hfr)).mono ?_
  rintro e w1 ⟨rfl, f1⟩
  have hF1 := hfr.trans f1
  have hs1 := hF1.size
  cases h : evenB P W X
  · have HB := Lib.hid h
    have HH : Hid (lmV P W X = (0, 0)) := Lib.hid (by rw [lmV, h]; rfl)
    have G1 := Lib.hid (H1.out.fr f1)
    have j0 := G1.out.cell (j := 0) rfl; have j1 := G1.out.cell (j := 1) rfl
    have i0 := G1.out.free 0; have i1 := G1.out.free 1
    go_wp2
    have E := (G1.out.set 0 (.int .i64 0)).set 1 (.int .i64 0)
    refine bodyPost_ret (results_FB Try.results38 _ _ (w.heap.size + 1) (.int .i64 0) (.int .i64 0) _ rfl rfl (E.cell rfl) (E.cell rfl)) rfl ?_
    refine ⟨by rw [HH.out, HB.out]; rfl, ?_⟩
    iterate 2 refine Fr.setCell ?_ (by dsimp only; omega) _
    exact hF1
  · have HE := Lib.hid h
    have HB := Lib.hid h
    obtain ⟨ht, hx, _, hpos⟩ := evenB_parts h
    have Ht := Lib.hid ht
    have Hv := Lib.hid (nth_bd (procB_iff.1 hx).2 (by omega) (by omega))
    have t1 := (treeB_iff.1 ht).1
    rw [HP.out] at t1
    have HH : Hid (lmV P W X = meanP P W (pkM P X) 0) := Lib.hid (lm_mean h)
    have HPK : Hid ((pkM P X).length = (endsM P).length) := Lib.hid (by rw [pkM, enM, enTo_len])
    have c0 := (H0.out.fr f1).cell (j := 0) rfl; have c1 := (H0.out.fr f1).cell (j := 1) rfl
    have d0 := (H0.out.fr (f1.drew' 1)).cell (j := 0) rfl; have d1 := (H0.out.fr (f1.drew' 1)).cell (j := 1) rfl
    have hP1 := hP.fr hF1; have hW1 := hW.fr hF1; have hX1 := hX.fr hF1
    clear ht hx hpos
    go_upto_region 3 with fail
    clear h
    go_region_with (first
      | (go_at_call 86; refine (l10Peaks_any _ _ _ _ _ _ _ _ _ _ _ _ _ (hP1.fr (by first | exact (Fr.refl w1).drew' 1 | exact Fr.drewN w1 1)) (hW1.fr (by first | exact (Fr.refl w1).drew' 1 | exact Fr.drewN w1 1)) (hX1.fr (by first | exact (Fr.refl w1).drew' 1 | exact Fr.drewN w1 1)) HE.out).mono ?_; rintro e w2 ⟨a2, n2, c2, rfl, o2, f2', _⟩; have f2 : Fr w1 w2 := (by first | exact ((Fr.refl w1).drew' 1).trans f2' | exact (Fr.drewN w1 1).trans f2'); have k0 := f2.keep c0; have k1 := f2.keep c1)
      | (go_at_call 85; refine (l2Means_any _ _ _ _ _ _ _ _ _ _ _ _ _ (hP1.fr f2) (hW1.fr f2) o2.sl Ht.out (by rw [← o2.len]; exact HPK.out) (pk_bd Ht.out Hv.out)).mono ?_; rintro e w3 ⟨a3, n3, c3, rfl, o3, f3', _⟩; have f3 : Fr w1 w3 := f2.trans f3'; have N3 : n = n3 := (by rw [← o3.len, meansM_len, HP.out]); subst N3; obtain ⟨g3, rfl, hg1, hg2, hcap, hc3⟩ := o3.op (by omega); obtain ⟨hy0, hy1⟩ := hc3 0 (by omega); rw [meansM_nth (by rw [HP.out]; omega)] at hy0 hy1; have j0 := (H1.out.fr (f1.trans f3)).cell (j := 0) rfl; have j1 := (H1.out.fr (f1.trans f3)).cell (j := 1) rfl; have i0 := (H1.out.fr (f1.trans f3)).free 0; have i1 := (H1.out.fr (f1.trans f3)).free 1))
    all_goals
      have E := ((H1.out.fr (f1.trans f3)).set 0 (.int .i64 (meanP P W (pkM P X) 0).1)).set 1 (.int .i64 (meanP P W (pkM P X) 0).2)
      simp only [List.setIfInBounds_toArray, List.set_cons_zero, List.set_cons_succ] at E
      go_wp2
      refine bodyPost_ret (results_FB Try.results38 _ _ (w.heap.size + 1) (.int .i64 (meanP P W (pkM P X) 0).1) (.int .i64 (meanP P W (pkM P X) 0).2) _ rfl rfl (E.cell rfl) (E.cell rfl)) rfl ?_
      refine ⟨by rw [HH.out, HB.out]; rfl, ?_⟩
      iterate 2 refine Fr.setCell ?_ (by dsimp only; omega) _
      exact hF1.trans f3
end Go.Proofs.Ytojipjjfndgbhaa
