import Derived.Test.YtojipjjfndgbhaaLarge
/- Contracts of LargestChance. -/
set_option linter.unusedVariables false
namespace Go.Proofs.Ytojipjjfndgbhaa
open Go.ChangeShapes Go.WideShapes Go.ChangeAt Go.RowKit
theorem ch_999 (P X : List Int) (v : Int) (i : Nat) : -999 ≤ nth (enM P (chF P X v)) i ∧ nth (enM P (chF P X v)) i ≤ 999 :=
  en_bd (fun x _ => by have := chF_bd P X v x; omega) (by omega) (Nat.le_refl _) i
theorem lc_fit {P W X : List Int} (h : evenB P W X = true) (v : Int) : (-1000000000 ≤ lcS P W X v ∧ lcS P W X v ≤ 1000000000) ∧ (0 < nth (gathM P W) 0 ∧ nth (gathM P W) 0 ≤ 1000000) := by
  obtain ⟨ht, hx, _, _⟩ := evenB_parts h
  obtain ⟨t1, t2, t3, _⟩ := treeB_iff.1 ht
  have h1 := totals_bd (P := P) (W := W) (V := enM P (chF P X v)) t3 (tree_wei ht) (ch_999 P X v) t1.2 t1.1 0
  have h2 := sums_pos ht 0 (by omega)
  have h3 := sums_le ht 0
  unfold lcS; omega
theorem lc_mean {P W X : List Int} {v : Int} (h : lcB P W X v = true) : lcV P W X v = meanP P W (enM P (chF P X v)) 0 := by rw [lcV, h]; rfl
theorem lcB_parts {P W X : List Int} {v : Int} (h : lcB P W X v = true) : evenB P W X = true ∧ 1 ≤ v ∧ v ≤ 999 := by
  rw [lcB, Bool.and_eq_true, inB_iff] at h; exact h
theorem lcB_no1 {P W X : List Int} {v : Int} (h : evenB P W X = false) : lcB P W X v = false := by rw [lcB, h]; rfl
theorem lcB_no2 {P W X : List Int} {v : Int} (h : inB v 1 999 = false) : lcB P W X v = false := by rw [lcB, h]; simp
/-- The first k peaks told. -/
def mixE (P X : List Int) (v : Int) (k : Nat) : List Int := (List.range (endsM P).length).map fun i => if i < k then chF P X v (nth (endsM P) i).toNat else topM P X (nth (endsM P) i).toNat
theorem mixE_len (P X : List Int) (v : Int) (k : Nat) : (mixE P X v k).length = (endsM P).length := by simp [mixE]
theorem mixE_nth {P X : List Int} {v : Int} {k i : Nat} (h : i < (endsM P).length) : nth (mixE P X v k) i = if i < k then chF P X v (nth (endsM P) i).toNat else topM P X (nth (endsM P) i).toNat := by simp [nth, mixE, h]
theorem mixE_zero (P X : List Int) (v : Int) : mixE P X v 0 = pkM P X := by simp [mixE, pkM, enM, enTo]
theorem mixE_all (P X : List Int) (v : Int) : mixE P X v (endsM P).length = enM P (chF P X v) := by
  refine nth_ext (by rw [mixE_len, enM, enTo_len]) fun i hi => ?_
  rw [mixE_len] at hi
  rw [mixE_nth hi, if_pos hi, enM, enTo_nth hi]
theorem mixE_set {P X : List Int} {v : Int} {k : Nat} (hk : k < (endsM P).length) : (mixE P X v k).set k (chF P X v (nth (endsM P) k).toNat) = mixE P X v (k + 1) := by
  refine nth_ext (by simp [mixE_len]) fun i hi => ?_
  simp only [List.length_set, mixE_len] at hi
  by_cases e : k = i
  · subst e; rw [nth_set_same (by rw [mixE_len]; exact hi), mixE_nth hi, if_pos (by omega)]
  · rw [nth_set_ne e, mixE_nth hi, mixE_nth hi]
    by_cases e2 : i < k
    · rw [if_pos e2, if_pos (by omega)]
    · rw [if_neg e2, if_neg (by omega)]
theorem ch_se {P W X : List Int} (ht : treeB P W = true) (v : Int) {k : Nat} (hk : k ≤ (endsM P).length) : 0 ≤ seTo (fun x => chF P X v x * nth W x) (endsM P) k ∧ seTo (fun x => chF P X v x * nth W x) (endsM P) k ≤ 480 := by
  have h1 := se_bd (G := fun x => chF P X v x * nth W x) (L := endsM P) (lo := 0) (hi := 20) (fun i hi => by
    have h2 := chF_bd P X v (nth (endsM P) i).toNat
    have h3 := tree_wei ht (nth (endsM P) i).toNat
    have h4 : chF P X v (nth (endsM P) i).toNat = 0 ∨ chF P X v (nth (endsM P) i).toNat = 1 := by omega
    rcases h4 with h4 | h4
    · simp only [h4]; omega
    · simp only [h4]; omega) k hk
  have h2 : (endsM P).length ≤ P.length := endsTo_len P P.length
  have h3 := (treeB_iff.1 ht).1
  omega
set_option maxRecDepth 100000 in
set_option maxHeartbeats 1000000 in
theorem impl_LargestChance_any (w : World) (p q a : Option Addr) (n c m d l b : Nat) (P W X : List Int) (v : Int) (hP : SL w p n c P) (hW : SL w q m d W) (hX : SL w a l b X) (hv : I64 v) :
    Calls Try.prog 41 #[.agg #[.slice p n c, .slice q m d], .slice a l b, .int .i64 v] w fun e w' => e = .returned (.tuple #[.agg #[.int .i64 (lcV P W X v).1, .int .i64 (lcV P W X v).2], .bool (lcB P W X v)]) ∧ Fr w w' := by
  have HP := Lib.hid hP.len
  have HW := Lib.hid hW.len
  have hfr : Fr w ((w.alloc (.cells #[.slice p n c, .slice q m d] 29)).alloc (.cells #[.int .i64 0, .int .i64 0] 46)) := ((Fr.refl w).alloc _).alloc _
  have hb0 := (Blk.new w #[.slice p n c, .slice q m d] 29).alloc (.cells #[.int .i64 0, .int .i64 0] 46)
  have hb1 := Blk.new (w.alloc (.cells #[.slice p n c, .slice q m d] 29)) #[.int .i64 0, .int .i64 0] 46
  rw [World.size_alloc] at hb1
  have H0 := Lib.hid hb0; have H1 := Lib.hid hb1
  clear hb0 hb1
  have c0 := H0.out.cell (j := 0) rfl; have c1 := H0.out.cell (j := 1) rfl
  go_enter Try.func41, Try.ntmps41
  go_wp2_with fail
  clear c0 c1
  refine (isBalancedUp_any _ _ _ _ _ _ _ _ _ _ _ _ _ (hP.fr hfr) (hW.fr hfr) (hX.fr hfr)).mono ?_
  rintro e w1 ⟨rfl, f1⟩
  have hF1 := hfr.trans f1
  have hs1 := hF1.size
  have G1 := Lib.hid (H1.out.fr f1)
  cases h : evenB P W X
  · have HB : Hid (lcB P W X v = false) := Lib.hid (lcB_no1 h)
    have HH : Hid (lcV P W X v = (0, 0)) := Lib.hid (by rw [lcV, HB.out]; rfl)
    have j0 := G1.out.cell (j := 0) rfl; have j1 := G1.out.cell (j := 1) rfl
    have i0 := G1.out.free 0; have i1 := G1.out.free 1
    go_wp2
    have E := (G1.out.set 0 (.int .i64 0)).set 1 (.int .i64 0)
    refine bodyPost_ret (results_FB Try.results41 _ _ (w.heap.size + 1) (.int .i64 0) (.int .i64 0) _ rfl rfl (E.cell rfl) (E.cell rfl)) rfl ?_
    refine ⟨by rw [HH.out, HB.out]; rfl, ?_⟩
    iterate 2 refine Fr.setCell ?_ (by dsimp only; omega) _
    exact hF1
  have HE := Lib.hid h
  go_wp2_with fail
  refine (within_any _ _ _ _).mono ?_
  rintro e w' ⟨rfl, rfl⟩
  clear h
  cases h2 : inB v 1 999
  · have HB : Hid (lcB P W X v = false) := Lib.hid (lcB_no2 h2)
    have HH : Hid (lcV P W X v = (0, 0)) := Lib.hid (by rw [lcV, HB.out]; rfl)
    have j0 := G1.out.cell (j := 0) rfl; have j1 := G1.out.cell (j := 1) rfl
    have i0 := G1.out.free 0; have i1 := G1.out.free 1
    go_wp2
    have E := (G1.out.set 0 (.int .i64 0)).set 1 (.int .i64 0)
    refine bodyPost_ret (results_FB Try.results41 _ _ (w.heap.size + 1) (.int .i64 0) (.int .i64 0) _ rfl rfl (E.cell rfl) (E.cell rfl)) rfl ?_
    refine ⟨by rw [HH.out, HB.out]; rfl, ?_⟩
    iterate 2 refine Fr.setCell ?_ (by dsimp only; omega) _
    exact hF1
  have HB : Hid (lcB P W X v = true) := Lib.hid (by rw [lcB, HE.out, h2]; rfl)
  have HH : Hid (lcV P W X v = (lowA (lcS P W X v) (nth (gathM P W) 0), lowB (lcS P W X v) (nth (gathM P W) 0))) := Lib.hid (by rw [lcV, HB.out]; rfl)
  obtain ⟨ht, hx, _, _⟩ := evenB_parts HE.out
  have Ht := Lib.hid ht; have Hx := Lib.hid hx
  obtain ⟨t1, t2, t3, _⟩ := treeB_iff.1 ht
  have Hp := Lib.hid t3
  rw [HP.out] at t1
  have N4' : Hid ((gathM P W).length = n) := Lib.hid (by rw [gathM, gathTo_len, t2, HP.out])
  obtain rfl : n = m := by rw [← HW.out, t2, HP.out]
  have HFit := Lib.hid (lc_fit HE.out v)
  have HOk : Hid (lowOk (lcS P W X v) (nth (gathM P W) 0) = true) := Lib.hid (lowOk_fit HFit.out.1 HFit.out.2)
  clear ht hx t2 t3
  have c0 := (H0.out.fr f1).cell (j := 0) rfl; have c1 := (H0.out.fr f1).cell (j := 1) rfl
  go_wp2_with fail
  clear c0 c1 h2
  refine (HighestOf_yes _ _ _ _ _ _ _ _ _ _ _ _ _ (hP.fr hF1) (hW.fr hF1) (hX.fr hF1) Ht.out Hx.out).mono ?_
  rintro e w2 ⟨a2, n2, c2, rfl, o2, f2, _⟩
  have Hn2 : Hid (n2 = (endsM P).length) := Lib.hid (by rw [← o2.len, pkM, enM, enTo_len])
  have S2 := o2.sl
  have hF2 := hF1.trans f2
  have hFo2 := f1.trans f2
  have c0 := (H0.out.fr hFo2).cell (j := 0) rfl; have c1 := (H0.out.fr hFo2).cell (j := 1) rfl
  clear o2 f2
  go_wp2_with fail
  clear c0 c1
  refine (ends_any _ _ _ _ _ _ _ _ (hP.fr hF2) Hp.out (by omega)).mono ?_
  rintro e w3 ⟨a3, n3, c3, rfl, o3, f3, m3⟩
  have Hn3 := Lib.hid o3.len
  obtain rfl : n3 = n2 := by rw [Hn2.out, o3.len]
  have S3 := o3.sl
  have S2' := S2.fr f3
  have hF3 := hF2.trans f3
  have hFo3 := hFo2.trans f3
  clear o3 f3 S2 hF2 hFo2
  have hPF := hP.fr hF3; have hWF := hW.fr hF3
  go_wp2
  go_loop [8, 32] (fun s i => ∃ k : Nat, k ≤ n3 ∧ i = .int .i64 k ∧ s = .int .i64 (seTo (fun x => chF P X v x * nth W x) (endsM P) k)) (fun _ i => n3 - (intOf i).toNat)
  case atStart => exact ⟨0, by omega, rfl, rfl⟩
  case round =>
    obtain ⟨k, hk, rfl, rfl⟩ := hrel
    by_cases hlt : k < n3
    · obtain ⟨z, hz, hzl, _⟩ := ends_nth (P := P) (i := k) (by rw [Hn3.out]; exact hlt)
      rw [HP.out] at hzl
      obtain ⟨b3, of3, rfl, q3⟩ := S3.cells.resolve_left (by omega)
      replace q3 := q3 k hlt
      obtain ⟨b2, of2, rfl, q2⟩ := S2'.cells.resolve_left (by omega)
      replace q2 := q2 k hlt
      rw [pkM, enM, enTo_nth (by rw [Hn3.out]; exact hlt), hz, Int.toNat_natCast] at q2
      have HS : Hid (seTo (fun x => chF P X v x * nth W x) (endsM P) (k + 1) = seTo (fun x => chF P X v x * nth W x) (endsM P) k + chF P X v z * nth W z) := Lib.hid (by rw [seTo, hz]; rfl)
      rw [hz] at q3
      clear hz
      have b6 := ch_se (X := X) Ht.out v (k := k) (by rw [Hn3.out]; exact hk)
      have b7 := tree_wei Ht.out z
      have HC : Hid (chF P X v z = if v ≤ topM P X z then 1 else 0) := Lib.hid rfl
      rw [HC.out] at HS
      generalize seTo (fun x => chF P X v x * nth W x) (endsM P) k = acc at HS b6 ⊢
      generalize topM P X z = tz at q2 HS
      have vk0 : (0 : Int) ≤ (k : Int) := by omega
      have vk : (k : Int) < (n3 : Int) := by omega
      have vz0 : (0 : Int) ≤ (z : Int) := by omega
      have vz : (z : Int) < (n : Int) := by omega
      have c1 := (H0.out.fr hFo3).cell (j := 1) rfl
      obtain ⟨bw, ow, rfl, qw⟩ := hWF.cells.resolve_left (by omega)
      replace qw := qw z hzl
      clear HC
      by_cases hc : v ≤ tz
      · rw [if_pos hc, Int.one_mul] at HS
        go_wp2
        go_round
        case rel => exact ⟨k + 1, by omega, by go_num, by rw [HS.out]⟩
        case measure => simp [intOf]; omega
      · rw [if_neg hc, Int.zero_mul, Int.add_zero] at HS
        go_wp2
        go_round
        case rel => exact ⟨k + 1, by omega, by go_num, by rw [HS.out]⟩
        case measure => simp [intOf]; omega
    · obtain rfl : k = n3 := by omega
      have HTR : Hid (seTo (fun x => chF P X v x * nth W x) (endsM P) k = lcS P W X v) := Lib.hid (by rw [lcS, tot_root Hp.out (by rw [HP.out]; omega), Hn3.out])
      rw [HTR.out]
      have c0 := (H0.out.fr hFo3).cell (j := 0) rfl; have c1 := (H0.out.fr hFo3).cell (j := 1) rfl
      go_wp2_with fail
      clear c0 c1
      refine (sums_any _ _ _ _ _ _ _ _ _ hPF hWF Ht.out).mono ?_
      rintro e w6 ⟨a4, n4, k4, rfl, o4, f6, _⟩
      obtain rfl : n = n4 := by rw [← o4.len, N4'.out]
      obtain ⟨g4, rfl, _, _, q4, _⟩ := o4.op (by omega)
      replace q4 := q4 0 (by omega)
      have b8 := HFit.out
      have hF6 := hF3.trans f6
      have hFo6 := hFo3.trans f6
      go_wp2_with fail
      refine (lowest_any _ _ _ (by omega) (by omega)).mono ?_
      rintro e w7 ⟨rfl, f7⟩
      rw [HOk.out]
      have J1 := Lib.hid (H1.out.fr (hFo6.trans f7))
      have p0 := J1.out.cell (j := 0) rfl; have p1 := J1.out.cell (j := 1) rfl
      have r0 := J1.out.free 0; have r1 := J1.out.free 1
      have hFw7 := hF6.trans f7
      have E := (J1.out.set 0 (.int .i64 (lowA (lcS P W X v) (nth (gathM P W) 0)))).set 1 (.int .i64 (lowB (lcS P W X v) (nth (gathM P W) 0)))
      simp only [List.setIfInBounds_toArray, List.set_cons_zero, List.set_cons_succ] at E
      go_wp2
      refine bodyPost_ret (results_FB Try.results41 _ _ (w.heap.size + 1) _ _ _ rfl rfl (E.cell rfl) (E.cell rfl)) rfl ?_
      refine ⟨by rw [HH.out, HB.out]; rfl, ?_⟩
      iterate 2 refine Fr.setCell ?_ (by dsimp only; omega) _
      exact hFw7
set_option maxRecDepth 100000 in
set_option maxHeartbeats 1000000 in
theorem spec_LargestChance_any (w : World) (p q a : Option Addr) (n c m d l b : Nat) (P W X : List Int) (v : Int) (hP : SL w p n c P) (hW : SL w q m d W) (hX : SL w a l b X) (hv : I64 v) :
    Calls Try.prog 40 #[.agg #[.slice p n c, .slice q m d], .slice a l b, .int .i64 v] w fun e w' => e = .returned (.tuple #[.agg #[.int .i64 (lcV P W X v).1, .int .i64 (lcV P W X v).2], .bool (lcB P W X v)]) ∧ Fr w w' := by
  have HP := Lib.hid hP.len
  have HW := Lib.hid hW.len
  have hfr : Fr w ((w.alloc (.cells #[.slice p n c, .slice q m d] 29)).alloc (.cells #[.int .i64 0, .int .i64 0] 46)) := ((Fr.refl w).alloc _).alloc _
  have hb0 := (Blk.new w #[.slice p n c, .slice q m d] 29).alloc (.cells #[.int .i64 0, .int .i64 0] 46)
  have hb1 := Blk.new (w.alloc (.cells #[.slice p n c, .slice q m d] 29)) #[.int .i64 0, .int .i64 0] 46
  rw [World.size_alloc] at hb1
  have H0 := Lib.hid hb0; have H1 := Lib.hid hb1
  clear hb0 hb1
  have c0 := H0.out.cell (j := 0) rfl; have c1 := H0.out.cell (j := 1) rfl
  go_enter Try.func40, Try.ntmps40
  go_wp2_with fail
  clear c0 c1
  refine (l10Fair_any _ _ _ _ _ _ _ _ _ _ _ _ _ (hP.fr hfr) (hW.fr hfr) (hX.fr hfr)).mono ?_
  rintro e w1 ⟨rfl, f1⟩
  have hF1 := hfr.trans f1
  have hs1 := hF1.size
  have G1 := Lib.hid (H1.out.fr f1)
  cases h : evenB P W X
  · have HB : Hid (lcB P W X v = false) := Lib.hid (lcB_no1 h)
    have HH : Hid (lcV P W X v = (0, 0)) := Lib.hid (by rw [lcV, HB.out]; rfl)
    have j0 := G1.out.cell (j := 0) rfl; have j1 := G1.out.cell (j := 1) rfl
    have i0 := G1.out.free 0; have i1 := G1.out.free 1
    go_wp2
    have E := (G1.out.set 0 (.int .i64 0)).set 1 (.int .i64 0)
    refine bodyPost_ret (results_FB Try.results40 _ _ (w.heap.size + 1) (.int .i64 0) (.int .i64 0) _ rfl rfl (E.cell rfl) (E.cell rfl)) rfl ?_
    refine ⟨by rw [HH.out, HB.out]; rfl, ?_⟩
    iterate 2 refine Fr.setCell ?_ (by dsimp only; omega) _
    exact hF1
  have HE := Lib.hid h
  go_wp2_with fail
  refine (l1In_any _ _ _ _).mono ?_
  rintro e w' ⟨rfl, rfl⟩
  clear h
  cases h2 : inB v 1 999
  · have HB : Hid (lcB P W X v = false) := Lib.hid (lcB_no2 h2)
    have HH : Hid (lcV P W X v = (0, 0)) := Lib.hid (by rw [lcV, HB.out]; rfl)
    have j0 := G1.out.cell (j := 0) rfl; have j1 := G1.out.cell (j := 1) rfl
    have i0 := G1.out.free 0; have i1 := G1.out.free 1
    go_wp2
    have E := (G1.out.set 0 (.int .i64 0)).set 1 (.int .i64 0)
    refine bodyPost_ret (results_FB Try.results40 _ _ (w.heap.size + 1) (.int .i64 0) (.int .i64 0) _ rfl rfl (E.cell rfl) (E.cell rfl)) rfl ?_
    refine ⟨by rw [HH.out, HB.out]; rfl, ?_⟩
    iterate 2 refine Fr.setCell ?_ (by dsimp only; omega) _
    exact hF1
  have HB : Hid (lcB P W X v = true) := Lib.hid (by rw [lcB, HE.out, h2]; rfl)
  have HH : Hid (lcV P W X v = meanP P W (enM P (chF P X v)) 0) := Lib.hid (lc_mean HB.out)
  obtain ⟨ht, hx, _, _⟩ := evenB_parts HE.out
  have Ht := Lib.hid ht; have Hx := Lib.hid hx
  have t1 := (treeB_iff.1 ht).1
  rw [HP.out] at t1
  clear ht hx
  have c0 := (H0.out.fr f1).cell (j := 0) rfl; have c1 := (H0.out.fr f1).cell (j := 1) rfl
  go_wp2_with fail
  clear c0 c1 h2
  refine (l10Peaks_any _ _ _ _ _ _ _ _ _ _ _ _ _ (hP.fr hF1) (hW.fr hF1) (hX.fr hF1) HE.out).mono ?_
  rintro e w2 ⟨a2, n2, c2, rfl, o2, f2, _⟩
  have Hn2 : Hid (n2 = (endsM P).length) := Lib.hid (by rw [← o2.len, pkM, enM, enTo_len])
  rw [← mixE_zero P X v] at o2
  have hF2 := hF1.trans f2
  have hFo2 := f1.trans f2
  have o2' := o2.mono (Nat.le_refl w1.heap.size)
  have zz2 := f2.size
  clear o2
  go_wp2
  go_loopw [9] (fun i wr => ∃ k : Nat, k ≤ n2 ∧ i = .int .i64 k ∧ Own w1.heap.size wr a2 n2 c2 (mixE P X v k) ∧ Fr w1 wr) (fun i _ => n2 - (intOf i).toNat)
  case atStart => exact ⟨0, by omega, rfl, o2', f2⟩
  case round =>
    clear o2'
    obtain ⟨k, hk, rfl, ho, hF⟩ := hrel
    obtain ⟨wo, rfl⟩ : ∃ wo : World, wo = wr := ⟨_, rfl⟩
    by_cases hlt : k < n2
    · have hk2 : k < (endsM P).length := by rw [← Hn2.out]; exact hlt
      obtain ⟨g2, rfl, hg2, _, q2, z2⟩ := ho.op (by omega)
      replace q2 := q2 k hlt
      replace z2 := z2 k
      rw [mixE_nth hk2, if_neg (by omega)] at q2
      have HS : Hid ((mixE P X v k).set k (chF P X v (nth (endsM P) k).toNat) = mixE P X v (k + 1)) := Lib.hid (mixE_set hk2)
      have HC : Hid (chF P X v (nth (endsM P) k).toNat = if v ≤ topM P X (nth (endsM P) k).toNat then 1 else 0) := Lib.hid rfl
      rw [HC.out] at HS
      generalize topM P X (nth (endsM P) k).toNat = tz at q2 HS
      have vk0 : (0 : Int) ≤ (k : Int) := by omega
      have vk : (k : Int) < (n2 : Int) := by omega
      clear HC hk2
      by_cases hc : v ≤ tz
      · rw [if_pos hc] at HS
        have o3 := ho.set rfl hlt (show I64 1 by unfold I64; omega)
        rw [HS.out] at o3
        have f3 := hF.setCell (p := ⟨g2, k, none⟩) hg2 (.int .i64 1)
        clear ho hF
        go_wp2
        go_roundw
        case rel => exact ⟨k + 1, by omega, by go_num, o3, f3⟩
        case measure => simp [intOf]; omega
      · rw [if_neg hc] at HS
        have o3 := ho.set rfl hlt (show I64 0 by unfold I64; omega)
        rw [HS.out] at o3
        have f3 := hF.setCell (p := ⟨g2, k, none⟩) hg2 (.int .i64 0)
        clear ho hF
        go_wp2
        go_roundw
        case rel => exact ⟨k + 1, by omega, by go_num, o3, f3⟩
        case measure => simp [intOf]; omega
    · obtain rfl : k = n2 := by omega
      rw [Hn2.out, mixE_all, ← Hn2.out] at ho
      have hFw := hF1.trans hF
      have hFo := f1.trans hF
      have c0 := (H0.out.fr hFo).cell (j := 0) rfl; have c1 := (H0.out.fr hFo).cell (j := 1) rfl
      go_wp2_with fail
      clear c0 c1
      refine (l2Means_any _ _ _ _ _ _ _ _ _ _ _ _ _ (hP.fr hFw) (hW.fr hFw) ho.sl Ht.out Hn2.out (ch_999 P X v)).mono ?_
      rintro e w3 ⟨a3, n3, c3, rfl, o3, f3, _⟩
      obtain rfl : n = n3 := by rw [← o3.len, meansM_len, HP.out]
      obtain ⟨g3, rfl, hg1, hg2, hcap, hc3⟩ := o3.op (by omega)
      obtain ⟨hy0, hy1⟩ := hc3 0 (by omega)
      rw [meansM_nth (by rw [HP.out]; omega)] at hy0 hy1
      have J1 := Lib.hid (H1.out.fr (hFo.trans f3))
      have p0 := J1.out.cell (j := 0) rfl; have p1 := J1.out.cell (j := 1) rfl
      have r0 := J1.out.free 0; have r1 := J1.out.free 1
      have E := (J1.out.set 0 (.int .i64 (meanP P W (enM P (chF P X v)) 0).1)).set 1 (.int .i64 (meanP P W (enM P (chF P X v)) 0).2)
      simp only [List.setIfInBounds_toArray, List.set_cons_zero, List.set_cons_succ] at E
      have hFw3 := hFw.trans f3
      go_wp2
      refine bodyPost_ret (results_FB Try.results40 _ _ (w.heap.size + 1) _ _ _ rfl rfl (E.cell rfl) (E.cell rfl)) rfl ?_
      refine ⟨by rw [HH.out, HB.out]; rfl, ?_⟩
      iterate 2 refine Fr.setCell ?_ (by dsimp only; omega) _
      exact hFw3
end Go.Proofs.Ytojipjjfndgbhaa
