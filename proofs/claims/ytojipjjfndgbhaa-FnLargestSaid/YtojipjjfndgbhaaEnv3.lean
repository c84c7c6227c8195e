import Derived.Test.YtojipjjfndgbhaaEnv2
/- Contracts of the reference's EnvelopeOf, of HouseValue and ShouldStop. -/
set_option linter.unusedVariables false
namespace Go.Proofs.Ytojipjjfndgbhaa
open Go.ChangeShapes Go.WideShapes Go.ChangeAt Go.RowKit

theorem envP_low {P W X : List Int} (ht : treeB P W = true) (hX : ∀ i, -999 ≤ nth X i ∧ nth X i ≤ 999) {x : Nat} (hx : x < P.length) : envP P W X x = (lowP (nth (capM P W X) x) (nth (gathM P W) x), lowQ (nth (capM P W X) x) (nth (gathM P W) x)) := by
  have b1 := capM_bd (W := W) ht hX x hx
  have b2 := sums_pos ht x hx
  have b3 := sums_le ht x
  have h1 := lowP_eq (lowOk_fit (p := nth (capM P W X) x) (q := nth (gathM P W) x) (by omega) (by omega))
  rw [envP, h1.1, h1.2]

set_option maxRecDepth 100000 in
set_option maxHeartbeats 1000000 in
theorem spec_EnvelopeOf_yes (w : World) (p q a : Option Addr) (n c m d l b : Nat) (P W X : List Int) (hP : SL w p n c P) (hW : SL w q m d W) (hX : SL w a l b X) (ht : treeB P W = true) (hx : procB P X = true) :
    Calls Try.prog 82 #[.agg #[.slice p n c, .slice q m d], .slice a l b] w (RetPB (envM P W X) true w) := by
  have HP := Lib.hid hP.len
  have HX := Lib.hid hX.len
  have Ht := Lib.hid ht
  have hl3 : l3B P W X = true := l3B_iff.2 ⟨ht, hx⟩
  have hln : l = n := by rw [← HX.out, ← HP.out]; exact (procB_iff.1 hx).1
  subst hln
  have Hv := Lib.hid (nth_bd (procB_iff.1 hx).2 (by omega) (by omega))
  obtain ⟨t1, t2, t3, _⟩ := treeB_iff.1 ht
  rw [HP.out] at t1
  have N4' : Hid ((gathM P W).length = l) := Lib.hid (by rw [gathM, gathTo_len, t2, HP.out])
  clear t2 t3 ht hx
  have hfr : Fr w ((w.alloc (.cells #[.slice p l c, .slice q m d] 29)).alloc (.cells #[] 46)) := ((Fr.refl w).alloc _).alloc _
  have H0 := Lib.hid ((Blk.new w #[.slice p l c, .slice q m d] 29).alloc (.cells #[] 46))
  have hm0 := OwnP.made0 (B := w.heap.size) (w.alloc (.cells #[.slice p l c, .slice q m d] 29)) (by simp)
  have c0 := H0.out.cell (j := 0) rfl; have c1 := H0.out.cell (j := 1) rfl
  go_enter Try.func82, Try.ntmps82
  go_wp2_with fail
  clear c0 c1
  refine (l4Pays_any _ _ _ _ _ _ _ _ _ _ _ _ _ (hP.fr hfr) (hW.fr hfr) (hX.fr hfr)).mono ?_
  rintro e w1 ⟨rfl, f1⟩
  have z1 := f1.size
  simp only [World.size_alloc] at z1 hm0
  have oP := hm0.fr f1
  have hF1 := hfr.trans f1
  have G0 := Lib.hid (H0.out.fr f1)
  have hP1 := hP.fr hF1
  have hW1 := hW.fr hF1
  have hX1 := hX.fr hF1
  clear hm0 f1
  go_upto_region 4 with fail
  clear hl3
  have c0 := G0.out.cell (j := 0) rfl
  have c1 := G0.out.cell (j := 1) rfl
  go_cut [7, 8] (fun s7 s8 wx => ∃ (a3 a4 : Option Addr) (k3 k4 : Nat), s7 = .slice a3 l k3 ∧ s8 = .slice a4 l k4 ∧ Own w1.heap.size wx a3 l k3 (capM P W X) ∧ Own w1.heap.size wx a4 l k4 (gathM P W) ∧ Fr w1 wx)
  case first =>
    go_region_held3 (fun w' => w'.cell? ⟨w.heap.size, 0, none⟩ = some (.slice p l c) ∧ w'.cell? ⟨w.heap.size, 1, none⟩ = some (.slice q m d))
      (first
        | go_keep
        | (exact ⟨(G0.out.fr F3).cell rfl, (G0.out.fr F3).cell rfl⟩)
        | (exact ⟨(G0.out.fr F2).cell rfl, (G0.out.fr F2).cell rfl⟩))
      (first
        | (go_at_call 121; refine (l4Caps_any _ _ _ _ _ _ _ _ _ _ _ _ _ (hP1.fr (Fr.drewN w1 1)) (hW1.fr (Fr.drewN w1 1)) (hX1.fr (Fr.drewN w1 1)) Ht.out rfl Hv.out).mono ?_; rintro e w2 ⟨a3, n3, c3, rfl, o3, f2, _⟩; have F2 : Fr w1 w2 := (Fr.drewN w1 1).trans f2)
        | (go_at_call 122; refine (l2Sums_any _ _ _ _ _ _ _ _ _ (hP1.fr F2) (hW1.fr F2) Ht.out).mono ?_; rintro e w3 ⟨a4, n4, c4, rfl, o4, f3, _⟩; have F3 : Fr w1 w3 := F2.trans f3))
    all_goals
      have N3 : n3 = l := by rw [← o3.len, capM_len, HP.out]
      have N4 : n4 = l := by rw [← o4.len, N4'.out]
      subst N3
      subst N4
      go_wp2_with fail
      go_meet
      exact ⟨a3, a4, c3, c4, rfl, rfl, (o3.mono (B' := w1.heap.size) (by first | exact Nat.le_refl _ | simp)).fr f3, o4.mono F2.size, F3⟩
  case rest =>
    obtain ⟨a3, a4, k3, k4, rfl, rfl, oA, oS, hF⟩ := hcut
    have oP1 := oP.fr hF
    have y3 := oA.within
    have y4 := oS.within
    have hF2 := hF1.trans hF
    have ap3 : Apart (some ⟨w.heap.size + 1, 0, none⟩) a3 := fun k h1 h2 => by simp only [blkOf, Option.map_some, Option.some.injEq] at h1; have := y3 k h2; omega
    have ap4 : Apart (some ⟨w.heap.size + 1, 0, none⟩) a4 := fun k h1 h2 => by simp only [blkOf, Option.map_some, Option.some.injEq] at h1; have := y4 k h2; omega
    have oA1 := oA.mono (show w.heap.size ≤ w1.heap.size by omega)
    have oS1 := oS.mono (show w.heap.size ≤ w1.heap.size by omega)
    have Hs := Lib.hid (sums_pos Ht.out)
    have Hl := Lib.hid (sums_le Ht.out)
    have Htb := Lib.hid (fun x => capM_bd (P := P) (W := W) (X := X) Ht.out Hv.out x)
    clear oP oA oS y3 y4 c0 c1 hP1 hW1 hX1
    go_wp2
    go_loopw [6, 9] (fun v i wr => ∃ (k cc : Nat) (ap : Option Addr), k ≤ l ∧ i = .int .i64 k ∧ v = .slice ap k cc ∧ OwnP w.heap.size wr ap k cc (envTo P W X k) ∧ Own w.heap.size wr a3 l k3 (capM P W X) ∧ Own w.heap.size wr a4 l k4 (gathM P W) ∧ Apart ap a3 ∧ Apart ap a4 ∧ Fr w wr) (fun _ i _ => l - (intOf i).toNat)
    case atStart => exact ⟨0, 0, _, by omega, rfl, rfl, oP1, oA1, oS1, ap3, ap4, hF2⟩
    case round =>
      clear oP1 oA1 oS1 ap3 ap4 hF hF2 hF1 hfr
      obtain ⟨k, cc, ap, hk, rfl, rfl, oP, oA, oS, ap3, ap4, hF⟩ := hrel
      by_cases hlt : k < l
      · obtain ⟨g3, rfl, hB3, hl3, hc3, _⟩ := oA.op (by omega)
        obtain ⟨g4, rfl, hB4, hl4, hc4, _⟩ := oS.op (by omega)
        replace hc3 := hc3 k hlt
        replace hc4 := hc4 k hlt
        have b1 := Htb.out k (by rw [HP.out]; exact hlt)
        have b2 := Hs.out k (by rw [HP.out]; exact hlt)
        have b3 := Hl.out k
        have HM := Lib.hid (envTo_succ P W X k)
        have HQ := Lib.hid (envP_low (W := W) Ht.out Hv.out (x := k) (by rw [HP.out]; exact hlt))
        have hsz := hF.size
        have i1 : (0 : Int) ≤ (k : Int) := by omega
        have i2 : (k : Int) < (l : Int) := by omega
        have ra : -9223372036854775807 ≤ nth (capM P W X) k ∧ nth (capM P W X) k ≤ 9223372036854775807 := by omega
        have rb : 0 < nth (gathM P W) k ∧ nth (gathM P W) k ≤ 9223372036854775807 := by omega
        have e3 : blkOf ap ≠ some g3 := fun e => ap3 g3 e rfl
        have e4 : blkOf ap ≠ some g4 := fun e => ap4 g4 e rfl
        go_wp2
        go_region_held3 (fun w' => w'.cell? ⟨g3, k, none⟩ = some (.int .i64 (nth (capM P W X) k)) ∧ w'.cell? ⟨g4, k, none⟩ = some (.int .i64 (nth (gathM P W) k)))
          (first
            | go_keep
            | (exact ⟨f2.keep hc3, f2.keep hc4⟩)
            | (go_split_ands
               refine ⟨?_, ?_⟩
               · (rw [q2.cell_far _ (by simp; omega) (Ne.symm e3)]; assumption)
               · (rw [q2.cell_far _ (by simp; omega) (Ne.symm e4)]; assumption)))
          (first
            | (go_at_call 123; refine (l2Cut_any _ _ _ ra rb).mono ?_; rintro e w2 ⟨rfl, f2⟩; have y2 : wr.heap.size ≤ w2.heap.size := f2.size)
            | (refine step_ap_pair _ rfl _ _ rfl w.heap.size ap k cc (envTo P W X k) (lowP (nth (capM P W X) k) (nth (gathM P W) k)) (lowQ (nth (capM P W X) k) (nth (gathM P W) k)) w2.heap.size (by rfl) (by rfl) (((oP.fr (Fr.drewN _ 1)).fr f2).fr ((Fr.refl _).alloc _)) (by simp; omega) (cell_of_row _ w2.heap.size 0 _ 46 (0, 0) (heap_alloc_new w2 _)) (cell_of_row _ w2.heap.size 1 _ 46 (0, 0) (heap_alloc_new w2 _)) (by omega) (w2.heap.size + 1) (by simp) ?_; intro g' c' w' q1 q2 q3))
        have fq : Fr wr w2 := (Fr.drewN _ 1).trans f2
        have oA2 := oA.fr fq
        have oS2 := oS.fr fq
        have oP2 := oP.fr fq
        have oA3 := (oA2.fr ((Fr.refl w2).alloc _)).grown q2 (.inr (by simpa [blkOf] using Ne.symm e3))
        have oS3 := (oS2.fr ((Fr.refl w2).alloc _)).grown q2 (.inr (by simpa [blkOf] using Ne.symm e4))
        have n3 : Apart (some ⟨g', 0, none⟩) (some ⟨g3, 0, none⟩) := by
          intro z h1 h2
          simp only [blkOf, Option.map_some, Option.some.injEq] at h1
          subst h1
          rcases q3 with h | h
          · exact ap3 _ h h2
          · have := (oA2.blk _ h2).2; omega
        have n4 : Apart (some ⟨g', 0, none⟩) (some ⟨g4, 0, none⟩) := by
          intro z h1 h2
          simp only [blkOf, Option.map_some, Option.some.injEq] at h1
          subst h1
          rcases q3 with h | h
          · exact ap4 _ h h2
          · have := (oS2.blk _ h2).2; omega
        have hF3 := ((hF.trans fq).alloc _).grown q2 (fun z hz => (oP2.blk z hz).1)
        go_wp2
        go_roundw
        case rel => exact ⟨k + 1, c', _, by omega, by go_num, rfl, by rw [HM.out, HQ.out]; exact q1, oA3, oS3, n3, n4, hF3⟩
        case measure => simp [intOf]; omega
      · obtain rfl : k = l := by omega
        have HM : Hid (envTo P W X k = envM P W X) := Lib.hid (by rw [envM, HP.out])
        rw [HM.out] at oP
        go_wp2
        go_ret2
        exact ⟨_, _, _, rfl, oP, hF, by omega⟩

def hvV (P W X : List Int) (x s u v : Int) : Int × Int := bif houseB P W X x s u v then envP P W X x.toNat else (0, 0)

set_option maxRecDepth 100000 in
theorem impl_HouseValue_any (w : World) (p q a : Option Addr) (n c m d l b : Nat) (P W X : List Int) (x s u v : Int) (hP : SL w p n c P) (hW : SL w q m d W) (hX : SL w a l b X) :
    Calls Try.prog 35 #[.agg #[.slice p n c, .slice q m d, .slice a l b, .int .i64 x, .int .i64 s, .int .i64 u, .int .i64 v]] w fun e w' => e = .returned (.tuple #[.agg #[.int .i64 (hvV P W X x s u v).1, .int .i64 (hvV P W X x s u v).2], .bool (houseB P W X x s u v)]) ∧ Fr w w' := by
  have HP := Lib.hid hP.len
  have hfr : Fr w ((w.alloc (.cells #[.slice p n c, .slice q m d, .slice a l b, .int .i64 x, .int .i64 s, .int .i64 u, .int .i64 v] 31)).alloc (.cells #[.int .i64 0, .int .i64 0] 46)) := ((Fr.refl w).alloc _).alloc _
  have hb0 := (Blk.new w #[.slice p n c, .slice q m d, .slice a l b, .int .i64 x, .int .i64 s, .int .i64 u, .int .i64 v] 31).alloc (.cells #[.int .i64 0, .int .i64 0] 46)
  have hb1 := Blk.new (w.alloc (.cells #[.slice p n c, .slice q m d, .slice a l b, .int .i64 x, .int .i64 s, .int .i64 u, .int .i64 v] 31)) #[.int .i64 0, .int .i64 0] 46
  rw [World.size_alloc] at hb1
  have H0 := Lib.hid hb0; have H1 := Lib.hid hb1
  clear hb0 hb1
  have c0 := H0.out.cell (j := 0) rfl; have c1 := H0.out.cell (j := 1) rfl; have c2 := H0.out.cell (j := 2) rfl; have c3 := H0.out.cell (j := 3) rfl; have c4 := H0.out.cell (j := 4) rfl; have c5 := H0.out.cell (j := 5) rfl; have c6 := H0.out.cell (j := 6) rfl
  go_enter Try.func35, Try.ntmps35
  go_wp2_with fail
  clear c0 c1 c2 c3 c4 c5 c6
  refine (impl_IsHouse_any _ _ _ _ _ _ _ _ _ _ _ _ _ (hP.fr hfr) (hW.fr hfr) (hX.fr hfr) _ _ _ _).mono ?_
  rintro e w1 ⟨rfl, f1⟩
  have hF1 := hfr.trans f1
  have G0 := Lib.hid (H0.out.fr f1); have G1 := Lib.hid (H1.out.fr f1)
  cases h : houseB P W X x s u v
  · have HB := Lib.hid h
    have HH : Hid (hvV P W X x s u v = (0, 0)) := Lib.hid (by rw [hvV, h]; rfl)
    have j0 := G1.out.cell (j := 0) rfl; have j1 := G1.out.cell (j := 1) rfl
    have i0 := G1.out.free 0; have i1 := G1.out.free 1
    go_wp2
    have E := (G1.out.set 0 (.int .i64 0)).set 1 (.int .i64 0)
    refine bodyPost_ret (results_FB Try.results35 _ _ (w.heap.size + 1) (.int .i64 0) (.int .i64 0) _ rfl rfl (E.cell rfl) (E.cell rfl)) rfl ?_
    refine ⟨by rw [HH.out, HB.out]; rfl, ?_⟩
    iterate 2 refine Fr.setCell ?_ (by dsimp only; omega) _
    exact hF1
  · have HB := Lib.hid h
    have HH : Hid (hvV P W X x s u v = envP P W X x.toNat) := Lib.hid (by rw [hvV, h]; rfl)
    obtain ⟨t1, t2, t3, t4⟩ := houseB_parts h
    have Ht := Lib.hid t1; have Hx := Lib.hid t2
    rw [HP.out] at t4
    obtain ⟨y, rfl⟩ := Int.eq_ofNat_of_zero_le t3
    have hn : n ≤ 24 := by have := (treeB_iff.1 t1).1.2; rw [HP.out] at this; exact this
    clear t1 t2 t3
    have c0 := G0.out.cell (j := 0) rfl; have c1 := G0.out.cell (j := 1) rfl; have c2 := G0.out.cell (j := 2) rfl
    go_wp2_with fail
    clear c0 c1 c2 h
    refine (impl_EnvelopeOf_yes _ _ _ _ _ _ _ _ _ _ _ _ _ (hP.fr hF1) (hW.fr hF1) (hX.fr hF1) Ht.out Hx.out).mono ?_
    rintro e w2 ⟨a2, n2, k2, rfl, o2, f2, _⟩
    have N2 : n2 = n := by rw [← o2.len, envM_len, HP.out]
    subst N2
    obtain ⟨g2, rfl, hg1, hg2, hcap, hc⟩ := o2.op (by omega)
    obtain ⟨e0, e1⟩ := hc y (by omega)
    rw [envM_nth (by rw [HP.out]; omega), Nat.mul_comm 2 y] at e0 e1
    have c3 := (G0.out.fr f2).cell (j := 3) rfl
    have J1 := Lib.hid (G1.out.fr f2)
    have j0 := J1.out.cell (j := 0) rfl; have j1 := J1.out.cell (j := 1) rfl
    have i0 := J1.out.free 0; have i1 := J1.out.free 1
    have hzz := hF1.size
    have E := (J1.out.set 0 (.int .i64 (envP P W X y).1)).set 1 (.int .i64 (envP P W X y).2)
    simp only [List.setIfInBounds_toArray, List.set_cons_zero, List.set_cons_succ] at E
    go_wp2
    refine bodyPost_ret (results_FB Try.results35 _ _ (w.heap.size + 1) (.int .i64 (envP P W X y).1) (.int .i64 (envP P W X y).2) _ rfl rfl (E.cell rfl) (E.cell rfl)) rfl ?_
    refine ⟨by rw [HH.out, HB.out]; rfl, ?_⟩
    iterate 2 refine Fr.setCell ?_ (by dsimp only; omega) _
    exact hF1.trans f2

set_option maxRecDepth 100000 in
theorem spec_HouseValue_any (w : World) (p q a : Option Addr) (n c m d l b : Nat) (P W X : List Int) (x s u v : Int) (hP : SL w p n c P) (hW : SL w q m d W) (hX : SL w a l b X) :
    Calls Try.prog 34 #[.agg #[.slice p n c, .slice q m d, .slice a l b, .int .i64 x, .int .i64 s, .int .i64 u, .int .i64 v]] w fun e w' => e = .returned (.tuple #[.agg #[.int .i64 (hvV P W X x s u v).1, .int .i64 (hvV P W X x s u v).2], .bool (houseB P W X x s u v)]) ∧ Fr w w' := by
  have HP := Lib.hid hP.len
  have hfr : Fr w ((w.alloc (.cells #[.slice p n c, .slice q m d, .slice a l b, .int .i64 x, .int .i64 s, .int .i64 u, .int .i64 v] 31)).alloc (.cells #[.int .i64 0, .int .i64 0] 46)) := ((Fr.refl w).alloc _).alloc _
  have hb0 := (Blk.new w #[.slice p n c, .slice q m d, .slice a l b, .int .i64 x, .int .i64 s, .int .i64 u, .int .i64 v] 31).alloc (.cells #[.int .i64 0, .int .i64 0] 46)
  have hb1 := Blk.new (w.alloc (.cells #[.slice p n c, .slice q m d, .slice a l b, .int .i64 x, .int .i64 s, .int .i64 u, .int .i64 v] 31)) #[.int .i64 0, .int .i64 0] 46
  rw [World.size_alloc] at hb1
  have H0 := Lib.hid hb0; have H1 := Lib.hid hb1
  clear hb0 hb1
  have c0 := H0.out.cell (j := 0) rfl; have c1 := H0.out.cell (j := 1) rfl; have c2 := H0.out.cell (j := 2) rfl; have c3 := H0.out.cell (j := 3) rfl; have c4 := H0.out.cell (j := 4) rfl; have c5 := H0.out.cell (j := 5) rfl; have c6 := H0.out.cell (j := 6) rfl
  go_enter Try.func34, Try.ntmps34
  go_wp2_with fail
  clear c0 c1 c2 c3 c4 c5 c6
  refine (l12Good_any _ _ _ _ _ _ _ _ _ _ _ _ _ (hP.fr hfr) (hW.fr hfr) (hX.fr hfr) _ _ _ _).mono ?_
  rintro e w1 ⟨rfl, f1⟩
  have hF1 := hfr.trans f1
  have G0 := Lib.hid (H0.out.fr f1); have G1 := Lib.hid (H1.out.fr f1)
  cases h : houseB P W X x s u v
  · have HB := Lib.hid h
    have HH : Hid (hvV P W X x s u v = (0, 0)) := Lib.hid (by rw [hvV, h]; rfl)
    have j0 := G1.out.cell (j := 0) rfl; have j1 := G1.out.cell (j := 1) rfl
    have i0 := G1.out.free 0; have i1 := G1.out.free 1
    go_wp2
    have E := (G1.out.set 0 (.int .i64 0)).set 1 (.int .i64 0)
    refine bodyPost_ret (results_FB Try.results34 _ _ (w.heap.size + 1) (.int .i64 0) (.int .i64 0) _ rfl rfl (E.cell rfl) (E.cell rfl)) rfl ?_
    refine ⟨by rw [HH.out, HB.out]; rfl, ?_⟩
    iterate 2 refine Fr.setCell ?_ (by dsimp only; omega) _
    exact hF1
  · have HB := Lib.hid h
    have HH : Hid (hvV P W X x s u v = envP P W X x.toNat) := Lib.hid (by rw [hvV, h]; rfl)
    obtain ⟨t1, t2, t3, t4⟩ := houseB_parts h
    have Ht := Lib.hid t1; have Hx := Lib.hid t2
    rw [HP.out] at t4
    obtain ⟨y, rfl⟩ := Int.eq_ofNat_of_zero_le t3
    have hn : n ≤ 24 := by have := (treeB_iff.1 t1).1.2; rw [HP.out] at this; exact this
    clear t1 t2 t3
    have c0 := G0.out.cell (j := 0) rfl; have c1 := G0.out.cell (j := 1) rfl; have c2 := G0.out.cell (j := 2) rfl
    go_wp2_with fail
    clear c0 c1 c2 h
    refine (spec_EnvelopeOf_yes _ _ _ _ _ _ _ _ _ _ _ _ _ (hP.fr hF1) (hW.fr hF1) (hX.fr hF1) Ht.out Hx.out).mono ?_
    rintro e w2 ⟨a2, n2, k2, rfl, o2, f2, _⟩
    have N2 : n2 = n := by rw [← o2.len, envM_len, HP.out]
    subst N2
    obtain ⟨g2, rfl, hg1, hg2, hcap, hc⟩ := o2.op (by omega)
    obtain ⟨e0, e1⟩ := hc y (by omega)
    rw [envM_nth (by rw [HP.out]; omega), Nat.mul_comm 2 y] at e0 e1
    have c3 := (G0.out.fr f2).cell (j := 3) rfl
    have J1 := Lib.hid (G1.out.fr f2)
    have j0 := J1.out.cell (j := 0) rfl; have j1 := J1.out.cell (j := 1) rfl
    have i0 := J1.out.free 0; have i1 := J1.out.free 1
    have hzz := hF1.size
    have E := (J1.out.set 0 (.int .i64 (envP P W X y).1)).set 1 (.int .i64 (envP P W X y).2)
    simp only [List.setIfInBounds_toArray, List.set_cons_zero, List.set_cons_succ] at E
    go_wp2
    refine bodyPost_ret (results_FB Try.results34 _ _ (w.heap.size + 1) (.int .i64 (envP P W X y).1) (.int .i64 (envP P W X y).2) _ rfl rfl (E.cell rfl) (E.cell rfl)) rfl ?_
    refine ⟨by rw [HH.out, HB.out]; rfl, ?_⟩
    iterate 2 refine Fr.setCell ?_ (by dsimp only; omega) _
    exact hF1.trans f2

end Go.Proofs.Ytojipjjfndgbhaa
