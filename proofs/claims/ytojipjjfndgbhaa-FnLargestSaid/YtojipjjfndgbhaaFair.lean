import Derived.Test.YtojipjjfndgbhaaFairM
import Derived.Test.YtojipjjfndgbhaaDeal
import Derived.Test.YtojipjjfndgbhaaCur
/- Contracts of drifts, IsFairProcess, IsFalling. -/
set_option linter.unusedVariables false
namespace Go.Proofs.Ytojipjjfndgbhaa
open Go.ChangeShapes Go.WideShapes Go.ChangeAt Go.RowKit
set_option maxRecDepth 100000 in
set_option maxHeartbeats 1000000 in
theorem drifts_any (w : World) (p q a : Option Addr) (n c m d l b : Nat) (P W X : List Int) (hP : SL w p n c P) (hW : SL w q m d W) (hX : SL w a l b X) (ht : treeB P W = true) (hx : procB P X = true) :
    Calls Try.prog 111 #[.agg #[.slice p n c, .slice q m d], .slice a l b] w (RetP (drM P W X) w) := by
  have HP := Lib.hid hP.len
  have HX := Lib.hid hX.len
  have Ht := Lib.hid ht
  have hfr : Fr w (w.alloc (.cells #[.slice p n c, .slice q m d] 29)) := (Fr.refl w).alloc _
  have H0 := Lib.hid (Blk.new w #[.slice p n c, .slice q m d] 29)
  have hln : l = n := by rw [← HX.out, ← HP.out]; exact (procB_iff.1 hx).1
  subst hln
  have Hv := Lib.hid (nth_bd (procB_iff.1 hx).2 (by omega) (by omega))
  obtain ⟨t1, t2, t3, _⟩ := treeB_iff.1 ht
  rw [HP.out] at t1
  have N4' : Hid ((gathM P W).length = l) := Lib.hid (by rw [gathM, gathTo_len, t2, HP.out])
  clear t2 t3 ht hx
  go_enter Try.func111, Try.ntmps111
  go_upto_region 1 with fail
  generalize hw1 : w.alloc (.cells #[.slice p l c, .slice q m d] 29) = w1 at hfr H0 ⊢
  have z1 : w1.heap.size = w.heap.size + 1 := by rw [← hw1]; simp
  have Z1 := Lib.hid z1
  clear hw1 z1
  have fa : Fr w1 (w1.alloc (.cells #[] 46)) := (Fr.refl _).alloc _
  have hF1 := hfr.trans fa
  have c0 := (H0.out.fr fa).cell (j := 0) rfl; have c1 := (H0.out.fr fa).cell (j := 1) rfl
  go_wp2_with fail
  clear c0 c1
  refine (sums_any _ _ _ _ _ _ _ _ _ (hP.fr hF1) (hW.fr hF1) Ht.out).mono ?_
  rintro e w3 ⟨a4, n4, k4, rfl, o4, f3, _⟩
  have N4 : n4 = l := by rw [← o4.len, N4'.out]
  subst N4
  have zz := World.size_alloc w1 (.cells #[] 46)
  have oP := (OwnP.made0 w1 (Nat.le_refl _)).fr f3
  have oS := o4.mono (show w1.heap.size ≤ (w1.alloc (.cells #[] 46)).heap.size by omega)
  have y4 := o4.within
  have ap4 : Apart (some ⟨w1.heap.size, 0, none⟩) a4 := fun k h1 h2 => by simp only [blkOf, Option.map_some, Option.some.injEq] at h1; have := y4 k h2; omega
  have hF : Fr w1 w3 := fa.trans f3
  clear o4 y4 f3 fa hF1
  have Hs := Lib.hid (sums_pos Ht.out)
  have Hl := Lib.hid (sums_le Ht.out)
  go_wp2
  go_loopw [5, 19] (fun v i wr => ∃ (k cc : Nat) (ap : Option Addr), k ≤ n4 ∧ i = .int .i64 k ∧ v = .slice ap k cc ∧ OwnP w1.heap.size wr ap k cc (drTo P W X k) ∧ Own w1.heap.size wr a4 n4 k4 (gathM P W) ∧ Apart ap a4 ∧ Fr w1 wr) (fun _ i _ => n4 - (intOf i).toNat)
  case atStart => exact ⟨0, 0, _, by omega, rfl, rfl, oP, oS, ap4, hF⟩
  case round =>
    clear oP oS ap4 hF
    obtain ⟨k, cc, ap, hk, rfl, rfl, oP, oS, ap4, hF⟩ := hrel
    obtain ⟨wo, rfl⟩ : ∃ wo : World, wo = wr := ⟨_, rfl⟩
    by_cases hlt : k < n4
    · have vk0 : (0 : Int) ≤ (k : Int) := by omega
      have vk : (k : Int) < (n4 : Int) := by omega
      have c0 := (H0.out.fr hF).cell (j := 0) rfl; have c1 := (H0.out.fr hF).cell (j := 1) rfl
      go_wp2_with fail
      clear c0 c1
      refine (children_any _ p q n4 c m d k P (hP.fr (hfr.trans hF)) (by omega)).mono ?_
      rintro e w4 ⟨a5, n5, k5, rfl, o5, f4, _⟩
      have S5 := o5.sl
      have HK := Lib.hid S5.len
      have oP2 := oP.fr f4
      have oS2 := oS.fr f4
      have hF2 := hF.trans f4
      have h5 : n5 ≤ 24 := by have := HK.out; have := kidsTo_len P k n4; omega
      clear o5 oP oS hF f4
      go_wp2
      go_loopw [8, 27] (fun s i wr => ∃ t : Nat, t ≤ n5 ∧ i = .int .i64 t ∧ s = .int .i64 (lsum (drF P W X k) ((kidsTo P k n4).take t)) ∧ Qt w4 wr) (fun _ i _ => n5 - (intOf i).toNat)
      case atStart => exact ⟨0, Nat.zero_le _, rfl, by rw [lsum_zero], Qt.refl _⟩
      case round =>
        obtain ⟨t, ht5, rfl, rfl, hQ⟩ := hrel
        by_cases htl : t < n5
        · obtain ⟨y, hy, hyn, _⟩ := kids_nth (P := P) (x := k) (k := n4) (i := t) (by rw [HK.out]; exact htl)
          obtain ⟨b5, of5, rfl, q5⟩ := (S5.qt hQ).cells.resolve_left (by omega)
          replace q5 := q5 t htl
          rw [hy] at q5
          have HT : Hid (lsum (drF P W X k) ((kidsTo P k n4).take (t + 1)) = lsum (drF P W X k) ((kidsTo P k n4).take t) + nth (gathM P W) y * (nth X y - nth X k)) := Lib.hid (by
            rw [lsum_take (by rw [HK.out]; exact htl), hy]; rfl)
          clear hy
          obtain ⟨gs, rfl, _, _, q4, _⟩ := (oS2.fr hQ.fr).op (by omega)
          replace q4 := q4 y hyn
          obtain ⟨bx, ox, rfl, qx⟩ := (hX.fr (hfr.trans (hF2.trans hQ.fr))).cells.resolve_left (by omega)
          have qy := qx y hyn
          replace qx := qx k hlt
          have vt0 : (0 : Int) ≤ (t : Int) := by omega
          have vt : (t : Int) < (n5 : Int) := by omega
          have vy0 : (0 : Int) ≤ (y : Int) := by omega
          have vy : (y : Int) < (n4 : Int) := by omega
          have b1 := Hv.out y; have b2 := Hv.out k
          have b3 := drF_bd Ht.out Hv.out k y
          have b4 := kids_bd Ht.out Hv.out k ((kidsTo P k n4).take t) (by have := List.length_take_le t (kidsTo P k n4); omega)
          rw [drF] at b3
          generalize lsum (drF P W X k) ((kidsTo P k n4).take t) = z at HT b4 ⊢
          have e1 : IntKind.i64.wrap (nth X y - nth X k) = nth X y - nth X k := IntWalk.i64_in _ (by omega)
          have e2 : IntKind.i64.wrap (nth (gathM P W) y * (nth X y - nth X k)) = nth (gathM P W) y * (nth X y - nth X k) := IntWalk.i64_in _ (by omega)
          have e3 : IntKind.i64.wrap (z + nth (gathM P W) y * (nth X y - nth X k)) = z + nth (gathM P W) y * (nth X y - nth X k) := IntWalk.i64_in _ (by omega)
          go_wp2
          go_quiet (fail)
          clear e1 e2 e3
          go_wp2
          go_roundw
          case rel => exact ⟨t + 1, by omega, by go_num, by rw [HT.out], hQ.drewN _⟩
          case measure => simp [intOf]; omega
        · obtain rfl : t = n5 := by omega
          have hT : lsum (drF P W X k) ((kidsTo P k n4).take t) = drA P W X k := by rw [List.take_of_length_le (by rw [HK.out]; omega), ← HP.out, drA_kids]
          rw [hT]
          clear hT
          have oP3 := oP2.fr hQ.fr
          have oS3 := oS2.fr hQ.fr
          have hF3 := hF2.trans hQ.fr
          clear oP2 oS2 hF2 hQ S5
          obtain ⟨g4, rfl, hB4, hl4, hc4, _⟩ := oS3.op (by omega)
          replace hc4 := hc4 k hlt
          have b1 := drA_bd Ht.out Hv.out k
          have b2 := Hs.out k (by rw [HP.out]; exact hlt)
          have b3 := Hl.out k
          have HM := Lib.hid (drTo_succ P W X k)
          rw [drP] at HM
          generalize drA P W X k = da at b1 HM ⊢
          generalize nth (gathM P W) k = ds at b2 b3 HM hc4
          have hsz := hF3.size
          go_wp2_with fail
          refine (lowest_any _ _ _ (by omega) (by omega)).mono ?_
          rintro e w5 ⟨rfl, f2⟩
          have oP4 := oP3.fr f2
          have oS4 := oS3.fr f2
          have hF4 := hF3.trans f2
          have hsz2 := hF4.size
          clear oP3 oS3 hF3 f2
          have fa : Fr w5 ((w5.alloc (.cells #[.int .i64 (lowA da ds), .int .i64 (lowB da ds)] 46)).alloc (.cells #[.int .i64 (lowA da ds), .int .i64 (lowB da ds)] 46)) := ((Fr.refl _).alloc _).alloc _
          have Bn := Blk.new (w5.alloc (.cells #[.int .i64 (lowA da ds), .int .i64 (lowB da ds)] 46)) #[.int .i64 (lowA da ds), .int .i64 (lowB da ds)] 46
          rw [World.size_alloc] at Bn
          have HBn := Lib.hid Bn
          clear Bn
          go_wp2_with (at_builtin; refine ap_pair _ rfl _ _ rfl w1.heap.size ap k cc (drTo P W X k) _ _ (w5.heap.size + 1) rfl rfl (oP4.fr fa) (by simp; omega) (HBn.out.cell (j := 0) rfl) (HBn.out.cell (j := 1) rfl) (by omega) (w5.heap.size + 1 + 1) (by simp) ?_)
          intro g' c' w' q1 q2 q3
          have oS5 := (oS4.fr fa).grown q2 (by
            cases hx : blkOf (some (⟨g4, 0, none⟩ : Addr)) with
            | none => exact .inl rfl
            | some z => exact .inr fun e => ap4 z e.symm hx)
          have n4' : Apart (some ⟨g', 0, none⟩) (some ⟨g4, 0, none⟩) := by
            intro z h1 h2
            simp only [blkOf, Option.map_some, Option.some.injEq] at h1
            subst h1
            rcases q3 with h | h
            · exact ap4 _ h h2
            · have := (oS4.blk _ h2).2; omega
          have hF5 := (hF4.trans fa).grown q2 (fun z hz => (oP4.blk z hz).1)
          go_wp2
          go_roundw
          case rel => exact ⟨k + 1, c', _, by omega, by go_num, rfl, by rw [HM.out]; exact q1, oS5, n4', hF5⟩
          case measure => simp [intOf]; omega
    · obtain rfl : k = n4 := by omega
      have HM : Hid (drTo P W X k = drM P W X) := Lib.hid (by rw [drM, HP.out])
      rw [HM.out] at oP
      have z1 := Z1.out
      go_wp2
      go_ret
      exact ⟨_, _, _, rfl, oP.mono (by omega), hfr.trans hF, by omega⟩
theorem l3B_no1 {P W X : List Int} (h : treeB P W = false) : l3B P W X = false := by rw [l3B, h]; rfl
theorem l3B_no2 {P W X : List Int} (h : procB P X = false) : l3B P W X = false := by rw [l3B, h]; simp
theorem fit_A {P W X : List Int} (ht : treeB P W = true) (hX : ∀ i, -999 ≤ nth X i ∧ nth X i ≤ 999) {x : Nat} (hx : x < P.length) : (-1000000000 ≤ drA P W X x ∧ drA P W X x ≤ 1000000000) ∧ (0 < nth (gathM P W) x ∧ nth (gathM P W) x ≤ 1000000) := by
  have h1 := drA_bd ht hX x
  have h2 := sums_pos ht x hx
  have h3 := sums_le ht x
  omega
set_option maxRecDepth 100000 in
set_option maxHeartbeats 1000000 in
theorem IsFairProcess_any (w : World) (p q a : Option Addr) (n c m d l b : Nat) (P W X : List Int) (hP : SL w p n c P) (hW : SL w q m d W) (hX : SL w a l b X) :
    Calls Try.prog 65 #[.agg #[.slice p n c, .slice q m d], .slice a l b] w fun e w' => e = .returned (.tuple #[.bool (flatV P W X), .bool (l3B P W X)]) ∧ Fr w w' := by
  have HP := Lib.hid hP.len
  have HX := Lib.hid hX.len
  have hfr : Fr w (w.alloc (.cells #[.slice p n c, .slice q m d] 29)) := (Fr.refl w).alloc _
  have H0 := Lib.hid (Blk.new w #[.slice p n c, .slice q m d] 29)
  have c0 := H0.out.cell (j := 0) rfl; have c1 := H0.out.cell (j := 1) rfl
  go_enter Try.func65, Try.ntmps65
  go_wp2_with fail
  clear c0 c1
  refine (IsTree_any _ _ _ _ _ _ _ _ _ (hP.fr hfr) (hW.fr hfr)).mono ?_
  rintro e w1 ⟨rfl, f1⟩
  have G1 := Lib.hid (H0.out.fr f1)
  have hF1 := hfr.trans f1
  cases h1 : treeB P W
  · have HB : Hid (flatV P W X = false ∧ l3B P W X = false) := Lib.hid ⟨by rw [flatV, l3B_no1 h1]; rfl, l3B_no1 h1⟩
    go_wp2
    go_ret2
    exact ⟨by rw [HB.out.1, HB.out.2]; rfl, hF1⟩
  have c0 := G1.out.cell (j := 0) rfl; have c1 := G1.out.cell (j := 1) rfl
  have H1 := Lib.hid h1
  go_wp2_with fail
  clear c0 c1 h1
  refine (isProcess_any _ _ _ _ _ _ _ _ _ _ _ W _ (hP.fr hF1) (hX.fr hF1)).mono ?_
  rintro e w2 ⟨rfl, f2⟩
  have G2 := Lib.hid (G1.out.fr f2)
  have hF2 := hF1.trans f2
  cases h2 : procB P X
  · have HB : Hid (flatV P W X = false ∧ l3B P W X = false) := Lib.hid ⟨by rw [flatV, l3B_no2 h2]; rfl, l3B_no2 h2⟩
    go_wp2
    go_ret2
    exact ⟨by rw [HB.out.1, HB.out.2]; rfl, hF2⟩
  have H2 := Lib.hid h2
  have HB : Hid (l3B P W X = true) := Lib.hid (by rw [l3B, H1.out, h2]; rfl)
  have HD : Hid (flatV P W X = flatB P W X) := Lib.hid (by rw [flatV, HB.out]; rfl)
  have Hv := Lib.hid (nth_bd (procB_iff.1 h2).2 (by omega) (by omega))
  have t1 := (treeB_iff.1 H1.out).1
  rw [HP.out] at t1
  have c0 := G2.out.cell (j := 0) rfl; have c1 := G2.out.cell (j := 1) rfl
  go_wp2_with fail
  clear c0 c1 h2
  refine (drifts_any _ _ _ _ _ _ _ _ _ _ _ _ _ (hP.fr hF2) (hW.fr hF2) (hX.fr hF2) H1.out H2.out).mono ?_
  rintro e w3 ⟨a3, n3, k3, rfl, o3, f3, _⟩
  have N3 : n3 = n := by rw [← o3.len, drM_len, HP.out]
  subst N3
  have hF3 := hF2.trans f3
  clear f3
  go_wp2
  go_loopw [21] (fun i wr => ∃ k : Nat, k ≤ n3 ∧ i = .int .i64 k ∧ Hid (∀ x, x < k → drA P W X x = 0) ∧ Fr w3 wr) (fun i _ => n3 - (intOf i).toNat)
  case atStart => exact ⟨0, Nat.zero_le _, rfl, Lib.hid (fun x hx => by omega), Fr.refl _⟩
  case round =>
    obtain ⟨k, hk, rfl, hs, hF⟩ := hrel
    obtain ⟨wo, rfl⟩ : ∃ wo : World, wo = wr := ⟨_, rfl⟩
    by_cases hlt : k < n3
    · have vk0 : (0 : Int) ≤ (k : Int) := by omega
      have vk : (k : Int) < (n3 : Int) := by omega
      obtain ⟨g3, rfl, hB3, hl3, hcap, hc3⟩ := (o3.fr hF).op (by omega)
      obtain ⟨q1, q2⟩ := hc3 k hlt
      rw [drM_nth (by rw [HP.out]; exact hlt), drP] at q1 q2
      have HZ := Lib.hid (low_zero (fit_A H1.out Hv.out (x := k) (by rw [HP.out]; exact hlt)).1 (fit_A H1.out Hv.out (x := k) (by rw [HP.out]; exact hlt)).2)
      generalize hda : drA P W X k = da at q1 q2 HZ
      have HDA := Lib.hid hda
      clear hda hc3
      simp only [Nat.mul_comm 2 k] at q1 q2
      generalize lowA da (nth (gathM P W) k) = za at q1 HZ
      generalize lowB da (nth (gathM P W) k) = zb at q2
      have fb : Fr wo (wo.alloc (.cells #[.int .i64 za, .int .i64 zb] 46)) := (Fr.refl _).alloc _
      have Bn := Blk.new wo #[.int .i64 za, .int .i64 zb] 46
      have e0 := Bn.cell (j := 0) rfl
      have hF4 := hF.trans fb
      clear Bn fb
      by_cases hz : za ≠ 0
      · have hb : (za != 0) = true := by simp; omega
        have HB2 : Hid (flatB P W X = false) := Lib.hid (flatB_no (by rw [HP.out]; exact hlt) (by rw [HDA.out]; have := HZ.out; omega))
        clear hz
        go_wp2
        go_ret2
        exact ⟨by rw [HD.out, HB2.out, HB.out]; rfl, hF3.trans hF4⟩
      · have hb : (za != 0) = false := by simp; omega
        have HS2 : Hid (∀ x, x < k + 1 → drA P W X x = 0) := Lib.hid (fun x hx => by
          by_cases e : x = k
          · subst e; show drA P W X x = 0; have := HZ.out; have := HDA.out; omega
          · exact hs.out x (by omega))
        clear hz
        go_wp2
        go_roundw
        case rel => exact ⟨k + 1, by omega, by go_num, HS2, hF4⟩
        case measure => simp [intOf]; omega
    · obtain rfl : k = n3 := by omega
      have HB2 : Hid (flatB P W X = true) := Lib.hid (flatB_iff.2 (by rw [HP.out]; exact hs.out))
      go_wp2
      go_ret2
      exact ⟨by rw [HD.out, HB2.out, HB.out]; rfl, hF3.trans hF⟩
set_option maxRecDepth 100000 in
set_option maxHeartbeats 1000000 in
theorem IsFalling_any (w : World) (p q a : Option Addr) (n c m d l b : Nat) (P W X : List Int) (hP : SL w p n c P) (hW : SL w q m d W) (hX : SL w a l b X) :
    Calls Try.prog 66 #[.agg #[.slice p n c, .slice q m d], .slice a l b] w fun e w' => e = .returned (.tuple #[.bool (fallV P W X), .bool (l3B P W X)]) ∧ Fr w w' := by
  have HP := Lib.hid hP.len
  have HX := Lib.hid hX.len
  have hfr : Fr w (w.alloc (.cells #[.slice p n c, .slice q m d] 29)) := (Fr.refl w).alloc _
  have H0 := Lib.hid (Blk.new w #[.slice p n c, .slice q m d] 29)
  have c0 := H0.out.cell (j := 0) rfl; have c1 := H0.out.cell (j := 1) rfl
  go_enter Try.func66, Try.ntmps66
  go_wp2_with fail
  clear c0 c1
  refine (IsTree_any _ _ _ _ _ _ _ _ _ (hP.fr hfr) (hW.fr hfr)).mono ?_
  rintro e w1 ⟨rfl, f1⟩
  have G1 := Lib.hid (H0.out.fr f1)
  have hF1 := hfr.trans f1
  cases h1 : treeB P W
  · have HB : Hid (fallV P W X = false ∧ l3B P W X = false) := Lib.hid ⟨by rw [fallV, l3B_no1 h1]; rfl, l3B_no1 h1⟩
    go_wp2
    go_ret2
    exact ⟨by rw [HB.out.1, HB.out.2]; rfl, hF1⟩
  have c0 := G1.out.cell (j := 0) rfl; have c1 := G1.out.cell (j := 1) rfl
  have H1 := Lib.hid h1
  go_wp2_with fail
  clear c0 c1 h1
  refine (isProcess_any _ _ _ _ _ _ _ _ _ _ _ W _ (hP.fr hF1) (hX.fr hF1)).mono ?_
  rintro e w2 ⟨rfl, f2⟩
  have G2 := Lib.hid (G1.out.fr f2)
  have hF2 := hF1.trans f2
  cases h2 : procB P X
  · have HB : Hid (fallV P W X = false ∧ l3B P W X = false) := Lib.hid ⟨by rw [fallV, l3B_no2 h2]; rfl, l3B_no2 h2⟩
    go_wp2
    go_ret2
    exact ⟨by rw [HB.out.1, HB.out.2]; rfl, hF2⟩
  have H2 := Lib.hid h2
  have HB : Hid (l3B P W X = true) := Lib.hid (by rw [l3B, H1.out, h2]; rfl)
  have HD : Hid (fallV P W X = fallB P W X) := Lib.hid (by rw [fallV, HB.out]; rfl)
  have Hv := Lib.hid (nth_bd (procB_iff.1 h2).2 (by omega) (by omega))
  have t1 := (treeB_iff.1 H1.out).1
  rw [HP.out] at t1
  have c0 := G2.out.cell (j := 0) rfl; have c1 := G2.out.cell (j := 1) rfl
  go_wp2_with fail
  clear c0 c1 h2
  refine (drifts_any _ _ _ _ _ _ _ _ _ _ _ _ _ (hP.fr hF2) (hW.fr hF2) (hX.fr hF2) H1.out H2.out).mono ?_
  rintro e w3 ⟨a3, n3, k3, rfl, o3, f3, _⟩
  have N3 : n3 = n := by rw [← o3.len, drM_len, HP.out]
  subst N3
  have hF3 := hF2.trans f3
  clear f3
  go_wp2
  go_loopw [21] (fun i wr => ∃ k : Nat, k ≤ n3 ∧ i = .int .i64 k ∧ Hid (∀ x, x < k → drA P W X x ≤ 0) ∧ Fr w3 wr) (fun i _ => n3 - (intOf i).toNat)
  case atStart => exact ⟨0, Nat.zero_le _, rfl, Lib.hid (fun x hx => by omega), Fr.refl _⟩
  case round =>
    obtain ⟨k, hk, rfl, hs, hF⟩ := hrel
    obtain ⟨wo, rfl⟩ : ∃ wo : World, wo = wr := ⟨_, rfl⟩
    by_cases hlt : k < n3
    · have vk0 : (0 : Int) ≤ (k : Int) := by omega
      have vk : (k : Int) < (n3 : Int) := by omega
      obtain ⟨g3, rfl, hB3, hl3, hcap, hc3⟩ := (o3.fr hF).op (by omega)
      obtain ⟨q1, q2⟩ := hc3 k hlt
      rw [drM_nth (by rw [HP.out]; exact hlt), drP] at q1 q2
      have HZ := Lib.hid (low_posA (fit_A H1.out Hv.out (x := k) (by rw [HP.out]; exact hlt)).1 (fit_A H1.out Hv.out (x := k) (by rw [HP.out]; exact hlt)).2)
      generalize hda : drA P W X k = da at q1 q2 HZ
      have HDA := Lib.hid hda
      clear hda hc3
      simp only [Nat.mul_comm 2 k] at q1 q2
      generalize lowA da (nth (gathM P W) k) = za at q1 HZ
      generalize lowB da (nth (gathM P W) k) = zb at q2
      have fb : Fr wo (wo.alloc (.cells #[.int .i64 za, .int .i64 zb] 46)) := (Fr.refl _).alloc _
      have Bn := Blk.new wo #[.int .i64 za, .int .i64 zb] 46
      have e0 := Bn.cell (j := 0) rfl
      have hF4 := hF.trans fb
      clear Bn fb
      by_cases hz : 0 < za
      · have hb : decide (0 < za) = true := by simp; omega
        have HB2 : Hid (fallB P W X = false) := Lib.hid (fallB_no (by rw [HP.out]; exact hlt) (by rw [HDA.out]; have := HZ.out; omega))
        clear hz
        go_wp2
        go_ret2
        exact ⟨by rw [HD.out, HB2.out, HB.out]; rfl, hF3.trans hF4⟩
      · have hb : decide (0 < za) = false := by simp; omega
        have HS2 : Hid (∀ x, x < k + 1 → drA P W X x ≤ 0) := Lib.hid (fun x hx => by
          by_cases e : x = k
          · subst e; show drA P W X x ≤ 0; have := HZ.out; have := HDA.out; omega
          · exact hs.out x (by omega))
        clear hz
        go_wp2
        go_roundw
        case rel => exact ⟨k + 1, by omega, by go_num, HS2, hF4⟩
        case measure => simp [intOf]; omega
    · obtain rfl : k = n3 := by omega
      have HB2 : Hid (fallB P W X = true) := Lib.hid (fallB_iff.2 (by rw [HP.out]; exact hs.out))
      go_wp2
      go_ret2
      exact ⟨by rw [HD.out, HB2.out, HB.out]; rfl, hF3.trans hF⟩
end Go.Proofs.Ytojipjjfndgbhaa
