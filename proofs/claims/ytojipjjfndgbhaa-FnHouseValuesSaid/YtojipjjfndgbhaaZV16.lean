import Derived.Test.YtojipjjfndgbhaaZV15
import Derived.Test.YtojipjjfndgbhaaZV07
import Derived.Test.YtojipjjfndgbhaaZV01
import Derived.Deep.RegionHeld3
import Derived.Deep.DeepCutAuto
import Derived.Test.YtojipjjfndgbhaaZV04
/- Contracts of drifts, IsFairProcess, IsFalling. -/
set_option linter.unusedVariables false
namespace Go.Proofs.Ytojipjjfndgbhaa
open Go.ChangeShapes Go.WideShapes Go.ChangeAt Go.RowKit
set_option maxRecDepth 100000 in
set_option maxHeartbeats 1000000 in
theorem drifts_any (w : World) (p q a : Option Addr) (n c m d l b : Nat) (P W X : List Int) (hP : SL w p n c P) (hW : SL w q m d W) (hX : SL w a l b X) (ht : treeB P W = true) (hx : procB P X = true) :
    Calls Try.prog 111 #[.agg #[.slice p n c, .slice q m d], .slice a l b] w (RetP (drM P W X) w) := by
  have HP := Lib.hid hP.len
  have HX := Lib.hid hX.len
  have Ht := Lib.hid ht
  have hfr : Fr w (w.alloc (.cells #[.slice p n c, .slice q m d] 29)) := (Fr.refl w).alloc _
  have H0 := Lib.hid (Blk.new w #[.slice p n c, .slice q m d] 29)
  have hln : l = n := by rw [← HX.out, ← HP.out]; exact (procB_iff.1 hx).1
  subst hln
  have Hv := Lib.hid (nth_bd (procB_iff.1 hx).2 (by omega) (by omega))
  obtain ⟨t1, t2, t3, _⟩ := treeB_iff.1 ht
  rw [HP.out] at t1
  have N4' : Hid ((gathM P W).length = l) := Lib.hid (by rw [gathM, gathTo_len, t2, HP.out])
  clear t2 t3 ht hx
  go_enter Try.func111, Try.ntmps111
  go_upto_region 1 with fail
  generalize hw1 : w.alloc (.cells #[.slice p l c, .slice q m d] 29) = w1 at hfr H0 ⊢
  have z1 : w1.heap.size = w.heap.size + 1 := by rw [← hw1]; simp
  have Z1 := Lib.hid z1
  clear hw1 z1
  have fa : Fr w1 (w1.alloc (.cells #[] 46)) := (Fr.refl _).alloc _
  have hF1 := hfr.trans fa
  have c0 := (H0.out.fr fa).cell (j := 0) rfl; have c1 := (H0.out.fr fa).cell (j := 1) rfl
  go_wp2_with fail
  clear c0 c1
  refine (sums_any _ _ _ _ _ _ _ _ _ (hP.fr hF1) (hW.fr hF1) Ht.out).mono ?_
  rintro e w3 ⟨a4, n4, k4, rfl, o4, f3, _⟩
  have N4 : n4 = l := by rw [← o4.len, N4'.out]
  subst N4
  have zz := World.size_alloc w1 (.cells #[] 46)
  have oP := (OwnP.made0 w1 (Nat.le_refl _)).fr f3
  have oS := o4.mono (show w1.heap.size ≤ (w1.alloc (.cells #[] 46)).heap.size by omega)
  have y4 := o4.within
  have ap4 : Apart (some ⟨w1.heap.size, 0, none⟩) a4 := fun k h1 h2 => by simp only [blkOf, Option.map_some, Option.some.injEq] at h1; have := y4 k h2; omega
  have hF : Fr w1 w3 := fa.trans f3
  clear o4 y4 f3 fa hF1
  have Hs := Lib.hid (sums_pos Ht.out)
  have Hl := Lib.hid (sums_le Ht.out)
  go_wp2
  go_loopw [5, 19] (fun v i wr => ∃ (k cc : Nat) (ap : Option Addr), k ≤ n4 ∧ i = .int .i64 k ∧ v = .slice ap k cc ∧ OwnP w1.heap.size wr ap k cc (drTo P W X k) ∧ Own w1.heap.size wr a4 n4 k4 (gathM P W) ∧ Apart ap a4 ∧ Fr w1 wr) (fun _ i _ => n4 - (intOf i).toNat)
  case atStart => exact ⟨0, 0, _, by omega, rfl, rfl, oP, oS, ap4, hF⟩
  case round =>
    clear oP oS ap4 hF
    obtain ⟨k, cc, ap, hk, rfl, rfl, oP, oS, ap4, hF⟩ := hrel
    obtain ⟨wo, rfl⟩ : ∃ wo : World, wo = wr := ⟨_, rfl⟩
    by_cases hlt : k < n4
    · have vk0 : (0 : Int) ≤ (k : Int) := by omega
      have vk : (k : Int) < (n4 : Int) := by omega
      have c0 := (H0.out.fr hF).cell (j := 0) rfl; have c1 := (H0.out.fr hF).cell (j := 1) rfl
      go_wp2_with fail
      clear c0 c1
      refine (children_any _ p q n4 c m d k P (hP.fr (hfr.trans hF)) (by omega)).mono ?_
      rintro e w4 ⟨a5, n5, k5, rfl, o5, f4, _⟩
      have S5 := o5.sl
      have HK := Lib.hid S5.len
      have oP2 := oP.fr f4
      have oS2 := oS.fr f4
      have hF2 := hF.trans f4
      have h5 : n5 ≤ 24 := by have := HK.out; have := kidsTo_len P k n4; omega
      clear o5 oP oS hF f4
      go_wp2
      go_loopw [8, 27] (fun s i wr => ∃ t : Nat, t ≤ n5 ∧ i = .int .i64 t ∧ s = .int .i64 (lsum (drF P W X k) ((kidsTo P k n4).take t)) ∧ Qt w4 wr) (fun _ i _ => n5 - (intOf i).toNat)
      case atStart => exact ⟨0, Nat.zero_le _, rfl, by rw [lsum_zero], Qt.refl _⟩
      case round =>
        obtain ⟨t, ht5, rfl, rfl, hQ⟩ := hrel
        by_cases htl : t < n5
        · obtain ⟨y, hy, hyn, _⟩ := kids_nth (P := P) (x := k) (k := n4) (i := t) (by rw [HK.out]; exact htl)
          obtain ⟨b5, of5, rfl, q5⟩ := (S5.qt hQ).cells.resolve_left (by omega)
          replace q5 := q5 t htl
          rw [hy] at q5
          have HT : Hid (lsum (drF P W X k) ((kidsTo P k n4).take (t + 1)) = lsum (drF P W X k) ((kidsTo P k n4).take t) + nth (gathM P W) y * (nth X y - nth X k)) := Lib.hid (by
            rw [lsum_take (by rw [HK.out]; exact htl), hy]; rfl)
          clear hy
          obtain ⟨gs, rfl, _, _, q4, _⟩ := (oS2.fr hQ.fr).op (by omega)
          replace q4 := q4 y hyn
          obtain ⟨bx, ox, rfl, qx⟩ := (hX.fr (hfr.trans (hF2.trans hQ.fr))).cells.resolve_left (by omega)
          have qy := qx y hyn
          replace qx := qx k hlt
          have vt0 : (0 : Int) ≤ (t : Int) := by omega
          have vt : (t : Int) < (n5 : Int) := by omega
          have vy0 : (0 : Int) ≤ (y : Int) := by omega
          have vy : (y : Int) < (n4 : Int) := by omega
          have b1 := Hv.out y; have b2 := Hv.out k
          have b3 := drF_bd Ht.out Hv.out k y
          have b4 := kids_bd Ht.out Hv.out k ((kidsTo P k n4).take t) (by have := List.length_take_le t (kidsTo P k n4); omega)
          rw [drF] at b3
          generalize lsum (drF P W X k) ((kidsTo P k n4).take t) = z at HT b4 ⊢
          have e1 : IntKind.i64.wrap (nth X y - nth X k) = nth X y - nth X k := IntWalk.i64_in _ (by omega)
          have e2 : IntKind.i64.wrap (nth (gathM P W) y * (nth X y - nth X k)) = nth (gathM P W) y * (nth X y - nth X k) := IntWalk.i64_in _ (by omega)
          have e3 : IntKind.i64.wrap (z + nth (gathM P W) y * (nth X y - nth X k)) = z + nth (gathM P W) y * (nth X y - nth X k) := IntWalk.i64_in _ (by omega)
          go_wp2
          go_quiet (fail)
          clear e1 e2 e3
          go_wp2
          go_roundw
          case rel => exact ⟨t + 1, by omega, by go_num, by rw [HT.out], hQ.drewN _⟩
          case measure => simp [intOf]; omega
        · obtain rfl : t = n5 := by omega
          have hT : lsum (drF P W X k) ((kidsTo P k n4).take t) = drA P W X k := by rw [List.take_of_length_le (by rw [HK.out]; omega), ← HP.out, drA_kids]
          rw [hT]
          clear hT
          have oP3 := oP2.fr hQ.fr
          have oS3 := oS2.fr hQ.fr
          have hF3 := hF2.trans hQ.fr
          clear oP2 oS2 hF2 hQ S5
          obtain ⟨g4, rfl, hB4, hl4, hc4, _⟩ := oS3.op (by omega)
          replace hc4 := hc4 k hlt
          have b1 := drA_bd Ht.out Hv.out k
          have b2 := Hs.out k (by rw [HP.out]; exact hlt)
          have b3 := Hl.out k
          have HM := Lib.hid (drTo_succ P W X k)
          rw [drP] at HM
          generalize drA P W X k = da at b1 HM ⊢
          generalize nth (gathM P W) k = ds at b2 b3 HM hc4
          have hsz := hF3.size
          go_wp2_with fail
          refine (lowest_any _ _ _ (by omega) (by omega)).mono ?_
          rintro e w5 ⟨rfl, f2⟩
          have oP4 := oP3.fr f2
          have oS4 := oS3.fr f2
          have hF4 := hF3.trans f2
          have hsz2 := hF4.size
          clear oP3 oS3 hF3 f2
          have fa : Fr w5 ((w5.alloc (.cells #[.int .i64 (lowA da ds), .int .i64 (lowB da ds)] 46)).alloc (.cells #[.int .i64 (lowA da ds), .int .i64 (lowB da ds)] 46)) := ((Fr.refl _).alloc _).alloc _
          have Bn := Blk.new (w5.alloc (.cells #[.int .i64 (lowA da ds), .int .i64 (lowB da ds)] 46)) #[.int .i64 (lowA da ds), .int .i64 (lowB da ds)] 46
          rw [World.size_alloc] at Bn
          have HBn := Lib.hid Bn
          clear Bn
          go_wp2_with (at_builtin; refine ap_pair _ rfl _ _ rfl w1.heap.size ap k cc (drTo P W X k) _ _ (w5.heap.size + 1) rfl rfl (oP4.fr fa) (by simp; omega) (HBn.out.cell (j := 0) rfl) (HBn.out.cell (j := 1) rfl) (by omega) (w5.heap.size + 1 + 1) (by simp) ?_)
          intro g' c' w' q1 q2 q3
          have oS5 := (oS4.fr fa).grown q2 (by
            cases hx : blkOf (some (⟨g4, 0, none⟩ : Addr)) with
            | none => exact .inl rfl
            | some z => exact .inr fun e => ap4 z e.symm hx)
          have n4' : Apart (some ⟨g', 0, none⟩) (some ⟨g4, 0, none⟩) := by
            intro z h1 h2
            simp only [blkOf, Option.map_some, Option.some.injEq] at h1
            subst h1
            rcases q3 with h | h
            · exact ap4 _ h h2
            · have := (oS4.blk _ h2).2; omega
          have hF5 := (hF4.trans fa).grown q2 (fun z hz => (oP4.blk z hz).1)
          go_wp2
          go_roundw
          case rel => exact ⟨k + 1, c', _, by omega, by go_num, rfl, by rw [HM.out]; exact q1, oS5, n4', hF5⟩
          case measure => simp [intOf]; omega
    · obtain rfl : k = n4 := by omega
      have HM : Hid (drTo P W X k = drM P W X) := Lib.hid (by rw [drM, HP.out])
      rw [HM.out] at oP
      have z1 := Z1.out
      go_wp2
      go_ret
      exact ⟨_, _, _, rfl, oP.mono (by omega), hfr.trans hF, by omega⟩
theorem l3B_no1 {P W X : List Int} (h : treeB P W = false) : l3B P W X = false := by rw [l3B, h]; rfl
theorem l3B_no2 {P W X : List Int} (h : procB P X = false) : l3B P W X = false := by rw [l3B, h]; simp
theorem fit_A {P W X : List Int} (ht : treeB P W = true) (hX : ∀ i, -999 ≤ nth X i ∧ nth X i ≤ 999) {x : Nat} (hx : x < P.length) : (-1000000000 ≤ drA P W X x ∧ drA P W X x ≤ 1000000000) ∧ (0 < nth (gathM P W) x ∧ nth (gathM P W) x ≤ 1000000) := by
  have h1 := drA_bd ht hX x
  have h2 := sums_pos ht x hx
  have h3 := sums_le ht x
  omega
set_option maxRecDepth 100000 in
set_option maxHeartbeats 1000000 in
theorem IsFairProcess_any (w : World) (p q a : Option Addr) (n c m d l b : Nat) (P W X : List Int) (hP : SL w p n c P) (hW : SL w q m d W) (hX : SL w a l b X) :
    Calls Try.prog 65 #[.agg #[.slice p n c, .slice q m d], .slice a l b] w fun e w' => e = .returned (.tuple #[.bool (flatV P W X), .bool (l3B P W X)]) ∧ Fr w w' := by
  have HP := Lib.hid hP.len
  have HX := Lib.hid hX.len
  have hfr : Fr w (w.alloc (.cells #[.slice p n c, .slice q m d] 29)) := (Fr.refl w).alloc _
  have H0 := Lib.hid (Blk.new w #[.slice p n c, .slice q m d] 29)
  have c0 := H0.out.cell (j := 0) rfl; have c1 := H0.out.cell (j := 1) rfl
  go_enter Try.func65, Try.ntmps65
  go_wp2_with fail
  clear c0 c1
  refine (IsTree_any _ _ _ _ _ _ _ _ _ (hP.fr hfr) (hW.fr hfr)).mono ?_
  rintro e w1 ⟨rfl, f1⟩
  have G1 := Lib.hid (H0.out.fr f1)
  have hF1 := hfr.trans f1
  cases h1 : treeB P W
  · have HB : Hid (flatV P W X = false ∧ l3B P W X = false) := Lib.hid ⟨by rw [flatV, l3B_no1 h1]; rfl, l3B_no1 h1⟩
    go_wp2
    go_ret2
    exact ⟨by rw [HB.out.1, HB.out.2]; rfl, hF1⟩
  have c0 := G1.out.cell (j := 0) rfl; have c1 := G1.out.cell (j := 1) rfl
  have H1 := Lib.hid h1
  go_wp2_with fail
  clear c0 c1 h1
  refine (isProcess_any _ _ _ _ _ _ _ _ _ _ _ W _ (hP.fr hF1) (hX.fr hF1)).mono ?_
  rintro e w2 ⟨rfl, f2⟩
  have G2 := Lib.hid (G1.out.fr f2)
  have hF2 := hF1.trans f2
  cases h2 : procB P X
  · have HB : Hid (flatV P W X = false ∧ l3B P W X = false) := Lib.hid ⟨by rw [flatV, l3B_no2 h2]; rfl, l3B_no2 h2⟩
    go_wp2
    go_ret2
    exact ⟨by rw [HB.out.1, HB.out.2]; rfl, hF2⟩
  have H2 := Lib.hid h2
  have HB : Hid (l3B P W X = true) := Lib.hid (by rw [l3B, H1.out, h2]; rfl)
  have HD : Hid (flatV P W X = flatB P W X) := Lib.hid (by rw [flatV, HB.out]; rfl)
  have Hv := Lib.hid (nth_bd (procB_iff.1 h2).2 (by omega) (by omega))
  have t1 := (treeB_iff.1 H1.out).1
  rw [HP.out] at t1
  have c0 := G2.out.cell (j := 0) rfl; have c1 := G2.out.cell (j := 1) rfl
  go_wp2_with fail
  clear c0 c1 h2
  refine (drifts_any _ _ _ _ _ _ _ _ _ _ _ _ _ (hP.fr hF2) (hW.fr hF2) (hX.fr hF2) H1.out H2.out).mono ?_
  rintro e w3 ⟨a3, n3, k3, rfl, o3, f3, _⟩
  have N3 : n3 = n := by rw [← o3.len, drM_len, HP.out]
  subst N3
  have hF3 := hF2.trans f3
  clear f3
  go_wp2
  go_loopw [21] (fun i wr => ∃ k : Nat, k ≤ n3 ∧ i = .int .i64 k ∧ Hid (∀ x, x < k → drA P W X x = 0) ∧ Fr w3 wr) (fun i _ => n3 - (intOf i).toNat)
  case atStart => exact ⟨0, Nat.zero_le _, rfl, Lib.hid (fun x hx => by omega), Fr.refl _⟩
  case round =>
    obtain ⟨k, hk, rfl, hs, hF⟩ := hrel
    obtain ⟨wo, rfl⟩ : ∃ wo : World, wo = wr := ⟨_, rfl⟩
    by_cases hlt : k < n3
    · have vk0 : (0 : Int) ≤ (k : Int) := by omega
      have vk : (k : Int) < (n3 : Int) := by omega
      obtain ⟨g3, rfl, hB3, hl3, hcap, hc3⟩ := (o3.fr hF).op (by omega)
      obtain ⟨q1, q2⟩ := hc3 k hlt
      rw [drM_nth (by rw [HP.out]; exact hlt), drP] at q1 q2
      have HZ := Lib.hid (low_zero (fit_A H1.out Hv.out (x := k) (by rw [HP.out]; exact hlt)).1 (fit_A H1.out Hv.out (x := k) (by rw [HP.out]; exact hlt)).2)
      generalize hda : drA P W X k = da at q1 q2 HZ
      have HDA := Lib.hid hda
      clear hda hc3
      simp only [Nat.mul_comm 2 k] at q1 q2
      generalize lowA da (nth (gathM P W) k) = za at q1 HZ
      generalize lowB da (nth (gathM P W) k) = zb at q2
      have fb : Fr wo (wo.alloc (.cells #[.int .i64 za, .int .i64 zb] 46)) := (Fr.refl _).alloc _
      have Bn := Blk.new wo #[.int .i64 za, .int .i64 zb] 46
      have e0 := Bn.cell (j := 0) rfl
      have hF4 := hF.trans fb
      clear Bn fb
      by_cases hz : za ≠ 0
      · have hb : (za != 0) = true := by simp; omega
        have HB2 : Hid (flatB P W X = false) := Lib.hid (flatB_no (by rw [HP.out]; exact hlt) (by rw [HDA.out]; have := HZ.out; omega))
        clear hz
        go_wp2
        go_ret2
        exact ⟨by rw [HD.out, HB2.out, HB.out]; rfl, hF3.trans hF4⟩
      · have hb : (za != 0) = false := by simp; omega
        have HS2 : Hid (∀ x, x < k + 1 → drA P W X x = 0) := Lib.hid (fun x hx => by
          by_cases e : x = k
          · subst e; show drA P W X x = 0; have := HZ.out; have := HDA.out; omega
          · exact hs.out x (by omega))
        clear hz
        go_wp2
        go_roundw
        case rel => exact ⟨k + 1, by omega, by go_num, HS2, hF4⟩
        case measure => simp [intOf]; omega
    · obtain rfl : k = n3 := by omega
      have HB2 : Hid (flatB P W X = true) := Lib.hid (flatB_iff.2 (by rw [HP.out]; exact hs.out))
      go_wp2
      go_ret2
      exact ⟨by rw [HD.out, HB2.out, HB.out]; rfl, hF3.trans hF⟩
set_option maxRecDepth 100000 in
set_option maxHeartbeats 1000000 in
theorem IsFalling_any (w : World) (p q a : Option Addr) (n c m d l b : Nat) (P W X : List Int) (hP : SL w p n c P) (hW : SL w q m d W) (hX : SL w a l b X) :
    Calls Try.prog 66 #[.agg #[.slice p n c, .slice q m d], .slice a l b] w fun e w' => e = .returned (.tuple #[.bool (fallV P W X), .bool (l3B P W X)]) ∧ Fr w w' := by
  have HP := Lib.hid hP.len
  have HX := Lib.hid hX.len
  have hfr : Fr w (w.alloc (.cells #[.slice p n c, .slice q m d] 29)) := (Fr.refl w).alloc _
  have H0 := Lib.hid (Blk.new w #[.slice p n c, .slice q m d] 29)
  have c0 := H0.out.cell (j := 0) rfl; have c1 := H0.out.cell (j := 1) rfl
  go_enter Try.func66, Try.ntmps66
  go_wp2_with fail
  clear c0 c1
  refine (IsTree_any _ _ _ _ _ _ _ _ _ (hP.fr hfr) (hW.fr hfr)).mono ?_
  rintro e w1 ⟨rfl, f1⟩
  have G1 := Lib.hid (H0.out.fr f1)
  have hF1 := hfr.trans f1
  cases h1 : treeB P W
  · have HB : Hid (fallV P W X = false ∧ l3B P W X = false) := Lib.hid ⟨by rw [fallV, l3B_no1 h1]; rfl, l3B_no1 h1⟩
    go_wp2
    go_ret2
    exact ⟨by rw [HB.out.1, HB.out.2]; rfl, hF1⟩
  have c0 := G1.out.cell (j := 0) rfl; have c1 := G1.out.cell (j := 1) rfl
  have H1 := Lib.hid h1
  go_wp2_with fail
  clear c0 c1 h1
  refine (isProcess_any _ _ _ _ _ _ _ _ _ _ _ W _ (hP.fr hF1) (hX.fr hF1)).mono ?_
  rintro e w2 ⟨rfl, f2⟩
  have G2 := Lib.hid (G1.out.fr f2)
  have hF2 := hF1.trans f2
  cases h2 : procB P X
  · have HB : Hid (fallV P W X = false ∧ l3B P W X = false) := Lib.hid ⟨by rw [fallV, l3B_no2 h2]; rfl, l3B_no2 h2⟩
    go_wp2
    go_ret2
    exact ⟨by rw [HB.out.1, HB.out.2]; rfl, hF2⟩
  have H2 := Lib.hid h2
  have HB : Hid (l3B P W X = true) := Lib.hid (by rw [l3B, H1.out, h2]; rfl)
  have HD : Hid (fallV P W X = fallB P W X) := Lib.hid (by rw [fallV, HB.out]; rfl)
  have Hv := Lib.hid (nth_bd (procB_iff.1 h2).2 (by omega) (by omega))
  have t1 := (treeB_iff.1 H1.out).1
  rw [HP.out] at t1
  have c0 := G2.out.cell (j := 0) rfl; have c1 := G2.out.cell (j := 1) rfl
  go_wp2_with fail
  clear c0 c1 h2
  refine (drifts_any _ _ _ _ _ _ _ _ _ _ _ _ _ (hP.fr hF2) (hW.fr hF2) (hX.fr hF2) H1.out H2.out).mono ?_
  rintro e w3 ⟨a3, n3, k3, rfl, o3, f3, _⟩
  have N3 : n3 = n := by rw [← o3.len, drM_len, HP.out]
  subst N3
  have hF3 := hF2.trans f3
  clear f3
  go_wp2
  go_loopw [21] (fun i wr => ∃ k : Nat, k ≤ n3 ∧ i = .int .i64 k ∧ Hid (∀ x, x < k → drA P W X x ≤ 0) ∧ Fr w3 wr) (fun i _ => n3 - (intOf i).toNat)
  case atStart => exact ⟨0, Nat.zero_le _, rfl, Lib.hid (fun x hx => by omega), Fr.refl _⟩
  case round =>
    obtain ⟨k, hk, rfl, hs, hF⟩ := hrel
    obtain ⟨wo, rfl⟩ : ∃ wo : World, wo = wr := ⟨_, rfl⟩
    by_cases hlt : k < n3
    · have vk0 : (0 : Int) ≤ (k : Int) := by omega
      have vk : (k : Int) < (n3 : Int) := by omega
      obtain ⟨g3, rfl, hB3, hl3, hcap, hc3⟩ := (o3.fr hF).op (by omega)
      obtain ⟨q1, q2⟩ := hc3 k hlt
      rw [drM_nth (by rw [HP.out]; exact hlt), drP] at q1 q2
      have HZ := Lib.hid (low_posA (fit_A H1.out Hv.out (x := k) (by rw [HP.out]; exact hlt)).1 (fit_A H1.out Hv.out (x := k) (by rw [HP.out]; exact hlt)).2)
      generalize hda : drA P W X k = da at q1 q2 HZ
      have HDA := Lib.hid hda
      clear hda hc3
      simp only [Nat.mul_comm 2 k] at q1 q2
      generalize lowA da (nth (gathM P W) k) = za at q1 HZ
      generalize lowB da (nth (gathM P W) k) = zb at q2
      have fb : Fr wo (wo.alloc (.cells #[.int .i64 za, .int .i64 zb] 46)) := (Fr.refl _).alloc _
      have Bn := Blk.new wo #[.int .i64 za, .int .i64 zb] 46
      have e0 := Bn.cell (j := 0) rfl
      have hF4 := hF.trans fb
      clear Bn fb
      by_cases hz : 0 < za
      · have hb : decide (0 < za) = true := by simp; omega
        have HB2 : Hid (fallB P W X = false) := Lib.hid (fallB_no (by rw [HP.out]; exact hlt) (by rw [HDA.out]; have := HZ.out; omega))
        clear hz
        go_wp2
        go_ret2
        exact ⟨by rw [HD.out, HB2.out, HB.out]; rfl, hF3.trans hF4⟩
      · have hb : decide (0 < za) = false := by simp; omega
        have HS2 : Hid (∀ x, x < k + 1 → drA P W X x ≤ 0) := Lib.hid (fun x hx => by
          by_cases e : x = k
          · subst e; show drA P W X x ≤ 0; have := HZ.out; have := HDA.out; omega
          · exact hs.out x (by omega))
        clear hz
        go_wp2
        go_roundw
        case rel => exact ⟨k + 1, by omega, by go_num, HS2, hF4⟩
        case measure => simp [intOf]; omega
    · obtain rfl : k = n3 := by omega
      have HB2 : Hid (fallB P W X = true) := Lib.hid (fallB_iff.2 (by rw [HP.out]; exact hs.out))
      go_wp2
      go_ret2
      exact ⟨by rw [HD.out, HB2.out, HB.out]; rfl, hF3.trans hF⟩
end Go.Proofs.Ytojipjjfndgbhaa
/- Contracts of IsBalanced, isBalancedUp, and the reference's tests of balanced lists. -/
set_option linter.unusedVariables false
namespace Go.Proofs.Ytojipjjfndgbhaa
open Go.ChangeShapes Go.WideShapes Go.ChangeAt Go.RowKit
theorem IsBalanced_any (w : World) (p q a : Option Addr) (n c m d l b : Nat) (P W X : List Int) (hP : SL w p n c P) (hW : SL w q m d W) (hX : SL w a l b X) :
    Calls Try.prog 129 #[.agg #[.slice p n c, .slice q m d], .slice a l b] w fun e w' => e = .returned (.tuple #[.bool (flatV P W X), .bool (l3B P W X)]) ∧ Fr w w' := by
  have hfr : Fr w (w.alloc (.cells #[.slice p n c, .slice q m d] 29)) := (Fr.refl w).alloc _
  have H0 := Blk.new w #[.slice p n c, .slice q m d] 29
  have c0 := H0.cell (j := 0) rfl; have c1 := H0.cell (j := 1) rfl
  clear H0
  go_enter Try.func129, Try.ntmps129
  go_wp2_with fail
  clear c0 c1
  refine (IsFairProcess_any _ _ _ _ _ _ _ _ _ _ _ _ _ (hP.fr hfr) (hW.fr hfr) (hX.fr hfr)).mono ?_
  rintro e w1 ⟨rfl, f1⟩
  go_wp2
  go_ret2
  exact ⟨rfl, hfr.trans f1⟩
theorem isBalancedUp_any (w : World) (p q a : Option Addr) (n c m d l b : Nat) (P W X : List Int) (hP : SL w p n c P) (hW : SL w q m d W) (hX : SL w a l b X) :
    Calls Try.prog 87 #[.agg #[.slice p n c, .slice q m d], .slice a l b] w fun e w' => e = .returned (.bool (evenB P W X)) ∧ Fr w w' := by
  have hfr : Fr w (w.alloc (.cells #[.slice p n c, .slice q m d] 29)) := (Fr.refl w).alloc _
  have H0 := Blk.new w #[.slice p n c, .slice q m d] 29
  have c0 := H0.cell (j := 0) rfl; have c1 := H0.cell (j := 1) rfl
  clear H0
  go_enter Try.func87, Try.ntmps87
  go_wp2_with fail
  clear c0 c1
  refine (IsBalanced_any _ _ _ _ _ _ _ _ _ _ _ _ _ (hP.fr hfr) (hW.fr hfr) (hX.fr hfr)).mono ?_
  rintro e w1 ⟨rfl, f1⟩
  have hF := hfr.trans f1
  cases h1 : l3B P W X
  · have HB : Hid (evenB P W X = false) := Lib.hid (by rw [evenB, flatV, h1]; rfl)
    go_wp2
    go_ret
    exact ⟨ret_bool HB.out.symm, hF⟩
  cases h2 : flatV P W X
  · have HB : Hid (evenB P W X = false) := Lib.hid (by rw [evenB, h2]; rfl)
    go_wp2
    go_ret
    exact ⟨ret_bool HB.out.symm, hF⟩
  have HB : Hid (evenB P W X = allB X 0 999) := Lib.hid (by rw [evenB, h2]; rfl)
  clear h1 h2
  go_wp2_with fail
  refine (allWithin_any _ _ _ _ _ _ _ (hX.fr hF)).mono ?_
  rintro e w' ⟨rfl, rfl⟩
  go_wp2
  go_ret
  exact ⟨ret_bool HB.out.symm, hF⟩
def prL (P W X : List Int) (k : Nat) : List Int := (List.range k).map (prodF P W X)
theorem prL_len (P W X : List Int) (k : Nat) : (prL P W X k).length = k := by simp [prL]
theorem prL_succ (P W X : List Int) (k : Nat) : prL P W X (k + 1) = prL P W X k ++ [prodF P W X k] := by simp [prL, List.range_succ]
theorem prL_nth {P W X : List Int} {k i : Nat} (h : i < k) : nth (prL P W X k) i = prodF P W X i := by simp [nth, prL, h]
theorem kidUp_congr {P : List Int} {F G : Nat → Int} {z : Nat} : ∀ k, (∀ y, y < k → F y = G y) → kidUp P F z k = kidUp P G z k
  | 0, _ => rfl
  | k + 1, h => by rw [kidUp, kidUp, kidUp_congr k (fun y hy => h y (by omega)), h k (by omega)]
theorem prL_bd {P W X : List Int} (ht : treeB P W = true) (hX : ∀ i, -999 ≤ nth X i ∧ nth X i ≤ 999) (k i : Nat) : -479520 ≤ nth (prL P W X k) i ∧ nth (prL P W X k) i ≤ 479520 := by
  by_cases h : i < k
  · rw [prL_nth h]; exact prodF_bd ht hX i
  · rw [nth_out (by rw [prL_len]; omega)]; omega
set_option maxRecDepth 100000 in
set_option maxHeartbeats 1000000 in
theorem l4Balanced_any (w : World) (p q a : Option Addr) (n c m d l b : Nat) (P W X : List Int) (hP : SL w p n c P) (hW : SL w q m d W) (hX : SL w a l b X) (ht : treeB P W = true) (hx : procB P X = true) :
    Calls Try.prog 125 #[.agg #[.slice p n c, .slice q m d], .slice a l b] w fun e w' => e = .returned (.bool (flatB P W X)) ∧ Fr w w' := by
  have HP := Lib.hid hP.len
  have HX := Lib.hid hX.len
  have HW := Lib.hid hW.len
  have Ht := Lib.hid ht
  have hfr : Fr w (w.alloc (.cells #[.slice p n c, .slice q m d] 29)) := (Fr.refl w).alloc _
  have H0 := Lib.hid (Blk.new w #[.slice p n c, .slice q m d] 29)
  have hln : l = n := by rw [← HX.out, ← HP.out]; exact (procB_iff.1 hx).1
  subst hln
  have Hv := Lib.hid (nth_bd (procB_iff.1 hx).2 (by omega) (by omega))
  obtain ⟨t1, t2, t3, _⟩ := treeB_iff.1 ht
  have Hp := Lib.hid t3
  rw [HP.out] at t1
  obtain rfl : l = m := by rw [← HW.out, t2, HP.out]
  have N4' : Hid ((gathM P W).length = l) := Lib.hid (by rw [gathM, gathTo_len, t2, HP.out])
  clear t2 t3 ht hx
  have c0 := H0.out.cell (j := 0) rfl; have c1 := H0.out.cell (j := 1) rfl
  go_enter Try.func125, Try.ntmps125
  go_upto_region 1 with fail
  generalize hw1 : w.alloc (.cells #[.slice p l c, .slice q l d] 29) = w1 at hfr H0 c0 c1 ⊢
  have z1 : w1.heap.size = w.heap.size + 1 := by rw [← hw1]; simp
  clear hw1
  go_wp2_with fail
  clear c0 c1
  refine (l2Sums_any _ _ _ _ _ _ _ _ _ (hP.fr hfr) (hW.fr hfr) Ht.out).mono ?_
  rintro e w3 ⟨a4, n4, k4, rfl, o4, f3, _⟩
  have N4 : n4 = l := by rw [← o4.len, N4'.out]
  subst N4
  have hF3 := hfr.trans f3
  have H3 := Lib.hid (H0.out.fr f3)
  have o0 := Own.made0 (B := w3.heap.size) w3 (Nat.le_refl _)
  have f0 := (Fr.refl w3).alloc (.cells #[] 3)
  have S4 := o4.sl
  have z3 := f3.size
  clear o4 f3 hfr
  go_wp2
  go_loopw [6, 7] (fun s i wr => ∃ (k cc : Nat) (ap : Option Addr), k ≤ n4 ∧ i = .int .i64 k ∧ s = .slice ap k cc ∧ Own w3.heap.size wr ap k cc (prL P W X k) ∧ Fr w3 wr) (fun _ i _ => n4 - (intOf i).toNat)
  case atStart => exact ⟨0, _, _, Nat.zero_le _, rfl, rfl, o0, f0⟩
  case round =>
    clear o0 f0
    obtain ⟨k, cc, ap, hk, rfl, rfl, ho, hF⟩ := hrel
    obtain ⟨wo, rfl⟩ : ∃ wo : World, wo = wr := ⟨_, rfl⟩
    by_cases hlt : k < n4
    · have vk0 : (0 : Int) ≤ (k : Int) := by omega
      have vk : (k : Int) < (n4 : Int) := by omega
      obtain ⟨b4, of4, rfl, q4⟩ := S4.cells.resolve_left (by omega)
      replace q4 := q4 k hlt
      have l4 : b4 < w3.heap.size := World.block_lt_of_cell? w3 _ q4
      replace q4 := hF.keep q4
      obtain ⟨bx, ox, rfl, qx⟩ := (hX.fr hF3).cells.resolve_left (by omega)
      replace qx := qx k hlt
      have lx : bx < w3.heap.size := World.block_lt_of_cell? w3 _ qx
      replace qx := hF.keep qx
      have l4' : b4 < wo.heap.size := World.block_lt_of_cell? wo _ q4
      have lx' : bx < wo.heap.size := World.block_lt_of_cell? wo _ qx
      have hob := ho.blk
      have n4' : blkOf ap ≠ some b4 := fun e => by have := hob _ e; omega
      have nx : blkOf ap ≠ some bx := fun e => by have := hob _ e; omega
      have b1 := prodF_bd Ht.out Hv.out k
      have HS : Hid (prL P W X (k + 1) = prL P W X k ++ [nth (gathM P W) k * nth X k]) := Lib.hid (prL_succ P W X k)
      rw [prodF] at b1
      have e1 : IntKind.i64.wrap (nth (gathM P W) k * nth X k) = nth (gathM P W) k * nth X k := IntWalk.i64_in _ (by omega)
      have hsz := hF.size
      go_upto_region 5 with fail
      go_region_held3 (fun w' => w'.cell? ⟨b4, of4 + k, none⟩ = some (.int .i64 (nth (gathM P W) k)) ∧ w'.cell? ⟨bx, ox + k, none⟩ = some (.int .i64 (nth X k)))
        (first
          | go_keep
          | (go_split_ands
             refine ⟨?_, ?_⟩
             · (rw [q2'.cell_far _ (by simp; omega) (Ne.symm n4')]; assumption)
             · (rw [q2'.cell_far _ (by simp; omega) (Ne.symm nx)]; assumption)))
        (first
          | ((refine step_ap_int _ rfl _ _ rfl w3.heap.size ap k cc _ (nth (gathM P W) k * nth X k) wo.heap.size (by rfl) (by rfl) (ho.fr (((Fr.refl _).alloc _).drew' 1)) (by simp; omega) (cell_of_row _ wo.heap.size 0 _ 3 (0, 0) (heap_alloc_new wo _)) (by unfold I64; omega) (by omega) (wo.heap.size + 1) (by simp) ?_; intro g' c' w' q1 q2' q3)))
      have q2 : wo.grownBy w' (blkOf ap) := grownBy_trans (Fr.grownBy (((Fr.refl wo).alloc _).drew' 1) _) q2'
      have hF4 := hF.grown q2 (fun zz hzz => (ho.blk zz hzz).1)
      clear e1
      go_wp2
      go_roundw
      case rel => exact ⟨k + 1, c', _, by omega, by go_num, rfl, by rw [HS.out]; exact q1, hF4⟩
      case measure => simp [intOf]; omega
    · obtain rfl : k = n4 := by omega
      have S6 := ho.sl
      have hF5 := hF3.trans hF
      have H5 := Lib.hid (H3.out.fr hF)
      obtain ⟨w5, rfl⟩ : ∃ wz : World, wz = wo := ⟨_, rfl⟩
      clear ho hF S4
      go_wp2
      go_loopw [8] (fun i wr => ∃ j : Nat, j ≤ k ∧ i = .int .i64 j ∧ Hid (∀ x, x < j → endB P x = false → prodF P W X x = kidUp P (prodF P W X) x k) ∧ Fr w5 wr) (fun i _ => k - (intOf i).toNat)
      case atStart => exact ⟨0, Nat.zero_le _, rfl, Lib.hid (fun x hx => by omega), Fr.refl _⟩
      case round =>
        obtain ⟨j, hj, rfl, hs, hF⟩ := hrel
        obtain ⟨wo, rfl⟩ : ∃ wo : World, wo = wr := ⟨_, rfl⟩
        by_cases hlt : j < k
        · have vj0 : (0 : Int) ≤ (j : Int) := by omega
          have vj : (j : Int) < (k : Int) := by omega
          have c0 := (H5.out.fr hF).cell (j := 0) rfl
          have c1 := (H5.out.fr hF).cell (j := 1) rfl
          obtain ⟨bw, ow, rfl, qw⟩ := (hW.fr (hF5.trans hF)).cells.resolve_left (by omega)
          replace qw := qw j hlt
          have HE := Lib.hid (wei_end Ht.out (x := j) (by rw [HP.out]; exact hlt))
          by_cases hw0 : nth W j = 0
          · have hwb : (nth W j == 0) = true := by simp [hw0]
            have HE2 : Hid (endB P j = false) := Lib.hid (by rw [HE.out]; simp [hw0])
            clear hw0
            obtain ⟨b6, of6, rfl, q6⟩ := (S6.fr hF).cells.resolve_left (by omega)
            replace q6 := q6 j hlt
            rw [prL_nth hlt] at q6
            have HK : Hid (kidUp P (nth (prL P W X k)) j k = kidUp P (prodF P W X) j k) := Lib.hid (kidUp_congr k fun y hy => prL_nth hy)
            have SL6 := S6.fr hF
            have hP6 := hP.fr (hF5.trans hF)
            go_upto_region 9 with fail
            go_cut [52] from 36 to 52 (fun s wx => s = .bool (prodF P W X j != kidUp P (prodF P W X) j k) ∧ Fr w5 wx)
            case first =>
              go_region_held3 (fun w' => w'.cell? ⟨w.heap.size, 0, none⟩ = some (.slice p k c) ∧ w'.cell? ⟨w.heap.size, 1, none⟩ = some (.slice (some ⟨bw, ow, none⟩) k d) ∧ w'.cell? ⟨bw, ow + j, none⟩ = some (.int .i64 (nth W j)) ∧ w'.cell? ⟨b6, of6 + j, none⟩ = some (.int .i64 (prodF P W X j)))
                (first | go_keep | (exact KK))
                (first
                  | (go_at_call 141; refine (l4Kids_any _ _ _ _ _ _ _ _ _ _ P W _ j (hP6.fr (by first | exact (Fr.refl wo).drew' 1 | exact Fr.drewN wo 1)) (SL6.fr (by first | exact (Fr.refl wo).drew' 1 | exact Fr.drewN wo 1)) Hp.out (by omega) rfl (by omega) (prL_bd Ht.out Hv.out k)).mono ?_; rintro e w7 ⟨rfl, f7'⟩; have f7 : Fr wo w7 := (by first | exact ((Fr.refl wo).drew' 1).trans f7' | exact (Fr.drewN wo 1).trans f7'); have KK := And.intro (f7.keep c0) (And.intro (f7.keep c1) (And.intro (f7.keep qw) (f7.keep q6)))))
              all_goals
                go_wp2_with fail
                go_meet
                exact ⟨by rw [HK.out], hF.trans f7⟩
            case rest =>
              obtain ⟨rfl, hF6⟩ := hcut
              clear c0 c1 qw q6
              by_cases hz : prodF P W X j = kidUp P (prodF P W X) j k
              · have hb : (prodF P W X j != kidUp P (prodF P W X) j k) = false := by simp [hz]
                have HS2 : Hid (∀ x, x < j + 1 → endB P x = false → prodF P W X x = kidUp P (prodF P W X) x k) := Lib.hid (fun x hx he => by
                  by_cases e : x = j
                  · subst e; exact hz
                  · exact hs.out x (by omega) he)
                clear hz
                go_wp2
                go_roundw
                case rel => exact ⟨j + 1, by omega, by go_num, HS2, hF6⟩
                case measure => simp [intOf]; omega
              · have hb : (prodF P W X j != kidUp P (prodF P W X) j k) = true := by simp [hz]
                have HB2 : Hid (flatB P W X = false) := Lib.hid (by
                  rw [Bool.eq_false_iff]
                  intro e
                  have := (flat_iff Ht.out).1 e j (by rw [HP.out]; exact hlt) HE2.out
                  rw [HP.out] at this
                  exact hz this)
                clear hz
                go_wp2
                go_ret
                exact ⟨ret_bool HB2.out.symm, hF5.trans hF6⟩
          · have hwb : (nth W j == 0) = false := by simp [hw0]
            have HS2 : Hid (∀ x, x < j + 1 → endB P x = false → prodF P W X x = kidUp P (prodF P W X) x k) := Lib.hid (fun x hx he => by
              by_cases e : x = j
              · subst e; rw [HE.out] at he; simp at he; exact absurd he hw0
              · exact hs.out x (by omega) he)
            clear hw0
            go_wp2
            go_quiet (fail)
            go_wp2
            go_roundw
            case rel => exact ⟨j + 1, by omega, by go_num, HS2, hF.drew' _⟩
            case measure => simp [intOf]; omega
        · obtain rfl : j = k := by omega
          have HB2 : Hid (flatB P W X = true) := Lib.hid ((flat_iff Ht.out).2 (by rw [HP.out]; exact hs.out))
          go_wp2
          go_ret
          exact ⟨ret_bool HB2.out.symm, hF5.trans hF⟩
theorem evenB_eq {P W X : List Int} (h1 : treeB P W = true) (h2 : procB P X = true) : evenB P W X = (flatB P W X && posB X) := by rw [evenB, flatV, l3B, h1, h2]; rfl
theorem posB_no {X : List Int} {k : Nat} (hk : k < X.length) (h : nth X k < 0) : posB X = false := by
  rw [Bool.eq_false_iff]; intro e
  have := (allB_iff.1 e) _ (nth_mem hk)
  omega
theorem posB_yes {P X : List Int} (hx : procB P X = true) (h : ∀ k, k < X.length → 0 ≤ nth X k) : posB X = true := by
  refine allB_iff.2 fun x hm => ?_
  have h1 := (procB_iff.1 hx).2 x hm
  obtain ⟨k, hk, rfl⟩ := List.getElem_of_mem hm
  have := h k hk
  rw [nth_eq hk] at this
  omega
set_option maxRecDepth 100000 in
theorem l10Fair_any (w : World) (p q a : Option Addr) (n c m d l b : Nat) (P W X : List Int) (hP : SL w p n c P) (hW : SL w q m d W) (hX : SL w a l b X) :
    Calls Try.prog 84 #[.agg #[.slice p n c, .slice q m d], .slice a l b] w fun e w' => e = .returned (.bool (evenB P W X)) ∧ Fr w w' := by
  have HX := Lib.hid hX.len
  have hfr : Fr w (w.alloc (.cells #[.slice p n c, .slice q m d] 29)) := (Fr.refl w).alloc _
  have H0 := Lib.hid (Blk.new w #[.slice p n c, .slice q m d] 29)
  have c0 := H0.out.cell (j := 0) rfl; have c1 := H0.out.cell (j := 1) rfl
  have hl : l ≤ 9223372036854775807 := by have := hX.le; have := hX.mx; omega
  go_enter Try.func84, Try.ntmps84
  go_wp2_with fail
  clear c0 c1
  refine (l4Pays_any _ _ _ _ _ _ _ _ _ _ _ _ _ (hP.fr hfr) (hW.fr hfr) (hX.fr hfr)).mono ?_
  rintro e w1 ⟨rfl, f1⟩
  have hF := hfr.trans f1
  have G1 := Lib.hid (H0.out.fr f1)
  cases h1 : l3B P W X
  · have HB : Hid (evenB P W X = false) := Lib.hid (by rw [evenB, flatV, h1]; rfl)
    go_wp2
    go_ret
    exact ⟨ret_bool HB.out.symm, hF⟩
  have h1' := h1
  rw [l3B, Bool.and_eq_true] at h1'
  have T1 := Lib.hid h1'.1; have T2 := Lib.hid h1'.2
  have c0 := G1.out.cell (j := 0) rfl; have c1 := G1.out.cell (j := 1) rfl
  clear h1'
  go_wp2_with fail
  clear c0 c1 h1
  refine (l4Balanced_any _ _ _ _ _ _ _ _ _ _ _ _ _ (hP.fr hF) (hW.fr hF) (hX.fr hF) T1.out T2.out).mono ?_
  rintro e w2 ⟨rfl, f2⟩
  have hF2 := hF.trans f2
  cases h2 : flatB P W X
  · have HB : Hid (evenB P W X = false) := Lib.hid (by rw [evenB_eq T1.out T2.out, h2]; rfl)
    go_wp2
    go_ret
    exact ⟨ret_bool HB.out.symm, hF2⟩
  have HB : Hid (evenB P W X = posB X) := Lib.hid (by rw [evenB_eq T1.out T2.out, h2]; rfl)
  have Hv := Lib.hid (nth_bd (procB_iff.1 T2.out).2 (by omega) (by omega))
  clear h2
  go_wp2
  go_loop [5] (fun i => ∃ k : Nat, k ≤ l ∧ i = .int .i64 k ∧ Hid (∀ j, j < k → 0 ≤ nth X j)) (fun i => l - (intOf i).toNat)
  case atStart => exact ⟨0, Nat.zero_le _, rfl, Lib.hid (fun j hj => by omega)⟩
  case round =>
    obtain ⟨k, hk, rfl, hs⟩ := hrel
    by_cases hlt : k < l
    · have vk0 : (0 : Int) ≤ (k : Int) := by omega
      have vk : (k : Int) < (l : Int) := by omega
      obtain ⟨bx, ox, rfl, qx⟩ := (hX.fr hF2).cells.resolve_left (by omega)
      replace qx := qx k hlt
      by_cases hz : nth X k < 0
      · have HB2 : Hid (posB X = false) := Lib.hid (posB_no (by rw [HX.out]; exact hlt) hz)
        go_wp2
        go_ret
        exact ⟨ret_bool (by rw [HB.out, HB2.out]), hF2⟩
      · have HS : Hid (∀ j, j < k + 1 → 0 ≤ nth X j) := Lib.hid (fun j hj => by
          by_cases e : j = k
          · subst e; omega
          · exact hs.out j (by omega))
        go_wp2
        go_round
        case rel => exact ⟨k + 1, by omega, by go_num, HS⟩
        case measure => simp [intOf]; omega
    · obtain rfl : k = l := by omega
      have HB2 : Hid (posB X = true) := Lib.hid (posB_yes T2.out (by rw [HX.out]; exact hs.out))
      go_wp2
      go_ret
      exact ⟨ret_bool (by rw [HB.out, HB2.out]), hF2⟩
end Go.Proofs.Ytojipjjfndgbhaa
/- Contracts of HighestOf, and of the reference's peaks. -/
set_option linter.unusedVariables false
namespace Go.Proofs.Ytojipjjfndgbhaa
open Go.ChangeShapes Go.WideShapes Go.ChangeAt Go.RowKit
set_option maxRecDepth 100000 in
set_option maxHeartbeats 1000000 in
theorem HighestOf_yes (w : World) (p q a : Option Addr) (n c m d l b : Nat) (P W X : List Int) (hP : SL w p n c P) (hW : SL w q m d W) (hX : SL w a l b X) (ht : treeB P W = true) (hx : procB P X = true) :
    Calls Try.prog 89 #[.agg #[.slice p n c, .slice q m d], .slice a l b] w (RetSB (pkM P X) true w) := by
  have HP := Lib.hid hP.len
  have HX := Lib.hid hX.len
  have Ht := Lib.hid ht
  have hfr : Fr w (w.alloc (.cells #[.slice p n c, .slice q m d] 29)) := (Fr.refl w).alloc _
  have H0 := Lib.hid (Blk.new w #[.slice p n c, .slice q m d] 29)
  have hln : l = n := by rw [← HX.out, ← HP.out]; exact (procB_iff.1 hx).1
  subst hln
  have Hv := Lib.hid (nth_bd (procB_iff.1 hx).2 (by omega) (by omega))
  obtain ⟨t1, t2, t3, _⟩ := treeB_iff.1 ht
  have Hp := Lib.hid t3
  rw [HP.out] at t1
  clear t2 t3
  have c0 := H0.out.cell (j := 0) rfl; have c1 := H0.out.cell (j := 1) rfl
  go_enter Try.func89, Try.ntmps89
  go_wp2_with fail
  clear c0 c1
  refine (IsTree_any _ _ _ _ _ _ _ _ _ (hP.fr hfr) (hW.fr hfr)).mono ?_
  rintro e w1 ⟨rfl, f1⟩
  have G1 := Lib.hid (H0.out.fr f1)
  have hF1 := hfr.trans f1
  have c0 := G1.out.cell (j := 0) rfl; have c1 := G1.out.cell (j := 1) rfl
  go_wp2_with fail
  clear c0 c1 ht
  refine (isProcess_any _ _ _ _ _ _ _ _ _ _ _ W _ (hP.fr hF1) (hX.fr hF1)).mono ?_
  rintro e w2 ⟨rfl, f2⟩
  have hF2 := hF1.trans f2
  have o0 := Own.made0 (B := w2.heap.size) w2 (Nat.le_refl _)
  have fa : Fr w2 (w2.alloc (.cells #[] 3)) := (Fr.refl _).alloc _
  have G2 := Lib.hid ((G1.out.fr f2).fr fa)
  have hF3 := hF2.trans fa
  have c0 := G2.out.cell (j := 0) rfl; have c1 := G2.out.cell (j := 1) rfl
  go_wp2_with fail
  clear c0 c1 hx
  refine (ends_any _ _ _ _ _ _ _ _ (hP.fr hF3) Hp.out (by omega)).mono ?_
  rintro e w3 ⟨a2, n2, c2, rfl, o2, f3, m2⟩
  have Hn2 := Lib.hid o2.len
  have z2 := f3.size
  simp only [World.size_alloc] at z2 o2
  have x2 := o2.within
  have hF4 : Fr w2 w3 := fa.trans f3
  have z4 := hF4.size
  have zw := hF2.size
  have G3 := Lib.hid (G2.out.fr f3)
  have oP0 := o0.fr f3
  have n24 : n2 ≤ 24 := by have := Hn2.out; have := endsTo_len P P.length; rw [endsM] at *; have := HP.out; omega
  go_wp2
  go_loopw [6, 25] (fun v i wr => ∃ (k cc : Nat) (ap : Option Addr), k ≤ n2 ∧ i = .int .i64 k ∧ v = .slice ap k cc ∧ Own w2.heap.size wr ap k cc (enTo P (topM P X) k) ∧ SL wr a2 n2 c2 (endsM P) ∧ Apart ap a2 ∧ Fr w2 wr) (fun _ i _ => n2 - (intOf i).toNat)
  case atStart => exact ⟨0, 0, _, by omega, rfl, rfl, by simpa [enTo] using oP0, o2.sl, fun k h1 h2 => by simp [blkOf] at h1; have := x2 k h2; omega, hF4⟩
  case round =>
    have B2 : Hid (∀ k, blkOf a2 = some k → k < w3.heap.size) := Lib.hid (fun k hk => (x2 k hk).2)
    clear o0 oP0 o2 f3 hF3 hF4 fa
    obtain ⟨k, cc, ap, hk, rfl, rfl, oP, he, apE, hF⟩ := hrel
    obtain ⟨wo, rfl⟩ : ∃ wo : World, wo = wr := ⟨_, rfl⟩
    have hFw := hF2.trans hF
    by_cases hlt : k < n2
    · obtain ⟨z, hz, hzl, _⟩ := ends_nth (P := P) (i := k) (by rw [Hn2.out]; exact hlt)
      have HZL := Lib.hid hzl
      rw [HP.out] at hzl
      obtain ⟨b2, of2, rfl, hce⟩ := he.cells.resolve_left (by omega)
      replace hce := hce k hlt
      have HS : Hid (enTo P (topM P X) (k + 1) = enTo P (topM P X) k ++ [topM P X z]) := Lib.hid (by rw [enTo_succ, hz]; rfl)
      rw [hz] at hce
      clear hz
      have vk0 : (0 : Int) ≤ (k : Int) := by omega
      have vk : (k : Int) < (n2 : Int) := by omega
      obtain ⟨bx, ox, rfl, hcx⟩ := (hX.fr hFw).cells.resolve_left (by omega)
      have q0 := hcx 0 (by omega)
      rw [Nat.add_zero] at q0
      have J0 := Lib.hid ((H0.out.fr (f1.trans f2)).fr hF)
      have c0 := J0.out.cell (j := 0) rfl; have c1 := J0.out.cell (j := 1) rfl
      clear hcx
      go_wp2_with fail
      clear c0 c1 q0 hce
      refine (way_any _ _ _ _ _ _ _ z _ (hP.fr hFw) Hp.out hzl (by omega)).mono ?_
      rintro e w4 ⟨a5, n5, k5, rfl, o5, f4, _⟩
      have S5 := o5.sl
      have HK := Lib.hid S5.len
      have oP2 := oP.fr f4
      have he2 := he.fr f4
      have hF5 := hF.trans f4
      have hFw5 := hF2.trans hF5
      have HMX : Hid (mxTo X (wayM P z) (nth X 0) n5 = topM P X z) := Lib.hid (by
        rw [← HK.out, mx_way Hp.out (nth X 0) z z (Nat.le_refl _) HZL.out]
        have := topM_bd Hp.out Hv.out z z (Nat.le_refl _) HZL.out
        omega)
      have b5 : n5 ≤ 24 := by have := wayM_len Hp.out HZL.out; have := HK.out; omega
      clear o5 oP he hF hFw f4
      go_wp2
      go_loop [9, 36] (fun x i => ∃ t : Nat, t ≤ n5 ∧ i = .int .i64 t ∧ x = .int .i64 (mxTo X (wayM P z) (nth X 0) t)) (fun _ i => n5 - (intOf i).toNat)
      case atStart => exact ⟨0, Nat.zero_le _, rfl, rfl⟩
      case round =>
        obtain ⟨t, ht5, rfl, rfl⟩ := hrel
        by_cases htl : t < n5
        · obtain ⟨y, hy, hyn⟩ := wayM_nth Hp.out HZL.out (i := t) (by rw [HK.out]; exact htl)
          rw [HP.out] at hyn
          obtain ⟨b5, of5, rfl, q5⟩ := S5.cells.resolve_left (by omega)
          replace q5 := q5 t htl
          rw [hy] at q5
          have HT : Hid (mxTo X (wayM P z) (nth X 0) (t + 1) = max (mxTo X (wayM P z) (nth X 0) t) (nth X y)) := Lib.hid (by rw [mxTo, hy]; rfl)
          clear hy
          obtain ⟨bx, ox, ebx, qx⟩ := (hX.fr hFw5).cells.resolve_left (by omega)
          injection ebx with ebx; injection ebx with ebx1 ebx2; subst ebx1; subst ebx2
          replace qx := qx y hyn
          have vt0 : (0 : Int) ≤ (t : Int) := by omega
          have vt : (t : Int) < (n5 : Int) := by omega
          have vy0 : (0 : Int) ≤ (y : Int) := by omega
          have vy : (y : Int) < (l : Int) := by omega
          generalize mxTo X (wayM P z) (nth X 0) t = v at HT ⊢
          go_wp2
          go_round
          case rel => exact ⟨t + 1, by omega, by go_num, by rw [HT.out]; congr 1; split <;> omega⟩
          case measure => simp [intOf]; omega
        · obtain rfl : t = n5 := by omega
          rw [HMX.out]
          have b1 := top_bd Ht.out Hv.out HZL.out
          have hsz := hF5.size
          generalize topM P X z = v at b1 HS ⊢
          go_wp2_with (at_builtin; refine ap_int _ rfl _ _ rfl w2.heap.size ap k cc _ _ rfl rfl oP2 hsz (by unfold I64; omega) (by omega) ?_)
          intro g' c' w' q1 q2 q3
          have he3 := he2.grown q2 (by
            cases hx : blkOf (some (⟨b2, of2, none⟩ : Addr)) with
            | none => exact .inl rfl
            | some zz => exact .inr fun e => apE zz e.symm hx)
          have ap2 : Apart (some ⟨g', 0, none⟩) (some ⟨b2, of2, none⟩) := by
            intro zz h1 h2
            simp only [blkOf, Option.map_some, Option.some.injEq] at h1
            subst h1
            rcases q3 with h | h
            · exact apE _ h h2
            · have := B2.out _ h2; have := hF5.size; have := z4; have := (he2.cells.resolve_left (by omega)); obtain ⟨b', o', e', hc'⟩ := this; have := World.block_lt_of_cell? _ _ (hc' 0 (by omega)); injection e' with e'; injection e' with e1 e2; subst e1; simp only [blkOf, Option.map_some, Option.some.injEq] at h2; simp only at this; omega
          have hF6 := hF5.grown q2 (fun zz hzz => (oP2.blk zz hzz).1)
          go_wp2
          go_roundw
          case rel => exact ⟨k + 1, c', _, by omega, by go_num, rfl, by rw [HS.out]; exact q1, he3, ap2, hF6⟩
          case measure => simp [intOf]; omega
    · obtain rfl : k = n2 := by omega
      have HM : Hid (enTo P (topM P X) k = pkM P X) := Lib.hid (by rw [pkM, enM, Hn2.out])
      rw [HM.out] at oP
      go_wp2
      go_ret2
      exact ⟨_, _, _, rfl, oP.mono zw, hFw, by omega⟩
end Go.Proofs.Ytojipjjfndgbhaa
/- The contract of the reference's peaks. -/
set_option linter.unusedVariables false
namespace Go.Proofs.Ytojipjjfndgbhaa
open Go.ChangeShapes Go.WideShapes Go.ChangeAt Go.RowKit
set_option maxRecDepth 100000 in
set_option maxHeartbeats 1000000 in
theorem l10Peaks_any (w : World) (p q a : Option Addr) (n c m d l b : Nat) (P W X : List Int) (hP : SL w p n c P) (hW : SL w q m d W) (hX : SL w a l b X) (h : evenB P W X = true) :
    Calls Try.prog 86 #[.agg #[.slice p n c, .slice q m d], .slice a l b] w (RetS (pkM P X) w) := by
  have HP := Lib.hid hP.len
  have HX := Lib.hid hX.len
  obtain ⟨ht, hx, _, hpos⟩ := evenB_parts h
  have Ht := Lib.hid ht
  have hfr : Fr w (w.alloc (.cells #[.slice p n c, .slice q m d] 29)) := (Fr.refl w).alloc _
  have H0 := Lib.hid (Blk.new w #[.slice p n c, .slice q m d] 29)
  have hln : l = n := by rw [← HX.out, ← HP.out]; exact (procB_iff.1 hx).1
  subst hln
  have Hv := Lib.hid hpos
  obtain ⟨t1, t2, t3, _⟩ := treeB_iff.1 ht
  have Hp := Lib.hid t3
  rw [HP.out] at t1
  clear t2 t3 ht hx hpos h
  have o0 := Own.made0 (B := w.heap.size + 1) (w.alloc (.cells #[.slice p l c, .slice q m d] 29)) (by simp)
  go_enter Try.func86, Try.ntmps86
  go_upto_region 1 with fail
  generalize hw1 : w.alloc (.cells #[.slice p l c, .slice q m d] 29) = w2 at hfr H0 o0 ⊢
  have z1 : w2.heap.size = w.heap.size + 1 := by rw [← hw1]; simp
  rw [← z1] at o0
  have Z1 := Lib.hid z1
  clear hw1 z1
  have fa : Fr w2 (w2.alloc (.cells #[] 3)) := (Fr.refl _).alloc _
  have G2 := Lib.hid (H0.out.fr fa)
  have hF3 := hfr.trans fa
  have c0 := G2.out.cell (j := 0) rfl; have c1 := G2.out.cell (j := 1) rfl
  go_wp2_with fail
  clear c0 c1
  refine (l2Ends_any _ _ _ _ _ _ _ _ (hP.fr hF3) Hp.out (by omega)).mono ?_
  rintro e w3 ⟨a2, n2, c2, rfl, o2, f3, m2⟩
  have Hn2 := Lib.hid o2.len
  have z2 := f3.size
  simp only [World.size_alloc] at z2 o2
  have x2 := o2.within
  have hF4 : Fr w2 w3 := fa.trans f3
  have z4 := hF4.size
  have oP0 := o0.fr f3
  have n24 : n2 ≤ 24 := by have := Hn2.out; have := endsTo_len P P.length; rw [endsM] at *; have := HP.out; omega
  go_wp2
  go_loopw [5, 7] (fun v i wr => ∃ (k cc : Nat) (ap : Option Addr), k ≤ n2 ∧ i = .int .i64 k ∧ v = .slice ap k cc ∧ Own w2.heap.size wr ap k cc (enTo P (topM P X) k) ∧ SL wr a2 n2 c2 (endsM P) ∧ Apart ap a2 ∧ Fr w2 wr) (fun _ i _ => n2 - (intOf i).toNat)
  case atStart => exact ⟨0, 0, _, by omega, rfl, rfl, by simpa [enTo] using oP0, o2.sl, fun k h1 h2 => by simp [blkOf] at h1; have := x2 k h2; omega, hF4⟩
  case round =>
    clear o0 oP0 o2 f3 hF3 hF4 fa x2
    obtain ⟨k, cc, ap, hk, rfl, rfl, oP, he, apE, hF⟩ := hrel
    obtain ⟨wo, rfl⟩ : ∃ wo : World, wo = wr := ⟨_, rfl⟩
    have hFw := hfr.trans hF
    by_cases hlt : k < n2
    · obtain ⟨z, hz, hzl, _⟩ := ends_nth (P := P) (i := k) (by rw [Hn2.out]; exact hlt)
      have HZL := Lib.hid hzl
      rw [HP.out] at hzl
      obtain ⟨b2, of2, rfl, hce⟩ := he.cells.resolve_left (by omega)
      replace hce := hce k hlt
      have HS : Hid (enTo P (topM P X) (k + 1) = enTo P (topM P X) k ++ [topM P X z]) := Lib.hid (by rw [enTo_succ, hz]; rfl)
      rw [hz] at hce
      clear hz
      have lb2 : b2 < wo.heap.size := World.block_lt_of_cell? wo _ hce
      have vk0 : (0 : Int) ≤ (k : Int) := by omega
      have vk : (k : Int) < (n2 : Int) := by omega
      have J0 := Lib.hid (H0.out.fr hF)
      have c0 := J0.out.cell (j := 0) rfl; have c1 := J0.out.cell (j := 1) rfl
      have hPw := hP.fr hFw
      go_upto_region 5 with fail
      go_cut [8, 9] from 20 to 25 (fun s8 s9 wx => ∃ (a5 : Option Addr) (n5 k5 : Nat), s8 = .int .i64 0 ∧ s9 = .slice a5 n5 k5 ∧ SL wx a5 n5 k5 (wayM P z) ∧ Fr wo wx)
      case first =>
        go_region_held3 (fun w' => w'.cell? ⟨w.heap.size, 0, none⟩ = some (.slice p l c) ∧ w'.cell? ⟨w.heap.size, 1, none⟩ = some (.slice q m d) ∧ w'.cell? ⟨b2, of2 + k, none⟩ = some (.int .i64 z))
          (first | go_keep | (exact KK))
          (first
            | (go_at_call 127; refine (l2Way_any _ _ _ _ _ _ _ z _ (hPw.fr (by first | exact (Fr.refl wo).drew' 1 | exact Fr.drewN wo 1)) Hp.out hzl (by omega)).mono ?_; rintro e w4 ⟨a5, n5, k5, rfl, o5, f4', _⟩; have f4 : Fr wo w4 := (by first | exact ((Fr.refl wo).drew' 1).trans f4' | exact (Fr.drewN wo 1).trans f4'); have KK := And.intro (f4.keep c0) (And.intro (f4.keep c1) (f4.keep hce))))
        all_goals
          go_wp2_with fail
          go_meet
          exact ⟨_, _, _, rfl, rfl, o5.sl, f4⟩
      case rest =>
        obtain ⟨a5, n5, k5, rfl, rfl, S5, f4⟩ := hcut
        obtain ⟨w4, rfl⟩ : ∃ wz : World, wz = wc := ⟨_, rfl⟩
        have HK := Lib.hid S5.len
        have oP2 := oP.fr f4
        have he2 := he.fr f4
        have hF5 := hF.trans f4
        have hFw5 := hfr.trans hF5
        have HMX : Hid (mxTo X (wayM P z) 0 n5 = topM P X z) := Lib.hid (by
          rw [← HK.out, mx_way Hp.out 0 z z (Nat.le_refl _) HZL.out]
          have := top_nn Ht.out Hv.out HZL.out
          omega)
        have b5 : n5 ≤ 24 := by have := wayM_len Hp.out HZL.out; have := HK.out; omega
        have hsz4 := f4.size
        clear oP he hF hFw f4 c0 c1 hce hPw
        go_wp2
        go_loop [8, 10] (fun x i => ∃ t : Nat, t ≤ n5 ∧ i = .int .i64 t ∧ x = .int .i64 (mxTo X (wayM P z) 0 t)) (fun _ i => n5 - (intOf i).toNat)
        case atStart => exact ⟨0, Nat.zero_le _, rfl, rfl⟩
        case round =>
          obtain ⟨t, ht5, rfl, rfl⟩ := hrel
          by_cases htl : t < n5
          · obtain ⟨y, hy, hyn⟩ := wayM_nth Hp.out HZL.out (i := t) (by rw [HK.out]; exact htl)
            rw [HP.out] at hyn
            obtain ⟨b5, of5, rfl, q5⟩ := S5.cells.resolve_left (by omega)
            replace q5 := q5 t htl
            rw [hy] at q5
            have HT : Hid (mxTo X (wayM P z) 0 (t + 1) = max (mxTo X (wayM P z) 0 t) (nth X y)) := Lib.hid (by rw [mxTo, hy]; rfl)
            clear hy
            obtain ⟨bx, ox, rfl, qx⟩ := (hX.fr hFw5).cells.resolve_left (by omega)
            replace qx := qx y hyn
            have vt0 : (0 : Int) ≤ (t : Int) := by omega
            have vt : (t : Int) < (n5 : Int) := by omega
            have vy0 : (0 : Int) ≤ (y : Int) := by omega
            have vy : (y : Int) < (l : Int) := by omega
            go_wp2_with fail
            refine (l1Most_any _ _ _).mono ?_
            rintro e w' ⟨rfl, rfl⟩
            rw [← HT.out]
            go_wp2
            go_round
            case rel => exact ⟨t + 1, by omega, by go_num, rfl⟩
            case measure => simp [intOf]; omega
          · obtain rfl : t = n5 := by omega
            rw [HMX.out]
            have b1 := top_nn Ht.out Hv.out HZL.out
            have hsz := hF5.size
            generalize topM P X z = v at b1 HS ⊢
            go_wp2_with (at_builtin; refine ap_int _ rfl _ _ rfl w2.heap.size ap k cc _ _ rfl rfl oP2 hsz (by unfold I64; omega) (by omega) ?_)
            intro g' c' w' q1 q2 q3
            have he3 := he2.grown q2 (by
              cases hx : blkOf (some (⟨b2, of2, none⟩ : Addr)) with
              | none => exact .inl rfl
              | some zz => exact .inr fun e => apE zz e.symm hx)
            have ap2 : Apart (some ⟨g', 0, none⟩) (some ⟨b2, of2, none⟩) := by
              intro zz h1 h2
              simp only [blkOf, Option.map_some, Option.some.injEq] at h1
              subst h1
              rcases q3 with h | h
              · exact apE _ h h2
              · simp only [blkOf, Option.map_some, Option.some.injEq] at h2; omega
            have hF6 := hF5.grown q2 (fun zz hzz => (oP2.blk zz hzz).1)
            go_wp2
            go_roundw
            case rel => exact ⟨k + 1, c', _, by omega, by go_num, rfl, by rw [HS.out]; exact q1, he3, ap2, hF6⟩
            case measure => simp [intOf]; omega
    · obtain rfl : k = n2 := by omega
      have HM : Hid (enTo P (topM P X) k = pkM P X) := Lib.hid (by rw [pkM, enM, Hn2.out])
      rw [HM.out] at oP
      have z1 := Z1.out
      go_wp2
      go_ret
      exact ⟨_, _, _, rfl, oP.mono (by omega), hFw, by omega⟩
end Go.Proofs.Ytojipjjfndgbhaa
