import Derived.Test.YtojipjjfndgbhaaPeakM
import Derived.Test.YtojipjjfndgbhaaWay
import Derived.Test.YtojipjjfndgbhaaFair2
/- Contracts of HighestOf, and of the reference's peaks. -/
set_option linter.unusedVariables false
namespace Go.Proofs.Ytojipjjfndgbhaa
open Go.ChangeShapes Go.WideShapes Go.ChangeAt Go.RowKit
set_option maxRecDepth 100000 in
set_option maxHeartbeats 1000000 in
theorem HighestOf_yes (w : World) (p q a : Option Addr) (n c m d l b : Nat) (P W X : List Int) (hP : SL w p n c P) (hW : SL w q m d W) (hX : SL w a l b X) (ht : treeB P W = true) (hx : procB P X = true) :
    Calls Try.prog 89 #[.agg #[.slice p n c, .slice q m d], .slice a l b] w (RetSB (pkM P X) true w) := by
  have HP := Lib.hid hP.len
  have HX := Lib.hid hX.len
  have Ht := Lib.hid ht
  have hfr : Fr w (w.alloc (.cells #[.slice p n c, .slice q m d] 29)) := (Fr.refl w).alloc _
  have H0 := Lib.hid (Blk.new w #[.slice p n c, .slice q m d] 29)
  have hln : l = n := by rw [← HX.out, ← HP.out]; exact (procB_iff.1 hx).1
  subst hln
  have Hv := Lib.hid (nth_bd (procB_iff.1 hx).2 (by omega) (by omega))
  obtain ⟨t1, t2, t3, _⟩ := treeB_iff.1 ht
  have Hp := Lib.hid t3
  rw [HP.out] at t1
  clear t2 t3
  have c0 := H0.out.cell (j := 0) rfl; have c1 := H0.out.cell (j := 1) rfl
  go_enter Try.func89, Try.ntmps89
  go_wp2_with fail
  clear c0 c1
  refine (IsTree_any _ _ _ _ _ _ _ _ _ (hP.fr hfr) (hW.fr hfr)).mono ?_
  rintro e w1 ⟨rfl, f1⟩
  have G1 := Lib.hid (H0.out.fr f1)
  have hF1 := hfr.trans f1
  have c0 := G1.out.cell (j := 0) rfl; have c1 := G1.out.cell (j := 1) rfl
  go_wp2_with fail
  clear c0 c1 ht
  refine (isProcess_any _ _ _ _ _ _ _ _ _ _ _ W _ (hP.fr hF1) (hX.fr hF1)).mono ?_
  rintro e w2 ⟨rfl, f2⟩
  have hF2 := hF1.trans f2
  have o0 := Own.made0 (B := w2.heap.size) w2 (Nat.le_refl _)
  have fa : Fr w2 (w2.alloc (.cells #[] 3)) := (Fr.refl _).alloc _
  have G2 := Lib.hid ((G1.out.fr f2).fr fa)
  have hF3 := hF2.trans fa
  have c0 := G2.out.cell (j := 0) rfl; have c1 := G2.out.cell (j := 1) rfl
  go_wp2_with fail
  clear c0 c1 hx
  refine (ends_any _ _ _ _ _ _ _ _ (hP.fr hF3) Hp.out (by omega)).mono ?_
  rintro e w3 ⟨a2, n2, c2, rfl, o2, f3, m2⟩
  have Hn2 := Lib.hid o2.len
  have z2 := f3.size
  simp only [World.size_alloc] at z2 o2
  have x2 := o2.within
  have hF4 : Fr w2 w3 := fa.trans f3
  have z4 := hF4.size
  have zw := hF2.size
  have G3 := Lib.hid (G2.out.fr f3)
  have oP0 := o0.fr f3
  have n24 : n2 ≤ 24 := by have := Hn2.out; have := endsTo_len P P.length; rw [endsM] at *; have := HP.out; omega
  go_wp2
  go_loopw [6, 25] (fun v i wr => ∃ (k cc : Nat) (ap : Option Addr), k ≤ n2 ∧ i = .int .i64 k ∧ v = .slice ap k cc ∧ Own w2.heap.size wr ap k cc (enTo P (topM P X) k) ∧ SL wr a2 n2 c2 (endsM P) ∧ Apart ap a2 ∧ Fr w2 wr) (fun _ i _ => n2 - (intOf i).toNat)
  case atStart => exact ⟨0, 0, _, by omega, rfl, rfl, by simpa [enTo] using oP0, o2.sl, fun k h1 h2 => by simp [blkOf] at h1; have := x2 k h2; omega, hF4⟩
  case round =>
    have B2 : Hid (∀ k, blkOf a2 = some k → k < w3.heap.size) := Lib.hid (fun k hk => (x2 k hk).2)
    clear o0 oP0 o2 f3 hF3 hF4 fa
    obtain ⟨k, cc, ap, hk, rfl, rfl, oP, he, apE, hF⟩ := hrel
    obtain ⟨wo, rfl⟩ : ∃ wo : World, wo = wr := ⟨_, rfl⟩
    have hFw := hF2.trans hF
    by_cases hlt : k < n2
    · obtain ⟨z, hz, hzl, _⟩ := ends_nth (P := P) (i := k) (by rw [Hn2.out]; exact hlt)
      have HZL := Lib.hid hzl
      rw [HP.out] at hzl
      obtain ⟨b2, of2, rfl, hce⟩ := he.cells.resolve_left (by omega)
      replace hce := hce k hlt
      have HS : Hid (enTo P (topM P X) (k + 1) = enTo P (topM P X) k ++ [topM P X z]) := Lib.hid (by rw [enTo_succ, hz]; rfl)
      rw [hz] at hce
      clear hz
      have vk0 : (0 : Int) ≤ (k : Int) := by omega
      have vk : (k : Int) < (n2 : Int) := by omega
      obtain ⟨bx, ox, rfl, hcx⟩ := (hX.fr hFw).cells.resolve_left (by omega)
      have q0 := hcx 0 (by omega)
      rw [Nat.add_zero] at q0
      have J0 := Lib.hid ((H0.out.fr (f1.trans f2)).fr hF)
      have c0 := J0.out.cell (j := 0) rfl; have c1 := J0.out.cell (j := 1) rfl
      clear hcx
      go_wp2_with fail
      clear c0 c1 q0 hce
      refine (way_any _ _ _ _ _ _ _ z _ (hP.fr hFw) Hp.out hzl (by omega)).mono ?_
      rintro e w4 ⟨a5, n5, k5, rfl, o5, f4, _⟩
      have S5 := o5.sl
      have HK := Lib.hid S5.len
      have oP2 := oP.fr f4
      have he2 := he.fr f4
      have hF5 := hF.trans f4
      have hFw5 := hF2.trans hF5
      have HMX : Hid (mxTo X (wayM P z) (nth X 0) n5 = topM P X z) := Lib.hid (by
        rw [← HK.out, mx_way Hp.out (nth X 0) z z (Nat.le_refl _) HZL.out]
        have := topM_bd Hp.out Hv.out z z (Nat.le_refl _) HZL.out
        omega)
      have b5 : n5 ≤ 24 := by have := wayM_len Hp.out HZL.out; have := HK.out; omega
      clear o5 oP he hF hFw f4
      go_wp2
      go_loop [9, 36] (fun x i => ∃ t : Nat, t ≤ n5 ∧ i = .int .i64 t ∧ x = .int .i64 (mxTo X (wayM P z) (nth X 0) t)) (fun _ i => n5 - (intOf i).toNat)
      case atStart => exact ⟨0, Nat.zero_le _, rfl, rfl⟩
      case round =>
        obtain ⟨t, ht5, rfl, rfl⟩ := hrel
        by_cases htl : t < n5
        · obtain ⟨y, hy, hyn⟩ := wayM_nth Hp.out HZL.out (i := t) (by rw [HK.out]; exact htl)
          rw [HP.out] at hyn
          obtain ⟨b5, of5, rfl, q5⟩ := S5.cells.resolve_left (by omega)
          replace q5 := q5 t htl
          rw [hy] at q5
          have HT : Hid (mxTo X (wayM P z) (nth X 0) (t + 1) = max (mxTo X (wayM P z) (nth X 0) t) (nth X y)) := Lib.hid (by rw [mxTo, hy]; rfl)
          clear hy
          obtain ⟨bx, ox, ebx, qx⟩ := (hX.fr hFw5).cells.resolve_left (by omega)
          injection ebx with ebx; injection ebx with ebx1 ebx2; subst ebx1; subst ebx2
          replace qx := qx y hyn
          have vt0 : (0 : Int) ≤ (t : Int) := by omega
          have vt : (t : Int) < (n5 : Int) := by omega
          have vy0 : (0 : Int) ≤ (y : Int) := by omega
          have vy : (y : Int) < (l : Int) := by omega
          generalize mxTo X (wayM P z) (nth X 0) t = v at HT ⊢
          go_wp2
          go_round
          case rel => exact ⟨t + 1, by omega, by go_num, by rw [HT.out]; congr 1; split <;> omega⟩
          case measure => simp [intOf]; omega
        · obtain rfl : t = n5 := by omega
          rw [HMX.out]
          have b1 := top_bd Ht.out Hv.out HZL.out
          have hsz := hF5.size
          generalize topM P X z = v at b1 HS ⊢
          go_wp2_with (at_builtin; refine ap_int _ rfl _ _ rfl w2.heap.size ap k cc _ _ rfl rfl oP2 hsz (by unfold I64; omega) (by omega) ?_)
          intro g' c' w' q1 q2 q3
          have he3 := he2.grown q2 (by
            cases hx : blkOf (some (⟨b2, of2, none⟩ : Addr)) with
            | none => exact .inl rfl
            | some zz => exact .inr fun e => apE zz e.symm hx)
          have ap2 : Apart (some ⟨g', 0, none⟩) (some ⟨b2, of2, none⟩) := by
            intro zz h1 h2
            simp only [blkOf, Option.map_some, Option.some.injEq] at h1
            subst h1
            rcases q3 with h | h
            · exact apE _ h h2
            · have := B2.out _ h2; have := hF5.size; have := z4; have := (he2.cells.resolve_left (by omega)); obtain ⟨b', o', e', hc'⟩ := this; have := World.block_lt_of_cell? _ _ (hc' 0 (by omega)); injection e' with e'; injection e' with e1 e2; subst e1; simp only [blkOf, Option.map_some, Option.some.injEq] at h2; simp only at this; omega
          have hF6 := hF5.grown q2 (fun zz hzz => (oP2.blk zz hzz).1)
          go_wp2
          go_roundw
          case rel => exact ⟨k + 1, c', _, by omega, by go_num, rfl, by rw [HS.out]; exact q1, he3, ap2, hF6⟩
          case measure => simp [intOf]; omega
    · obtain rfl : k = n2 := by omega
      have HM : Hid (enTo P (topM P X) k = pkM P X) := Lib.hid (by rw [pkM, enM, Hn2.out])
      rw [HM.out] at oP
      go_wp2
      go_ret2
      exact ⟨_, _, _, rfl, oP.mono zw, hFw, by omega⟩
end Go.Proofs.Ytojipjjfndgbhaa
