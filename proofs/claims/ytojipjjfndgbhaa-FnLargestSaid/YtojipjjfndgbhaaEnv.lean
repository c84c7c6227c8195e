import Derived.Test.YtojipjjfndgbhaaCap
import Derived.Test.YtojipjjfndgbhaaKidM
/- Contracts of EnvelopeOf, HouseValue. -/
set_option linter.unusedVariables false
namespace Go.Proofs.Ytojipjjfndgbhaa
open Go.ChangeShapes Go.WideShapes Go.ChangeAt Go.RowKit

def envP (P W X : List Int) (x : Nat) : Int × Int := (lowA (nth (capM P W X) x) (nth (gathM P W) x), lowB (nth (capM P W X) x) (nth (gathM P W) x))
def envTo (P W X : List Int) (k : Nat) : List (Int × Int) := (List.range k).map (envP P W X)
def envM (P W X : List Int) : List (Int × Int) := envTo P W X P.length
theorem envTo_succ (P W X : List Int) (k : Nat) : envTo P W X (k + 1) = envTo P W X k ++ [envP P W X k] := by simp [envTo, List.range_succ]
theorem envM_nth {P W X : List Int} {i : Nat} (h : i < P.length) : nthP (envM P W X) i = envP P W X i := by simp [nthP, envM, envTo, h]
theorem envM_len (P W X : List Int) : (envM P W X).length = P.length := by simp [envM, envTo]
/-- A new slice of pairs and a bool. -/
def RetPB (xs : List (Int × Int)) (bb : Bool) (w : World) (e : Ending) (w' : World) : Prop := ∃ a n cap, e = .returned (.tuple #[.slice a n cap, .bool bb]) ∧ OwnP w.heap.size w' a n cap xs ∧ Fr w w' ∧ n ≤ 1048576
theorem capM_bd {P W X : List Int} (ht : treeB P W = true) (hX : ∀ i, -999 ≤ nth X i ∧ nth X i ≤ 999) (x : Nat) (hx : x < P.length) : -479520 ≤ nth (capM P W X) x ∧ nth (capM P W X) x ≤ 479520 := by
  rw [capM, capL_nth hx]; exact cap_small ht hX 24 x hx

set_option maxRecDepth 100000 in
set_option maxHeartbeats 1000000 in
theorem impl_EnvelopeOf_yes (w : World) (p q a : Option Addr) (n c m d l b : Nat) (P W X : List Int) (hP : SL w p n c P) (hW : SL w q m d W) (hX : SL w a l b X) (ht : treeB P W = true) (hx : procB P X = true) :
    Calls Try.prog 83 #[.agg #[.slice p n c, .slice q m d], .slice a l b] w (RetPB (envM P W X) true w) := by
  have HP := Lib.hid hP.len
  have HX := Lib.hid hX.len
  have Ht := Lib.hid ht
  have hfr : Fr w (w.alloc (.cells #[.slice p n c, .slice q m d] 29)) := (Fr.refl w).alloc _
  have H0 := Lib.hid (Blk.new w #[.slice p n c, .slice q m d] 29)
  have hln : l = n := by rw [← HX.out, ← HP.out]; exact (procB_iff.1 hx).1
  subst hln
  have Hv := Lib.hid (nth_bd (procB_iff.1 hx).2 (by omega) (by omega))
  obtain ⟨t1, t2, t3, _⟩ := treeB_iff.1 ht
  have Hp := Lib.hid t3
  rw [HP.out] at t1
  have N4' : Hid ((gathM P W).length = l) := Lib.hid (by rw [gathM, gathTo_len, t2, HP.out])
  clear t2 t3
  have c0 := H0.out.cell (j := 0) rfl; have c1 := H0.out.cell (j := 1) rfl
  go_enter Try.func83, Try.ntmps83
  go_wp2_with fail
  clear c0 c1
  refine (IsTree_any _ _ _ _ _ _ _ _ _ (hP.fr hfr) (hW.fr hfr)).mono ?_
  rintro e w1 ⟨rfl, f1⟩
  have G1 := Lib.hid (H0.out.fr f1)
  have hF1 := hfr.trans f1
  have c0 := G1.out.cell (j := 0) rfl; have c1 := G1.out.cell (j := 1) rfl
  go_wp2_with fail
  clear c0 c1 ht
  refine (isProcess_any _ _ _ _ _ _ _ _ _ _ _ W _ (hP.fr hF1) (hX.fr hF1)).mono ?_
  rintro e w2 ⟨rfl, f2⟩
  have G2 := Lib.hid (G1.out.fr f2)
  have hF2 := hF1.trans f2
  have fa : Fr w2 (w2.alloc (.cells #[] 46)) := (Fr.refl _).alloc _
  have hF3 := hF2.trans fa
  have c0 := (G2.out.fr fa).cell (j := 0) rfl; have c1 := (G2.out.fr fa).cell (j := 1) rfl
  go_wp2_with fail
  clear c0 c1 hx
  refine (sums_any _ _ _ _ _ _ _ _ _ (hP.fr hF3) (hW.fr hF3) Ht.out).mono ?_
  rintro e w3 ⟨a4, n4, k4, rfl, o4, f3, _⟩
  have N4 : n4 = l := by rw [← o4.len, N4'.out]
  subst N4
  have hF4 := hF3.trans f3
  have G4 := Lib.hid ((G2.out.fr fa).fr f3)
  have c0 := G4.out.cell (j := 0) rfl; have c1 := G4.out.cell (j := 1) rfl
  go_wp2_with fail
  clear c0 c1
  refine (worth_any _ _ _ _ _ _ _ _ _ _ _ _ _ (hP.fr hF4) (hW.fr hF4) (hX.fr hF4) Ht.out rfl Hv.out).mono ?_
  rintro e w4 ⟨a3, n3, k3, a5, n5, k5, rfl, o3, f4, _⟩
  have N3 : n3 = n4 := by rw [← o3.len, capM_len, HP.out]
  subst N3
  have z2 := fa.size
  have z3 := f3.size
  have z4 := f4.size
  have zz := World.size_alloc w2 (.cells #[] 46)
  have oP := (((OwnP.made0 w2 (Nat.le_refl _)).fr f3).fr f4)
  have oA := o3.mono (show w2.heap.size ≤ w3.heap.size by omega)
  have oS := (o4.fr f4).mono z2
  have y3 := o3.within
  have y4 := o4.within
  have ap3 : Apart (some ⟨w2.heap.size, 0, none⟩) a3 := fun k h1 h2 => by simp only [blkOf, Option.map_some, Option.some.injEq] at h1; have := y3 k h2; omega
  have ap4 : Apart (some ⟨w2.heap.size, 0, none⟩) a4 := fun k h1 h2 => by simp only [blkOf, Option.map_some, Option.some.injEq] at h1; have := y4 k h2; omega
  have hF : Fr w2 w4 := ((fa.trans f3).trans f4)
  clear o3 o4 y3 y4 f3 f4 fa hF3 hF4
  have Hs := Lib.hid (sums_pos Ht.out)
  have Hl := Lib.hid (sums_le Ht.out)
  have Htb := Lib.hid (fun x => capM_bd (P := P) (W := W) (X := X) Ht.out Hv.out x)
  go_wp2
  go_loopw [6, 34] (fun v i wr => ∃ (k cc : Nat) (ap : Option Addr), k ≤ n3 ∧ i = .int .i64 k ∧ v = .slice ap k cc ∧ OwnP w2.heap.size wr ap k cc (envTo P W X k) ∧ Own w2.heap.size wr a3 n3 k3 (capM P W X) ∧ Own w2.heap.size wr a4 n3 k4 (gathM P W) ∧ Apart ap a3 ∧ Apart ap a4 ∧ Fr w2 wr) (fun _ i _ => n3 - (intOf i).toNat)
  case atStart => exact ⟨0, 0, _, by omega, rfl, rfl, oP, oA, oS, ap3, ap4, hF⟩
  case round =>
    clear oP oA oS ap3 ap4 hF
    obtain ⟨k, cc, ap, hk, rfl, rfl, oP, oA, oS, ap3, ap4, hF⟩ := hrel
    by_cases hlt : k < n3
    · obtain ⟨g3, rfl, hB3, hl3, hc3, _⟩ := oA.op (by omega)
      obtain ⟨g4, rfl, hB4, hl4, hc4, _⟩ := oS.op (by omega)
      replace hc3 := hc3 k hlt
      replace hc4 := hc4 k hlt
      have b1 := Htb.out k (by rw [HP.out]; exact hlt)
      have b2 := Hs.out k (by rw [HP.out]; exact hlt)
      have b3 := Hl.out k
      have HM := Lib.hid (envTo_succ P W X k)
      have hsz := hF.size
      go_wp2_with fail
      refine (lowest_any _ _ _ (by omega) (by omega)).mono ?_
      rintro e w5 ⟨rfl, f2⟩
      have oP2 := oP.fr f2
      have oA2 := oA.fr f2
      have oS2 := oS.fr f2
      have hF2 := hF.trans f2
      have hsz2 := hF2.size
      have fa : Fr w5 ((w5.alloc (.cells #[.int .i64 (lowA (nth (capM P W X) k) (nth (gathM P W) k)), .int .i64 (lowB (nth (capM P W X) k) (nth (gathM P W) k))] 46)).alloc (.cells #[.int .i64 (lowA (nth (capM P W X) k) (nth (gathM P W) k)), .int .i64 (lowB (nth (capM P W X) k) (nth (gathM P W) k))] 46)) := ((Fr.refl _).alloc _).alloc _
      have Bn := Blk.new (w5.alloc (.cells #[.int .i64 (lowA (nth (capM P W X) k) (nth (gathM P W) k)), .int .i64 (lowB (nth (capM P W X) k) (nth (gathM P W) k))] 46)) #[.int .i64 (lowA (nth (capM P W X) k) (nth (gathM P W) k)), .int .i64 (lowB (nth (capM P W X) k) (nth (gathM P W) k))] 46
      rw [World.size_alloc] at Bn
      have HBn := Lib.hid Bn
      clear Bn
      go_wp2_with (at_builtin; refine ap_pair _ rfl _ _ rfl w2.heap.size ap k cc (envTo P W X k) _ _ (w5.heap.size + 1) rfl rfl (oP2.fr fa) (by simp; omega) (HBn.out.cell (j := 0) rfl) (HBn.out.cell (j := 1) rfl) (by omega) (w5.heap.size + 1 + 1) (by simp) ?_)
      intro g' c' w' q1 q2 q3
      have oA3 := (oA2.fr fa).grown q2 (by
        cases hx : blkOf (some (⟨g3, 0, none⟩ : Addr)) with
        | none => exact .inl rfl
        | some z => exact .inr fun e => ap3 z e.symm hx)
      have oS3 := (oS2.fr fa).grown q2 (by
        cases hx : blkOf (some (⟨g4, 0, none⟩ : Addr)) with
        | none => exact .inl rfl
        | some z => exact .inr fun e => ap4 z e.symm hx)
      have n3 : Apart (some ⟨g', 0, none⟩) (some ⟨g3, 0, none⟩) := by
        intro z h1 h2
        simp only [blkOf, Option.map_some, Option.some.injEq] at h1
        subst h1
        rcases q3 with h | h
        · exact ap3 _ h h2
        · have := (oA2.blk _ h2).2; omega
      have n4 : Apart (some ⟨g', 0, none⟩) (some ⟨g4, 0, none⟩) := by
        intro z h1 h2
        simp only [blkOf, Option.map_some, Option.some.injEq] at h1
        subst h1
        rcases q3 with h | h
        · exact ap4 _ h h2
        · have := (oS2.blk _ h2).2; omega
      have hF3 := (hF2.trans fa).grown q2 (fun z hz => (oP2.blk z hz).1)
      go_wp2
      go_roundw
      case rel => exact ⟨k + 1, c', _, by omega, by go_num, rfl, by rw [HM.out]; exact q1, oA3, oS3, n3, n4, hF3⟩
      case measure => simp [intOf]; omega
    · obtain rfl : k = n3 := by omega
      have HM : Hid (envTo P W X k = envM P W X) := Lib.hid (by rw [envM, HP.out])
      rw [HM.out] at oP
      have hz2 := hF2.size
      go_wp2
      go_ret2
      exact ⟨_, _, _, rfl, oP.mono hz2, hF2.trans hF, by omega⟩

end Go.Proofs.Ytojipjjfndgbhaa
