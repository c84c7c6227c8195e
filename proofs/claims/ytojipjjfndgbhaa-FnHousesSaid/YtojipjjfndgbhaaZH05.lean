import Derived.Test.YtojipjjfndgbhaaZH04
/- Contracts of trees: l2Kids, l2Good, l3Good. -/
set_option linter.unusedVariables false
namespace Go.Proofs.Ytojipjjfndgbhaa
open Go.ChangeShapes Go.WideShapes Go.ChangeAt Go.RowKit

set_option maxRecDepth 100000 in
theorem l2Kids_any (w : World) (p q : Option Addr) (n c m d x : Nat) (P : List Int) (hP : SL w p n c P) (hp : parB P = true) (hn : n ≤ 1048576) (hx : x < n) :
    Calls Try.prog 136 #[.agg #[.slice p n c, .slice q m d], .int .i64 x] w (RetS (kidsTo P x n) w) := by
  have HP := Lib.hid hP.len
  have H0 : Hid (kidsTo P x (x + 1) = []) := Lib.hid (kidsTo_from hp (Nat.le_refl _) (by rw [HP.out]; omega))
  clear hp
  have hmade := Own.made0 (B := w.heap.size + 1) (w.alloc (.cells #[.slice p n c, .slice q m d] 29)) (by simp)
  have hfa : Fr (w.alloc (.cells #[.slice p n c, .slice q m d] 29)) ((w.alloc (.cells #[.slice p n c, .slice q m d] 29)).alloc (.cells #[] 3)) := (Fr.refl _).alloc _
  go_enter Try.func136, Try.ntmps136
  go_wp2
  go_loopw [5, 6] (fun v i wr => ∃ (k l cc : Nat) (a : Option Addr), x + 1 ≤ k ∧ k ≤ n ∧ i = .int .i64 k ∧ v = .slice a l cc ∧ Own (w.heap.size + 1) wr a l cc (kidsTo P x k) ∧ Fr (w.alloc (.cells #[.slice p n c, .slice q m d] 29)) wr) (fun _ i _ => n - (intOf i).toNat)
  case atStart => exact ⟨x + 1, 0, 0, _, by omega, by omega, by go_num, rfl, by rw [H0.out]; simpa using hmade, hfa⟩
  case round =>
    clear hmade hfa
    obtain ⟨k, l, cc, a, hk1, hk, rfl, rfl, ho, hf⟩ := hrel
    have hbox := hf.newCell (j := 0) (v := .slice p n c) rfl
    have hF : Fr w wr := ((Fr.refl w).alloc _).trans hf
    by_cases hlt : k < n
    · obtain ⟨b, off, rfl, hc⟩ := (hP.fr hF).cells.resolve_left (by omega)
      replace hc := hc k hlt
      have hs := kidsTo_succ P x k
      have hln : l ≤ 1048576 := by have := ho.len; have := kidsTo_len P x k; omega
      by_cases he : nth P k = (x : Int)
      · rw [if_pos he] at hs
        have HS := Lib.hid hs
        have hb : (nth P k == (x : Int)) = true := by simp [he]
        have hsz : w.heap.size + 1 ≤ wr.heap.size := by have := hf.size; simpa using this
        clear he hs
        go_wp2_with (at_builtin; refine ap_int _ rfl _ _ rfl (w.heap.size + 1) a l cc _ _ rfl rfl ho hsz (by unfold I64; omega) hln ?_)
        intro g c' w' k1 k2 k3
        go_wp2
        go_roundw
        case rel =>
          refine ⟨k + 1, l + 1, c', _, by omega, by omega, by go_num, rfl, by rw [HS.out]; exact k1, hf.grown k2 (fun z hz => by have := (ho.blk z hz).1; simp; omega)⟩
        case measure => simp [intOf]; omega
      · rw [if_neg he] at hs
        have HS := Lib.hid hs
        have hb : (nth P k == (x : Int)) = false := by simp [he]
        clear he hs
        go_wp2
        go_roundw
        case rel => exact ⟨k + 1, l, cc, a, by omega, by omega, by go_num, rfl, by rw [HS.out]; exact ho, hf⟩
        case measure => simp [intOf]; omega
    · obtain rfl : k = n := by omega
      have hln : l ≤ k := by have := ho.len; have := kidsTo_len P x k; omega
      go_wp2
      go_ret
      exact ⟨_, _, _, rfl, ho.mono (by omega), hF, by omega⟩

set_option maxRecDepth 100000 in
theorem l2Good_any (w : World) (p q : Option Addr) (n c m d : Nat) (P W : List Int) (hP : SL w p n c P) (hW : SL w q m d W) :
    Calls Try.prog 113 #[.agg #[.slice p n c, .slice q m d]] w fun e w' => e = .returned (.bool (treeB P W)) ∧ Fr w w' := by
  have HP := Lib.hid hP.len; have HW := Lib.hid hW.len
  have hn : n ≤ 9223372036854775807 := by have := hP.le; have := hP.mx; omega
  have hm : m ≤ 9223372036854775807 := by have := hW.le; have := hW.mx; omega
  have hfr : Fr w (w.alloc (.cells #[.slice p n c, .slice q m d] 29)) := (Fr.refl w).alloc _
  cases h1 : inB n 1 24
  · have HV : Hid (treeB P W = false) := Lib.hid (treeB_noLen (by rw [HP.out]; exact h1))
    go_enter Try.func113, Try.ntmps113
    go_wp2_with (go_at_call 88; refine (l1In_any _ _ _ _).mono ?_; rintro e w' ⟨rfl, rfl⟩)
    go_ret
    exact ⟨by rw [HV.out]; rfl, hfr⟩
  have hb1 := inB_iff.1 h1
  by_cases h2 : m = n
  rotate_left
  · have HV : Hid (treeB P W = false) := Lib.hid (treeB_noW (by rw [HP.out, HW.out]; exact h2))
    have hb2 : ((m : Int) != (n : Int)) = true := by simp; omega
    clear h2
    go_enter Try.func113, Try.ntmps113
    go_wp2_with (go_at_call 88; refine (l1In_any _ _ _ _).mono ?_; rintro e w' ⟨rfl, rfl⟩)
    go_ret
    exact ⟨by rw [HV.out]; rfl, hfr⟩
  subst h2
  go_enter Try.func113, Try.ntmps113
  go_wp2_with (go_at_call 88; refine (l1In_any _ _ _ _).mono ?_; rintro e w' ⟨rfl, rfl⟩)
  clear h1
  go_loop [4] (fun i => ∃ k : Nat, k ≤ m ∧ i = .int .i64 k ∧ Hid ((1 ≤ k → nth P 0 = -1) ∧ ∀ x, x < k → 1 ≤ x → parOk P x = true)) (fun i => m - (intOf i).toNat)
  case atStart => exact ⟨0, by omega, rfl, Lib.hid ⟨fun h => by omega, fun x h1 h2 => by omega⟩⟩
  case round =>
    obtain ⟨k, hk, rfl, hs⟩ := hrel
    by_cases hlt : k < m
    · obtain ⟨b', o', rfl, hc⟩ := (hP.fr hfr).cells.resolve_left (by omega)
      replace hc := hc k hlt
      by_cases hk0 : k = 0
      · subst hk0
        rw [Nat.add_zero] at hc
        have hm0 : (0 : Int) < (m : Int) := by omega
        by_cases h3 : nth P 0 = -1
        · have H3 := Lib.hid h3
          have hb3 : (nth P 0 != -1) = false := by simp [h3]
          clear h3
          go_wp2_with (go_at_call 88; refine (l1In_any _ _ _ _).mono ?_; rintro e w' ⟨rfl, rfl⟩)
          go_round
          case rel => exact ⟨1, by omega, by go_num, Lib.hid ⟨fun _ => H3.out, fun x h1 h2 => by omega⟩⟩
          case measure => simp [intOf]; omega
        · have HV : Hid (treeB P W = false) := Lib.hid (treeB_noPar (parB_no0 h3))
          have hb3 : (nth P 0 != -1) = true := by simp [h3]
          clear h3
          go_wp2_with (go_at_call 88; refine (l1In_any _ _ _ _).mono ?_; rintro e w' ⟨rfl, rfl⟩)
          go_ret
          exact ⟨by rw [HV.out]; rfl, hfr⟩
      · have hz : ((k : Int) == 0) = false := beq_eq_false_iff_ne.2 (by omega)
        have hz2 : decide (0 < k) = true := by simp; omega
        have HK : Hid (parOk P k = inB (nth P k) 0 ((k : Int) - 1)) := Lib.hid rfl
        have hk1 : 1 ≤ k := by omega
        clear hk0
        cases hb : inB (nth P k) 0 ((k : Int) - 1)
        · have HX : Hid (parOk P k = false) := Lib.hid (by rw [HK.out, hb])
          have HV : Hid (treeB P W = false) := Lib.hid (treeB_noPar (parB_no (by rw [HP.out]; exact hlt) hk1 HX.out))
          go_wp2_with (go_at_call 88; refine (l1In_any _ _ _ _).mono ?_; rintro e w' ⟨rfl, rfl⟩)
          go_ret
          exact ⟨by rw [HV.out]; rfl, hfr⟩
        · have HX : Hid (parOk P k = true) := Lib.hid (by rw [HK.out, hb])
          go_wp2_with (go_at_call 88; refine (l1In_any _ _ _ _).mono ?_; rintro e w' ⟨rfl, rfl⟩)
          clear hb
          go_round
          case rel => exact ⟨k + 1, by omega, by go_num, Lib.hid ⟨fun _ => hs.out.1 hk1, fun x h1 h2 => by by_cases e : x = k; (· subst e; exact HX.out); (· exact hs.out.2 x (by omega) h2)⟩⟩
          case measure => simp [intOf]; omega
    · obtain rfl : k = m := by omega
      have Hpar : Hid (parB P = true) := Lib.hid (parB_mk (hs.out.1 (by omega)) (by rw [HP.out]; exact hs.out.2))
      clear hs
      go_wp2
      go_loopw [5] (fun i wr => ∃ j : Nat, j ≤ k ∧ i = .int .i64 j ∧ Hid (∀ x, x < j → weiOk P W x = true) ∧ Fr (w.alloc (.cells #[.slice p k c, .slice q k d] 29)) wr) (fun i _ => k - (intOf i).toNat)
      case atStart => exact ⟨0, by omega, rfl, Lib.hid (fun x h1 => by omega), Fr.refl _⟩
      case round =>
        obtain ⟨j, hj, rfl, hs2, hf⟩ := hrel
        have hF : Fr w wr := hfr.trans hf
        by_cases hjt : j < k
        · have hbox0 := hf.newCell (j := 0) (v := .slice p k c) rfl
          have hbox1 := hf.newCell (j := 1) (v := .slice q k d) rfl
          go_wp2_with fail
          refine (l2Kids_any _ _ _ _ _ _ _ j _ (hP.fr hF) Hpar.out (by omega) hjt).mono ?_
          rintro e w2 ⟨a2, n2, c2, rfl, o2, f2, _⟩
          have hF2 := hF.trans f2
          obtain ⟨bq, oq, rfl, hcq⟩ := (hW.fr hF2).cells.resolve_left (by omega)
          replace hcq := hcq j hjt
          have hbox2 := f2.keep hbox1
          clear hbox0 hbox1
          have Ho := Lib.hid o2.len
          have hne : ((n2 : Int) == 0) = endTo P j k := by
            rw [Bool.eq_iff_iff, ← kidsTo_nil, ← List.length_eq_zero_iff, Ho.out]; simp
          have HE : Hid (weiOk P W j = bif endTo P j k then inB (nth W j) 1 20 else nth W j == 0) := Lib.hid (by rw [weiOk, endB, HP.out])
          cases he : endTo P j k <;> cases hi : inB (nth W j) 1 20 <;> cases hz : (nth W j != 0)
          all_goals
            have HH := Lib.hid (And.intro he (And.intro hi hz))
            rw [he] at hne
            go_wp2_with (go_at_call 88; refine (l1In_any _ _ _ _).mono ?_; rintro e w' ⟨rfl, rfl⟩)
            first
              | (clear he hi hz hne
                 go_roundw
                 case rel => exact ⟨j + 1, by omega, by go_num, Lib.hid (fun x h1 => by by_cases e : x = j; (· subst e; exact wei_yes HE.out HH.out.1 HH.out.2.1 HH.out.2.2 (by simp)); (· exact hs2.out x (by omega))), hf.trans f2⟩
                 case measure => simp [intOf]; omega)
              | (go_ret
                 have HV : Hid (treeB P W = false) := Lib.hid (treeB_noWei (by rw [HP.out]; exact hjt) (wei_no HE.out HH.out.1 HH.out.2.1 HH.out.2.2 (by simp)))
                 exact ⟨by rw [HV.out]; rfl, hF2⟩)
        · obtain rfl : j = k := by omega
          have HV : Hid (treeB P W = true) := Lib.hid (treeB_iff.2 ⟨by rw [HP.out]; omega, by rw [HP.out, HW.out], Hpar.out, by rw [HP.out]; exact hs2.out⟩)
          go_wp2
          go_ret
          exact ⟨by rw [HV.out]; rfl, hF⟩

end Go.Proofs.Ytojipjjfndgbhaa
/- Contracts of houses: l3Good, IsHouse. -/
set_option linter.unusedVariables false
namespace Go.Proofs.Ytojipjjfndgbhaa
open Go.ChangeShapes Go.WideShapes Go.ChangeAt Go.RowKit

def l3B (P W X : List Int) : Bool := treeB P W && procB P X
def houseB (P W X : List Int) (a s u k : Int) : Bool := l3B P W X && inB a 0 ((P.length : Int) - 1) && inB s (-20) 20 && inB u (-1000000) 1000000 && inB k 0 1000

theorem l3Good_any (w : World) (p q a : Option Addr) (n c m d l k : Nat) (P W X : List Int) (hP : SL w p n c P) (hW : SL w q m d W) (hX : SL w a l k X) :
    Calls Try.prog 73 #[.agg #[.slice p n c, .slice q m d], .slice a l k] w fun e w' => e = .returned (.bool (l3B P W X)) ∧ Fr w w' := by
  have HP := Lib.hid hP.len; have HX := Lib.hid hX.len
  have hn : n ≤ 9223372036854775807 := by have := hP.le; have := hP.mx; omega
  have hl : l ≤ 9223372036854775807 := by have := hX.le; have := hX.mx; omega
  have hfr : Fr w (w.alloc (.cells #[.slice p n c, .slice q m d] 29)) := (Fr.refl w).alloc _
  go_enter Try.func73, Try.ntmps73
  go_wp2
  go_loop [5] (fun i => ∃ j : Nat, j ≤ l ∧ i = .int .i64 j ∧ Hid (allB (X.take j) (-999) 999 = true)) (fun i => l - (intOf i).toNat)
  case atStart => exact ⟨0, Nat.zero_le _, rfl, Lib.hid rfl⟩
  case round =>
    obtain ⟨j, hj, rfl, ha⟩ := hrel
    by_cases hlt : j < l
    · obtain ⟨b, off, rfl, hc⟩ := (hX.fr hfr).cells.resolve_left (by omega)
      replace hc := hc j hlt
      have hks : j < X.length := by rw [HX.out]; exact hlt
      have HS := Lib.hid (allB_snoc X (-999) 999 j hks)
      have HKS := Lib.hid hks
      clear hks
      cases hb : inB (nth X j) (-999) 999
      · have HV : Hid (l3B P W X = false) := Lib.hid (by rw [l3B, procB, allB_no HKS.out hb]; simp)
        go_wp2_with (go_at_call 88; refine (l1In_any _ _ _ _).mono ?_; rintro e w' ⟨rfl, rfl⟩)
        go_ret
        exact ⟨by rw [HV.out]; rfl, hfr⟩
      · have HB := Lib.hid hb
        go_wp2_with (go_at_call 88; refine (l1In_any _ _ _ _).mono ?_; rintro e w' ⟨rfl, rfl⟩)
        go_round
        case rel => exact ⟨j + 1, by omega, by go_num, Lib.hid (by rw [HS.out, ha.out, HB.out]; rfl)⟩
        case measure => simp [intOf]; omega
    · obtain rfl : j = l := by omega
      have HA : Hid (allB X (-999) 999 = true) := Lib.hid (by rw [← List.take_of_length_le (l := X) (i := j) (by rw [HX.out]; omega)]; exact ha.out)
      go_wp2_with fail
      refine (l2Good_any _ _ _ _ _ _ _ _ _ (hP.fr hfr) (hW.fr hfr)).mono ?_
      rintro e w1 ⟨rfl, f1⟩
      have hbox := f1.newCell (j := 0) (v := .slice p n c) rfl
      have HV : Hid (l3B P W X = (treeB P W && (j == n))) := Lib.hid (by rw [l3B, procB, HA.out, HP.out, HX.out, Bool.and_true])
      cases ht : treeB P W
      · have HV2 : Hid (l3B P W X = false) := Lib.hid (by rw [HV.out, ht]; rfl)
        go_wp2
        go_ret
        exact ⟨by rw [HV2.out]; rfl, hfr.trans f1⟩
      · have HV2 : Hid (l3B P W X = ((j : Int) == (n : Int))) := Lib.hid (by rw [HV.out, ht, beq_nat]; rfl)
        go_wp2
        go_ret
        exact ⟨by rw [HV2.out]; rfl, hfr.trans f1⟩

set_option maxRecDepth 100000 in
theorem impl_IsHouse_any (w : World) (p q a : Option Addr) (n c m d l k : Nat) (P W X : List Int) (hP : SL w p n c P) (hW : SL w q m d W) (hX : SL w a l k X) (x s u v : Int) :
    Calls Try.prog 18 #[.agg #[.slice p n c, .slice q m d, .slice a l k, .int .i64 x, .int .i64 s, .int .i64 u, .int .i64 v]] w fun e w' => e = .returned (.bool (houseB P W X x s u v)) ∧ Fr w w' := by
  have HP := Lib.hid hP.len
  have hfr : Fr w (w.alloc (.cells #[.slice p n c, .slice q m d, .slice a l k, .int .i64 x, .int .i64 s, .int .i64 u, .int .i64 v] 31)) := (Fr.refl w).alloc _
  have hP1 := hP.fr hfr
  have hW1 := hW.fr hfr
  have hX1 := hX.fr hfr
  have HV : Hid (houseB P W X x s u v = (treeB P W && procB P X && inB x 0 ((n : Int) - 1) && inB s (-20) 20 && inB u (-1000000) 1000000 && inB v 0 1000)) := Lib.hid (by rw [houseB, l3B, HP.out])
  go_enter Try.func18, Try.ntmps18
  go_wp2_with fail
  refine (IsTree_any _ _ _ _ _ _ _ _ _ hP1 hW1).mono ?_
  rintro e w1 ⟨rfl, f1⟩
  have b10 := f1.newCell (j := 0) (v := .slice p n c) rfl
  have b11 := f1.newCell (j := 1) (v := .slice q m d) rfl
  have b12 := f1.newCell (j := 2) (v := .slice a l k) rfl
  have b13 := f1.newCell (j := 3) (v := .int .i64 x) rfl
  have b14 := f1.newCell (j := 4) (v := .int .i64 s) rfl
  have b15 := f1.newCell (j := 5) (v := .int .i64 u) rfl
  have b16 := f1.newCell (j := 6) (v := .int .i64 v) rfl
  cases h1 : treeB P W
  · have HV2 : Hid (houseB P W X x s u v = false) := Lib.hid (by rw [HV.out, h1]; rfl)
    go_wp2
    go_ret
    exact ⟨by rw [HV2.out]; rfl, hfr.trans f1⟩
  have H1 := Lib.hid h1
  go_wp2_with fail
  refine (isProcess_any _ _ _ _ _ _ _ _ _ _ _ W _ (hP1.fr f1) (hX1.fr f1)).mono ?_
  rintro e w2 ⟨rfl, f2⟩
  replace b10 := f2.keep b10; replace b11 := f2.keep b11; replace b13 := f2.keep b13; replace b14 := f2.keep b14; replace b15 := f2.keep b15; replace b16 := f2.keep b16
  cases h2 : procB P X
  · have HV2 : Hid (houseB P W X x s u v = false) := Lib.hid (by rw [HV.out, H1.out, h2]; rfl)
    go_wp2
    go_ret
    exact ⟨by rw [HV2.out]; rfl, (hfr.trans f1).trans f2⟩
  have H2 := Lib.hid h2
  go_wp2_with fail
  refine (isNode_any _ _ _ _ _ _ _ _ W (hP1.fr (f1.trans f2)) _).mono ?_
  rintro e w3 ⟨rfl, f3⟩
  replace b14 := f3.keep b14; replace b15 := f3.keep b15; replace b16 := f3.keep b16
  have hF := ((hfr.trans f1).trans f2).trans f3
  cases h3 : inB x 0 ((n : Int) - 1) <;> cases h4 : inB s (-20) 20 <;> cases h5 : inB u (-1000000) 1000000
  all_goals
    have HV2 := Lib.hid (show houseB P W X x s u v = _ from by rw [HV.out, H1.out, H2.out, h3, h4, h5])
    go_wp2_with (go_at_call 72; refine (within_any _ _ _ _).mono ?_; rintro e w' ⟨rfl, rfl⟩)
    go_ret
    exact ⟨by rw [HV2.out]; rfl, hF⟩

set_option maxRecDepth 100000 in
theorem l12Good_any (w : World) (p q a : Option Addr) (n c m d l k : Nat) (P W X : List Int) (hP : SL w p n c P) (hW : SL w q m d W) (hX : SL w a l k X) (x s u v : Int) :
    Calls Try.prog 68 #[.agg #[.slice p n c, .slice q m d, .slice a l k, .int .i64 x, .int .i64 s, .int .i64 u, .int .i64 v]] w fun e w' => e = .returned (.bool (houseB P W X x s u v)) ∧ Fr w w' := by
  have HP := Lib.hid hP.len
  have HX := Lib.hid hX.len
  have hl : l ≤ 9223372036854775807 := by have := hX.le; have := hX.mx; omega
  have hfr : Fr w (w.alloc (.cells #[.slice p n c, .slice q m d, .slice a l k, .int .i64 x, .int .i64 s, .int .i64 u, .int .i64 v] 31)) := (Fr.refl w).alloc _
  have HV : Hid (houseB P W X x s u v = (l3B P W X && inB x 0 ((n : Int) - 1) && inB s (-20) 20 && inB u (-1000000) 1000000 && inB v 0 1000)) := Lib.hid (by rw [houseB, HP.out])
  go_enter Try.func68, Try.ntmps68
  go_wp2_with fail
  refine (l3Good_any _ _ _ _ _ _ _ _ _ _ _ _ _ (hP.fr hfr) (hW.fr hfr) (hX.fr hfr)).mono ?_
  rintro e w1 ⟨rfl, f1⟩
  have b12 := f1.newCell (j := 2) (v := .slice a l k) rfl
  have b13 := f1.newCell (j := 3) (v := .int .i64 x) rfl
  have b14 := f1.newCell (j := 4) (v := .int .i64 s) rfl
  have b15 := f1.newCell (j := 5) (v := .int .i64 u) rfl
  have b16 := f1.newCell (j := 6) (v := .int .i64 v) rfl
  cases h1 : l3B P W X
  · have HV2 : Hid (houseB P W X x s u v = false) := Lib.hid (by rw [HV.out, h1]; rfl)
    go_wp2
    go_ret
    exact ⟨by rw [HV2.out]; rfl, hfr.trans f1⟩
  have hln : l = n := by
    rw [l3B, Bool.and_eq_true] at h1
    rw [← HX.out, ← HP.out]; exact (procB_iff.1 h1.2).1
  have H1 := Lib.hid h1
  subst hln
  have hF := hfr.trans f1
  cases h3 : inB x 0 ((l : Int) - 1) <;> cases h4 : inB s (-20) 20 <;> cases h5 : inB u (-1000000) 1000000
  all_goals
    have HV2 := Lib.hid (show houseB P W X x s u v = _ from by rw [HV.out, H1.out, h3, h4, h5])
    go_wp2_with (go_at_call 88; refine (l1In_any _ _ _ _).mono ?_; rintro e w' ⟨rfl, rfl⟩)
    go_ret
    exact ⟨by rw [HV2.out]; rfl, hF⟩

theorem spec_IsHouse_any (w : World) (p q a : Option Addr) (n c m d l k : Nat) (P W X : List Int) (hP : SL w p n c P) (hW : SL w q m d W) (hX : SL w a l k X) (x s u v : Int) :
    Calls Try.prog 16 #[.agg #[.slice p n c, .slice q m d, .slice a l k, .int .i64 x, .int .i64 s, .int .i64 u, .int .i64 v]] w fun e w' => e = .returned (.bool (houseB P W X x s u v)) ∧ Fr w w' := by
  have hfr : Fr w (w.alloc (.cells #[.slice p n c, .slice q m d, .slice a l k, .int .i64 x, .int .i64 s, .int .i64 u, .int .i64 v] 31)) := (Fr.refl w).alloc _
  go_enter Try.func16, Try.ntmps16
  go_wp2_with fail
  refine (l12Good_any _ _ _ _ _ _ _ _ _ _ _ _ _ (hP.fr hfr) (hW.fr hfr) (hX.fr hfr) _ _ _ _).mono ?_
  rintro e w1 ⟨rfl, f1⟩
  go_wp2
  go_ret
  exact ⟨rfl, hfr.trans f1⟩

end Go.Proofs.Ytojipjjfndgbhaa
