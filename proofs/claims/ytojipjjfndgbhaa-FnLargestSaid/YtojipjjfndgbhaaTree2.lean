import Derived.Test.YtojipjjfndgbhaaTree
/- Contracts of trees: IsTree, l2Kids, l2Good. -/
set_option linter.unusedVariables false
namespace Go.Proofs.Ytojipjjfndgbhaa
open Go.ChangeShapes Go.WideShapes Go.ChangeAt Go.RowKit

theorem parB_mk {P : List Int} (h0 : nth P 0 = -1) (h : ∀ x, x < P.length → 1 ≤ x → parOk P x = true) : parB P = true :=
  parB_iff.2 ⟨h0, fun x hx h1 => by have := h x hx h1; rwa [parOk, inB_iff] at this⟩

theorem wei_yes {b i : Bool} {x : Int} {t : Bool} (h : t = bif b then i else x == 0) {b' i' z' : Bool} (h1 : b = b') (h2 : i = i') (h3 : (x != 0) = z') (hc : (if b' then i' else !z') = true) : t = true := by
  subst h1; subst h2; subst h3; rw [h]; cases b <;> simp_all [bne]
theorem wei_no {b i : Bool} {x : Int} {t : Bool} (h : t = bif b then i else x == 0) {b' i' z' : Bool} (h1 : b = b') (h2 : i = i') (h3 : (x != 0) = z') (hc : (if b' then i' else !z') = false) : t = false := by
  subst h1; subst h2; subst h3; rw [h]; cases b <;> simp_all [bne]

set_option maxRecDepth 100000 in
theorem IsTree_any (w : World) (p q : Option Addr) (n c m d : Nat) (P W : List Int) (hP : SL w p n c P) (hW : SL w q m d W) :
    Calls Try.prog 69 #[.agg #[.slice p n c, .slice q m d]] w fun e w' => e = .returned (.bool (treeB P W)) ∧ Fr w w' := by
  have HP := Lib.hid hP.len; have HW := Lib.hid hW.len
  have hn : n ≤ 9223372036854775807 := by have := hP.le; have := hP.mx; omega
  have hm : m ≤ 9223372036854775807 := by have := hW.le; have := hW.mx; omega
  have hfr : Fr w (w.alloc (.cells #[.slice p n c, .slice q m d] 29)) := (Fr.refl w).alloc _
  cases h1 : inB n 1 24
  · have HV : Hid (treeB P W = false) := Lib.hid (treeB_noLen (by rw [HP.out]; exact h1))
    go_enter Try.func69, Try.ntmps69
    go_wp2_with (go_at_call 72; refine (within_any _ _ _ _).mono ?_; rintro e w' ⟨rfl, rfl⟩)
    go_ret
    exact ⟨by rw [HV.out]; rfl, hfr⟩
  have hb1 := inB_iff.1 h1
  by_cases h2 : m = n
  rotate_left
  · have HV : Hid (treeB P W = false) := Lib.hid (treeB_noW (by rw [HP.out, HW.out]; exact h2))
    have hb2 : ((m : Int) != (n : Int)) = true := by simp; omega
    clear h2
    go_enter Try.func69, Try.ntmps69
    go_wp2_with (go_at_call 72; refine (within_any _ _ _ _).mono ?_; rintro e w' ⟨rfl, rfl⟩)
    go_ret
    exact ⟨by rw [HV.out]; rfl, hfr⟩
  subst h2
  have hP' := hP.fr hfr
  obtain ⟨bp, op, rfl, hcp⟩ := hP'.cells.resolve_left (by omega)
  have hc0 := hcp 0 (by omega)
  rw [Nat.add_zero] at hc0
  clear hcp
  by_cases h3 : nth P 0 = -1
  rotate_left
  · have HV : Hid (treeB P W = false) := Lib.hid (treeB_noPar (parB_no0 h3))
    have hb3 : (nth P 0 != -1) = true := by simp [h3]
    have hm0 : (0 : Int) < (m : Int) := by omega
    clear h3
    go_enter Try.func69, Try.ntmps69
    go_wp2_with (go_at_call 72; refine (within_any _ _ _ _).mono ?_; rintro e w' ⟨rfl, rfl⟩)
    go_ret
    exact ⟨by rw [HV.out]; rfl, hfr⟩
  have hb3 : (nth P 0 != -1) = false := by simp [h3]
  have H3 := Lib.hid h3
  clear h3
  have hm0 : (0 : Int) < (m : Int) := by omega
  go_enter Try.func69, Try.ntmps69
  go_wp2_with (go_at_call 72; refine (within_any _ _ _ _).mono ?_; rintro e w' ⟨rfl, rfl⟩)
  clear h1 hb3 hc0 hP'
  go_loop [4] (fun i => ∃ k : Nat, 1 ≤ k ∧ k ≤ m ∧ i = .int .i64 k ∧ Hid (∀ x, x < k → 1 ≤ x → parOk P x = true)) (fun i => m - (intOf i).toNat)
  case atStart => exact ⟨1, by omega, by omega, rfl, Lib.hid (fun x h1 h2 => by omega)⟩
  case round =>
    obtain ⟨k, hk1, hk, rfl, hs⟩ := hrel
    by_cases hlt : k < m
    · obtain ⟨b', o', e, hc⟩ := (hP.fr hfr).cells.resolve_left (by omega)
      simp only [Option.some.injEq, Addr.mk.injEq, and_true] at e
      obtain ⟨rfl, rfl⟩ := e
      replace hc := hc k hlt
      have HK : Hid (parOk P k = inB (nth P k) 0 ((k : Int) - 1)) := Lib.hid rfl
      cases hb : inB (nth P k) 0 ((k : Int) - 1)
      · have HX : Hid (parOk P k = false) := Lib.hid (by rw [HK.out, hb])
        have HV : Hid (treeB P W = false) := Lib.hid (treeB_noPar (parB_no (by rw [HP.out]; exact hlt) hk1 HX.out))
        go_wp2_with (go_at_call 72; refine (within_any _ _ _ _).mono ?_; rintro e w' ⟨rfl, rfl⟩)
        go_ret
        exact ⟨by rw [HV.out]; rfl, hfr⟩
      · have HX : Hid (parOk P k = true) := Lib.hid (by rw [HK.out, hb])
        go_wp2_with (go_at_call 72; refine (within_any _ _ _ _).mono ?_; rintro e w' ⟨rfl, rfl⟩)
        clear hb
        go_round
        case rel => exact ⟨k + 1, by omega, by omega, by go_num, Lib.hid (fun x h1 h2 => by by_cases e : x = k; (· subst e; exact HX.out); (· exact hs.out x (by omega) h2))⟩
        case measure => simp [intOf]; omega
    · obtain rfl : k = m := by omega
      have Hpar : Hid (parB P = true) := Lib.hid (parB_mk H3.out (by rw [HP.out]; exact hs.out))
      go_wp2_with fail
      refine (isEnd_any _ _ _ _ _ _ _ _ (hP.fr hfr) Hpar.out (by omega)).mono ?_
      rintro e w1 ⟨a1, n1, c1, rfl, o1, f1, _⟩
      obtain rfl : n1 = k := by rw [← o1.len, endsAt_len, HP.out]
      have hbox1 := f1.newCell (j := 1) (v := .slice q n1 d) rfl
      have hf1 := hfr.trans f1
      go_wp2
      go_loop [44] (fun i => ∃ j : Nat, j ≤ n1 ∧ i = .int .i64 j ∧ Hid (∀ x, x < j → weiOk P W x = true)) (fun i => n1 - (intOf i).toNat)
      case atStart => exact ⟨0, by omega, rfl, Lib.hid (fun x h1 => by omega)⟩
      case round =>
        obtain ⟨j, hj, rfl, hs2⟩ := hrel
        by_cases hjt : j < n1
        · obtain ⟨bq, oq, rfl, hcq⟩ := (hW.fr hf1).cells.resolve_left (by omega)
          replace hcq := hcq j hjt
          obtain ⟨g, rfl, _, _, hce, _⟩ := o1.op (by omega)
          replace hce := hce j hjt
          rw [endsAt_nth _ _ _ (by rw [HP.out]; exact hjt)] at hce
          have HE : Hid (weiOk P W j = bif endTo P j n1 then inB (nth W j) 1 20 else nth W j == 0) := Lib.hid (by rw [weiOk, endB, HP.out])
          cases he : endTo P j n1 <;> cases hi : inB (nth W j) 1 20 <;> cases hz : (nth W j != 0)
          all_goals
            have HH := Lib.hid (And.intro he (And.intro hi hz))
            go_wp2_with (go_at_call 72; refine (within_any _ _ _ _).mono ?_; rintro e w' ⟨rfl, rfl⟩)
            first
              | (clear he hi hz
                 go_round
                 case rel => exact ⟨j + 1, by omega, by go_num, Lib.hid (fun x h1 => by by_cases e : x = j; (· subst e; exact wei_yes HE.out HH.out.1 HH.out.2.1 HH.out.2.2 (by simp)); (· exact hs2.out x (by omega)))⟩
                 case measure => simp [intOf]; omega)
              | (go_ret
                 have HV : Hid (treeB P W = false) := Lib.hid (treeB_noWei (by rw [HP.out]; exact hjt) (wei_no HE.out HH.out.1 HH.out.2.1 HH.out.2.2 (by simp)))
                 exact ⟨by rw [HV.out]; rfl, hf1⟩)
        · obtain rfl : j = n1 := by omega
          have HV : Hid (treeB P W = true) := Lib.hid (treeB_iff.2 ⟨by rw [HP.out]; omega, by rw [HP.out, HW.out], Hpar.out, by rw [HP.out]; exact hs2.out⟩)
          go_wp2
          go_ret
          exact ⟨by rw [HV.out]; rfl, hf1⟩

end Go.Proofs.Ytojipjjfndgbhaa
