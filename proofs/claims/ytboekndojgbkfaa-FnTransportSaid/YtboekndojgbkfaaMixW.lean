import Derived.Test.YtboekndojgbkfaaDistW
import Derived.Test.YtboekndojgbkfaaFill4
/- Contracts of MixSpreads and EarthDistance. -/
set_option linter.unusedVariables false
namespace Go.Proofs.Ytboekndojgbkfaa
open Go.ChangeShapes Go.WideShapes Go.ChangeAt Go.RowKit
theorem ear_bd {p q : List Int} (hp : ∀ i, 0 ≤ nth p i ∧ nth p i ≤ 40) (hq : ∀ i, 0 ≤ nth q i ∧ nth q i ≤ 40) (k : Nat) (hk : k ≤ 8) : 0 ≤ earTo p q k ∧ earTo p q k ≤ 320 * k := by
  induction k with
  | zero => simp [earTo]
  | succ k ih => have h1 := sumTo_bdN hp (k + 1); have h2 := sumTo_bdN hq (k + 1); have := ih (by omega); rw [earTo]; omega
set_option maxRecDepth 100000 in
theorem impl_EarthDistance_any (w : World) (a b : Option Addr) (n1 c1 n2 c2 : Nat) (p q : List Int) (hp : SL w a n1 c1 p) (hq : SL w b n2 c2 q) :
    Calls Try.prog 58 #[.slice a n1 c1, .slice b n2 c2] w fun e w' => e = .returned (.tuple #[.int .i64 (earV p q), .bool (alikeB p q)]) ∧ Fr w w' := by
  have Hp := Lib.hid hp.len; have Hq := Lib.hid hq.len
  cases h1 : alikeB p q
  · have HV : Hid (earV p q = 0) := Lib.hid (by rw [earV, h1]; rfl)
    have H1 := Lib.hid h1
    go_enter Try.func58, Try.ntmps58
    go_wp2_with (go_at_call 74; refine (alike_any _ _ _ _ _ _ _ _ _ hp hq).mono ?_; rintro e w' ⟨rfl, rfl⟩; rw [H1.out])
    go_ret2
    exact ⟨by rw [HV.out]; rfl, Fr.refl _⟩
  · obtain ⟨e1, e2, e3, e4, e5⟩ := AlikeF.of h1 Hp.out Hq.out
    subst e1
    have HPN := Lib.hid e4; have HQN := Lib.hid e5
    have HV : Hid (earV p q = earTo p q n2) := Lib.hid (by rw [earV, h1, Hp.out]; rfl)
    have H1 := Lib.hid h1
    clear e4 e5 h1
    go_enter Try.func58, Try.ntmps58
    go_wp2_with (go_at_call 74; refine (alike_any _ _ _ _ _ _ _ _ _ hp hq).mono ?_; rintro e w' ⟨rfl, rfl⟩; rw [H1.out])
    refine (upTo_any _ _ _ _ _ hp HPN.out (by omega)).mono ?_
    rintro e w1 ⟨a3, n3, c3, rfl, o3, f3, -⟩
    have e3 : n3 = n2 := by rw [← o3.len, upL_len]
    subst e3
    go_wp2_with fail
    refine (upTo_any _ _ _ _ _ (hq.fr f3) HQN.out (by omega)).mono ?_
    rintro e w2 ⟨a4, n4, c4, rfl, o4, f4, -⟩
    have e4 : n4 = n3 := by rw [← o4.len, upL_len]
    subst e4
    have S3 := (o3.fr f4).sl
    have S4 := o4.sl
    have F := f3.trans f4
    clear o3 o4 f3 f4
    go_wp2
    go_loopw [6, 20] (fun x i wr => ∃ k : Nat, k ≤ n4 ∧ i = .int .i64 k ∧ x = .int .i64 (earTo p q k) ∧ Qt w2 wr) (fun _ i _ => n4 - (intOf i).toNat)
    case atStart => exact ⟨0, Nat.zero_le _, rfl, rfl, Qt.refl _⟩
    case round =>
      obtain ⟨k, hk, rfl, rfl, hQ⟩ := hrel
      by_cases hlt : k < n4
      · obtain ⟨x3, o3, rfl, hc3⟩ := (S3.qt hQ).cells.resolve_left (by omega)
        obtain ⟨x4, o4, rfl, hc4⟩ := (S4.qt hQ).cells.resolve_left (by omega)
        replace hc3 := hc3 k hlt
        replace hc4 := hc4 k hlt
        rw [upL_nth hlt] at hc3 hc4
        have i1 : (0 : Int) ≤ (k : Int) := by omega
        have i2 : (k : Int) < (n4 : Int) := by omega
        have b1 := sumTo_bdN HPN.out (k + 1); have b2 := sumTo_bdN HQN.out (k + 1)
        have b3 := ear_bd HPN.out HQN.out k (by omega)
        have E1 : Hid (earTo p q (k + 1) = earTo p q k + max (sumTo p (k + 1) - sumTo q (k + 1)) (sumTo q (k + 1) - sumTo p (k + 1))) := Lib.hid rfl
        generalize sumTo p (k + 1) = x at *
        generalize sumTo q (k + 1) = y at *
        have e1 : IntKind.i64.wrap (x - y) = x - y := IntWalk.i64_in _ (by omega)
        have e2 : IntKind.i64.wrap (y - x) = y - x := IntWalk.i64_in _ (by omega)
        have e3 : IntKind.i64.wrap (earTo p q k + max (x - y) (y - x)) = earTo p q k + max (x - y) (y - x) := IntWalk.i64_in _ (by omega)
        go_wp2
        go_quiet (fail)
        go_wp2
        go_roundw
        case rel => exact ⟨k + 1, by omega, by go_num, by rw [E1.out]; congr 2; split <;> omega, hQ.drewN _⟩
        case measure => simp [intOf]; omega
      · obtain rfl : k = n4 := by omega
        go_wp2
        go_ret2
        exact ⟨by rw [HV.out]; rfl, F.trans hQ.fr⟩
theorem ahead_step {p q : List Int} (k : Nat) : sumTo p k - sumTo q k + nth p k - nth q k = sumTo p (k + 1) - sumTo q (k + 1) := by rw [sumTo, sumTo]; omega
theorem l10Earth_any (w : World) (a b : Option Addr) (n1 c1 n2 c2 : Nat) (p q : List Int) (hp : SL w a n1 c1 p) (hq : SL w b n2 c2 q) (hF : AlikeF p q n1 n2) :
    Calls Try.prog 111 #[.slice a n1 c1, .slice b n2 c2] w fun e w' => e = .returned (.int .i64 (earTo p q n1)) ∧ Fr w w' := by
  obtain ⟨e1, e2, e3, e4, e5⟩ := hF
  subst e1
  have HPN := Lib.hid e4; have HQN := Lib.hid e5
  clear e4 e5
  go_enter Try.func111, Try.ntmps111
  go_wp2
  go_loopw [5, 6, 7] (fun x y i wr => ∃ k : Nat, k ≤ n2 ∧ i = .int .i64 k ∧ x = .int .i64 (earTo p q k) ∧ y = .int .i64 (sumTo p k - sumTo q k) ∧ Qt w wr) (fun _ _ i _ => n2 - (intOf i).toNat)
  case atStart => exact ⟨0, Nat.zero_le _, rfl, rfl, rfl, Qt.refl _⟩
  case round =>
    obtain ⟨k, hk, rfl, rfl, rfl, hQ⟩ := hrel
    by_cases hlt : k < n2
    · obtain ⟨x3, o3, rfl, hc3⟩ := (hp.qt hQ).cells.resolve_left (by omega)
      obtain ⟨x4, o4, rfl, hc4⟩ := (hq.qt hQ).cells.resolve_left (by omega)
      replace hc3 := hc3 k hlt
      replace hc4 := hc4 k hlt
      have i1 : (0 : Int) ≤ (k : Int) := by omega
      have i2 : (k : Int) < (n2 : Int) := by omega
      have b1 := sumTo_bdN HPN.out k; have b2 := sumTo_bdN HQN.out k
      have b5 := sumTo_bdN HPN.out (k + 1); have b6 := sumTo_bdN HQN.out (k + 1)
      have b7 := HPN.out k; have b8 := HQN.out k
      have b3 := ear_bd HPN.out HQN.out k (by omega)
      have E2 := ahead_step (p := p) (q := q) k
      have E1 : Hid (earTo p q (k + 1) = earTo p q k + max (sumTo p (k + 1) - sumTo q (k + 1)) (-(sumTo p (k + 1) - sumTo q (k + 1)))) := Lib.hid (by rw [earTo]; congr 2; omega)
      generalize hd : sumTo p (k + 1) - sumTo q (k + 1) = d at *
      have hdb : -400 ≤ d ∧ d ≤ 400 := by omega
      have HD := Lib.hid hd
      have HE2 := Lib.hid E2
      generalize hc : sumTo p k - sumTo q k = c at *
      have hcb : -400 ≤ c ∧ c ≤ 400 := by omega
      have e1 : IntKind.i64.wrap (c + nth p k) = c + nth p k := IntWalk.i64_in _ (by omega)
      have e2 : IntKind.i64.wrap (c + nth p k - nth q k) = d := by rw [IntWalk.i64_in _ (by omega)]; exact E2
      clear hd hc E2
      go_wp2
      go_quiet (fail)
      go_wp2_with fail
      refine (l1Most_any _ _ _).mono ?_
      rintro e w' ⟨rfl, rfl⟩
      have hm : 0 ≤ max d (-d) ∧ max d (-d) ≤ 400 := by omega
      go_wp2
      go_roundw
      case rel => exact ⟨k + 1, by omega, by go_num, by rw [E1.out], by rw [HD.out], hQ.drewN _⟩
      case measure => simp [intOf]; omega
    · obtain rfl : k = n2 := by omega
      go_wp2
      go_ret
      exact ⟨rfl, hQ.fr⟩
theorem spec_EarthDistance_any (w : World) (a b : Option Addr) (n1 c1 n2 c2 : Nat) (p q : List Int) (hp : SL w a n1 c1 p) (hq : SL w b n2 c2 q) :
    Calls Try.prog 70 #[.slice a n1 c1, .slice b n2 c2] w fun e w' => e = .returned (.tuple #[.int .i64 (earV p q), .bool (alikeB p q)]) ∧ Fr w w' := by
  have Hp := Lib.hid hp.len; have Hq := Lib.hid hq.len
  cases h1 : alikeB p q
  · have HV : Hid (earV p q = 0) := Lib.hid (by rw [earV, h1]; rfl)
    have H1 := Lib.hid h1
    go_enter Try.func70, Try.ntmps70
    go_wp2_with (go_at_call 71; refine (l10Alike_any _ _ _ _ _ _ _ _ _ hp hq).mono ?_; rintro e w' ⟨rfl, rfl⟩; rw [H1.out])
    go_ret2
    exact ⟨by rw [HV.out]; rfl, Fr.refl _⟩
  · have hF := AlikeF.of h1 Hp.out Hq.out
    have HV : Hid (earV p q = earTo p q n1) := Lib.hid (by rw [earV, h1, Hp.out]; rfl)
    have H1 := Lib.hid h1
    clear h1
    go_enter Try.func70, Try.ntmps70
    go_wp2_with fail
    refine (l10Alike_any _ _ _ _ _ _ _ _ _ hp hq).mono ?_
    rintro e w' ⟨rfl, rfl⟩
    rw [H1.out]
    go_wp2_with fail
    refine (l10Earth_any _ _ _ _ _ _ _ _ _ hp hq hF).mono ?_
    rintro e w1 ⟨rfl, f⟩
    go_wp2
    go_ret2
    exact ⟨by rw [HV.out]; rfl, f⟩
def midL (p q : List Int) (k : Nat) : List Int := (List.range p.length).map fun i => if i < k then nth p i + nth q i else nth p i
theorem midL_zero (p q : List Int) : midL p q 0 = p := by
  apply List.ext_getElem (by simp [midL]); intro j h1 h2; simp [midL, nth, h2]
theorem midL_all (p q : List Int) : midL p q p.length = mixL p q := by
  apply List.ext_getElem (by simp [midL, mixL]); intro j h1 h2
  have : j < p.length := by simpa [midL] using h1
  simp [midL, mixL, this]
theorem midL_len (p q : List Int) (k : Nat) : (midL p q k).length = p.length := by simp [midL]
theorem midL_nth {p q : List Int} {k i : Nat} (h : i < p.length) : nth (midL p q k) i = if i < k then nth p i + nth q i else nth p i := by simp [nth, midL, h]
theorem midL_step {p q : List Int} {k : Nat} (h : k < p.length) : (midL p q k).set k (nth p k + nth q k) = midL p q (k + 1) := by
  apply List.ext_getElem (by simp [midL])
  intro i h1 h2
  simp only [midL, List.getElem_set, List.getElem_map, List.getElem_range]
  by_cases e : k = i
  · subst e; simp
  · rw [if_neg e]
    by_cases h : i < k
    · rw [if_pos h, if_pos (by omega)]
    · rw [if_neg h, if_neg (by omega)]
theorem mixTo_snoc (p q : List Int) (k : Nat) (h : k < p.length) : (mixL p q).take (k + 1) = (mixL p q).take k ++ [nth p k + nth q k] := by
  rw [take_snoc _ _ (by rw [mixL_len]; exact h), mixL_nth h]
theorem mix_no {p q : List Int} (h : mixB p q = false) : mixV p q = [] := by rw [mixV, h]; rfl
set_option maxRecDepth 100000 in
theorem impl_MixSpreads_any (w : World) (a b : Option Addr) (n1 c1 n2 c2 : Nat) (p q : List Int) (hp : SL w a n1 c1 p) (hq : SL w b n2 c2 q) :
    Calls Try.prog 54 #[.slice a n1 c1, .slice b n2 c2] w (RetSB (mixV p q) (mixB p q) w) := by
  have Hp := Lib.hid hp.len; have Hq := Lib.hid hq.len
  cases h1 : alikeB p q
  · have HB : Hid (mixB p q = false) := Lib.hid (by rw [mixB, h1]; rfl)
    have H1 := Lib.hid h1
    go_enter Try.func54, Try.ntmps54
    go_wp2_with (go_at_call 74; refine (alike_any _ _ _ _ _ _ _ _ _ hp hq).mono ?_; rintro e w' ⟨rfl, rfl⟩; rw [H1.out])
    go_ret2
    first | exact retNo_made (mix_no HB.out) HB.out | exact retNo_nil (mix_no HB.out) HB.out
  · obtain ⟨e1, e2, e3, e4, e5⟩ := AlikeF.of h1 Hp.out Hq.out
    subst e1
    have HPN := Lib.hid e4; have HQN := Lib.hid e5
    have H1 := Lib.hid h1
    have HM : Hid (mixB p q = spreadB (mixL p q)) := Lib.hid (by rw [mixB, h1]; rfl)
    clear e4 e5 h1
    go_enter Try.func54, Try.ntmps54
    go_wp2_with (go_at_call 74; refine (alike_any _ _ _ _ _ _ _ _ _ hp hq).mono ?_; rintro e w' ⟨rfl, rfl⟩; rw [H1.out])
    refine (copied_any _ _ _ _ _ hp (by omega)).mono ?_
    rintro e w1 ⟨a3, n3, c3, rfl, o3, f3, -⟩
    have e3 : n3 = n2 := by rw [← o3.len, Hp.out]
    subst e3
    obtain ⟨g, rfl, hB, hlt, _, _⟩ := o3.op (by omega)
    go_wp2
    go_loopw [17] (fun i wr => ∃ k : Nat, k ≤ n3 ∧ i = .int .i64 k ∧ Own w.heap.size wr (some ⟨g, 0, none⟩) n3 c3 (midL p q k) ∧ Fr w wr) (fun i _ => n3 - (intOf i).toNat)
    case atStart => exact ⟨0, Nat.zero_le _, rfl, by rw [midL_zero]; exact o3, f3⟩
    case round =>
      clear o3 f3
      obtain ⟨k, hk, rfl, o3, F⟩ := hrel
      by_cases hlt2 : k < n3
      · obtain ⟨x4, o4, rfl, hc4⟩ := (hq.fr F).cells.resolve_left (by omega)
        replace hc4 := hc4 k hlt2
        obtain ⟨g2, hg2, hB2, hlt3, hcell, hfro⟩ := o3.op (by omega)
        injection hg2 with hg2; injection hg2 with hg2; subst hg2
        have hc := hcell k hlt2
        have hfr := hfro k
        rw [midL_nth (by rw [Hp.out]; exact hlt2), if_neg (by omega)] at hc
        clear hcell hfro
        have i1 : (0 : Int) ≤ (k : Int) := by omega
        have i2 : (k : Int) < (n3 : Int) := by omega
        have b1 := HPN.out k; have b2 := HQN.out k
        have o5 := o3.set rfl hlt2 (show I64 (nth p k + nth q k) by unfold I64; omega)
        rw [midL_step (by rw [Hp.out]; exact hlt2)] at o5
        have F5 := F.setCell (p := ⟨g, k, none⟩) hB (.int .i64 (nth p k + nth q k))
        clear o3 F
        go_wp2
        go_roundw
        case rel => exact ⟨k + 1, by omega, by go_num, o5, F5⟩
        case measure => simp [intOf]; omega
      · obtain rfl : k = n3 := by omega
        rw [← Hp.out, midL_all, Hp.out] at o3
        have HO := Lib.hid o3
        cases hm : spreadB (mixL p q)
        · have HB : Hid (mixB p q = false) := Lib.hid (by rw [HM.out, hm])
          have H2 := Lib.hid hm
          go_wp2_with (go_at_call 52; refine (impl_IsSpread_any _ _ _ _ _ HO.out.sl).mono ?_; rintro e w' ⟨rfl, rfl⟩; rw [H2.out])
          go_ret2
          have hv := mix_no HB.out
          exact ⟨_, _, _, by rw [HB.out]; rfl, by rw [hv]; exact ⟨World.ownsRow_nil _ _ _ _, by simp⟩, F, by omega⟩
        · have HB : Hid (mixB p q = true) := Lib.hid (by rw [HM.out, hm])
          have H2 := Lib.hid hm
          go_wp2_with (go_at_call 52; refine (impl_IsSpread_any _ _ _ _ _ HO.out.sl).mono ?_; rintro e w' ⟨rfl, rfl⟩; rw [H2.out])
          go_ret2
          exact ⟨_, _, _, by rw [HB.out]; rfl, by rw [mixV, HB.out]; exact HO.out, F, by omega⟩
set_option maxRecDepth 100000 in
theorem spec_MixSpreads_any (w : World) (a b : Option Addr) (n1 c1 n2 c2 : Nat) (p q : List Int) (hp : SL w a n1 c1 p) (hq : SL w b n2 c2 q) :
    Calls Try.prog 55 #[.slice a n1 c1, .slice b n2 c2] w (RetSB (mixV p q) (mixB p q) w) := by
  have Hp := Lib.hid hp.len; have Hq := Lib.hid hq.len
  have f0 := (Fr.refl w).alloc (.cells #[] 3)
  have o0 := Own.made0 (B := w.heap.size) w (Nat.le_refl _)
  cases h1 : alikeB p q
  · have HB : Hid (mixB p q = false) := Lib.hid (by rw [mixB, h1]; rfl)
    have H1 := Lib.hid h1
    go_enter Try.func55, Try.ntmps55
    go_wp2_with (go_at_call 71; refine (l10Alike_any _ _ _ _ _ _ _ _ _ (hp.fr f0) (hq.fr f0)).mono ?_; rintro e w' ⟨rfl, rfl⟩; rw [H1.out])
    go_ret2
    exact retNo_made (mix_no HB.out) HB.out
  · obtain ⟨e1, e2, e3, e4, e5⟩ := AlikeF.of h1 Hp.out Hq.out
    subst e1
    have HPN := Lib.hid e4; have HQN := Lib.hid e5
    have H1 := Lib.hid h1
    have HM : Hid (mixB p q = spreadB (mixL p q)) := Lib.hid (by rw [mixB, h1]; rfl)
    clear e4 e5 h1
    go_enter Try.func55, Try.ntmps55
    go_wp2_with fail
    refine (l10Alike_any _ _ _ _ _ _ _ _ _ (hp.fr f0) (hq.fr f0)).mono ?_
    rintro e w' ⟨rfl, rfl⟩
    rw [H1.out]
    go_wp2_with fail
    go_loopw [6, 7] (fun s i wr => ∃ (k : Nat) (p6 : Option Addr) (c6 : Nat), k ≤ n2 ∧ i = .int .i64 k ∧ s = .slice p6 k c6 ∧ Own w.heap.size wr p6 k c6 ((mixL p q).take k) ∧ Fr w wr) (fun _ i _ => n2 - (intOf i).toNat)
    case atStart => exact ⟨0, _, _, Nat.zero_le _, rfl, rfl, by rw [List.take_zero]; exact o0, f0⟩
    case round =>
      clear o0 f0
      obtain ⟨k, p6, c6, hk, rfl, rfl, op, F⟩ := hrel
      by_cases hlt : k < n2
      · obtain ⟨x3, o3, ea, hc3⟩ := hp.cells.resolve_left (by omega)
        obtain ⟨x4, o4, eb, hc4⟩ := hq.cells.resolve_left (by omega)
        subst ea; subst eb
        replace hc3 := hc3 k hlt
        replace hc4 := hc4 k hlt
        have l3 := World.block_lt_of_cell? w _ hc3
        have l4 := World.block_lt_of_cell? w _ hc4
        replace hc3 := F.keep hc3
        replace hc4 := F.keep hc4
        have i1 : (0 : Int) ≤ (k : Int) := by omega
        have i2 : (k : Int) < (n2 : Int) := by omega
        have b1 := HPN.out k; have b2 := HQN.out k
        have hfs := F.size
        have a3 : blkOf p6 ≠ some x3 := fun e => by have := (op.blk _ e).1; dsimp only at l3; omega
        have a4 : blkOf p6 ≠ some x4 := fun e => by have := (op.blk _ e).1; dsimp only at l4; omega
        have m3 := World.block_lt_of_cell? wr _ hc3
        have m4 := World.block_lt_of_cell? wr _ hc4
        have e1 : IntKind.i64.wrap (nth p k + nth q k) = nth p k + nth q k := IntWalk.i64_in _ (by omega)
        have hsn := Lib.hid (mixTo_snoc p q k (by rw [Hp.out]; exact hlt))
        obtain ⟨W2, HW2⟩ : ∃ W2, W2 = wr := ⟨_, rfl⟩
        rw [← HW2] at hc3 hc4 op F m3 m4 hfs ⊢
        clear HW2
        go_wp2
        go_region_held3 (fun w' => w'.cell? ⟨x3, o3 + k, none⟩ = some (.int .i64 (nth p k)) ∧ w'.cell? ⟨x4, o4 + k, none⟩ = some (.int .i64 (nth q k)))
          (first
            | go_keep
            | (go_split_ands
               refine ⟨?_, ?_⟩
               · (rw [hgrow.cell_far _ (by simp; omega) (Ne.symm a3)]; assumption)
               · (rw [hgrow.cell_far _ (by simp; omega) (Ne.symm a4)]; assumption)))
          ((refine step_ap_int _ rfl _ _ rfl w.heap.size p6 k c6 _ (nth p k + nth q k) W2.heap.size (by rfl) (by rfl) (op.fr (((Fr.refl _).alloc _).drew' 1)) (by simp; omega) (cell_of_row _ W2.heap.size 0 _ 3 (0, 0) (heap_alloc_new W2 _)) (by unfold I64; omega) (by omega) (W2.heap.size + 1) (by simp) ?_; intro g7 c7' W3 hown hgrow hat))
        have hg3 : W2.grownBy W3 (blkOf p6) := grownBy_trans (Fr.grownBy (((Fr.refl W2).alloc _).drew' 1) _) hgrow
        have hf3 : Fr w W3 := F.grown hg3 (fun k hk => by have := (op.blk k hk).1; omega)
        rw [← hsn.out] at hown
        go_wp2
        go_roundw
        case rel => exact ⟨k + 1, _, _, by omega, by go_num, rfl, hown, hf3⟩
        case measure => simp [intOf]; omega
      · obtain rfl : k = n2 := by omega
        rw [List.take_of_length_le (by rw [mixL_len, Hp.out]; omega)] at op
        have HO := Lib.hid op
        cases hm : spreadB (mixL p q)
        · have HB : Hid (mixB p q = false) := Lib.hid (by rw [HM.out, hm])
          have H2 := Lib.hid hm
          go_wp2_with (go_at_call 99; refine (l10Spread_any _ _ _ _ _ HO.out.sl).mono ?_; rintro e w' ⟨rfl, rfl⟩; rw [H2.out])
          go_ret2
          have hv := mix_no HB.out
          have hsz := F.size
          exact ⟨_, _, _, by rw [HB.out]; rfl, by rw [hv]; exact (Own.made0 _ (Nat.le_refl _)).mono hsz, F.alloc _, by omega⟩
        · have HB : Hid (mixB p q = true) := Lib.hid (by rw [HM.out, hm])
          have H2 := Lib.hid hm
          go_wp2_with (go_at_call 99; refine (l10Spread_any _ _ _ _ _ HO.out.sl).mono ?_; rintro e w' ⟨rfl, rfl⟩; rw [H2.out])
          go_ret2
          exact ⟨_, _, _, by rw [HB.out]; rfl, by rw [mixV, HB.out]; exact HO.out, F, by omega⟩
end Go.Proofs.Ytboekndojgbkfaa
