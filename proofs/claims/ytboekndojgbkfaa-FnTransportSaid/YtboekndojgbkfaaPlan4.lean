import Derived.Test.YtboekndojgbkfaaPlan3
/- Contracts of PlanCost and ArePotentials. -/
set_option linter.unusedVariables false
namespace Go.Proofs.Ytboekndojgbkfaa
open Go.ChangeShapes Go.WideShapes Go.ChangeAt Go.RowKit

theorem l10Cost_any (w : World) (a b : Option Addr) (n c1 c2 : Nat) (T C : List (List Int)) (hT : SS w a n c1 T) (hC : SS w b n c2 C) (hn : n ≤ 8)
    (hr : ∀ i, i < n → (nthL T i).length = n ∧ (nthL C i).length = n) (h1 : ∀ i k, 0 ≤ cellT T i k ∧ cellT T i k ≤ 40) (h2 : ∀ i k, 0 ≤ cellT C i k ∧ cellT C i k ≤ 99) :
    Calls Try.prog 94 #[.slice a n c1, .slice b n c2] w fun e w' => e = .returned (.int .i64 (costTo T C n n)) ∧ Qt w w' := by
  have HR := Lib.hid hr
  have H1 := Lib.hid h1
  have H2 := Lib.hid h2
  clear hr h1 h2
  go_enter Try.func94, Try.ntmps94
  go_wp2
  go_loopw [5, 6] (fun s i wr => ∃ j : Nat, j ≤ n ∧ i = .int .i64 j ∧ s = .int .i64 (costTo T C n j) ∧ Qt w wr) (fun _ i _ => n - (intOf i).toNat)
  case atStart => exact ⟨0, Nat.zero_le _, rfl, rfl, Qt.refl _⟩
  case round =>
    obtain ⟨j, hj, rfl, rfl, hf⟩ := hrel
    by_cases hlt : j < n
    · obtain ⟨wo, rfl⟩ : ∃ wo : World, wo = wr := ⟨_, rfl⟩
      have B1 := costTo_bd (n := n) (m := n) (fun i k _ => H1.out i k) H2.out hn j hj
      go_wp2
      go_loopw [5, 7] (fun s i wi => ∃ k : Nat, k ≤ n ∧ i = .int .i64 k ∧ s = .int .i64 (costTo T C n j + costIn T C j k) ∧ Qt w wi) (fun _ i _ => n - (intOf i).toNat)
      case atStart => exact ⟨0, Nat.zero_le _, rfl, by simp [costIn], hf⟩
      case round =>
        clear hf
        obtain ⟨k, hk, rfl, rfl, hf⟩ := hrel
        obtain ⟨b3, o3, rfl, hc3⟩ := (hT.qt hf).rows.resolve_left (by omega)
        obtain ⟨pr, mr, cr, hcell, hrow⟩ := hc3 j hlt
        clear hc3
        have hmr : mr = n := by rw [← hrow.len]; exact (HR.out j hlt).1
        by_cases hkt : k < n
        · obtain ⟨b4, o4, rfl, hc4⟩ := (hC.qt hf).rows.resolve_left (by omega)
          obtain ⟨ps, ms, cs, hcell4, hrow4⟩ := hc4 j hlt
          clear hc4
          have hms : ms = n := by rw [← hrow4.len]; exact (HR.out j hlt).2
          subst hms
          subst hmr
          obtain ⟨br, orr, rfl, hcr⟩ := hrow.cells.resolve_left (by omega)
          replace hcr := hcr k hkt
          obtain ⟨bs, os, rfl, hcs⟩ := hrow4.cells.resolve_left (by omega)
          replace hcs := hcs k hkt
          have B2 := costIn_bd (t := T) (c := C) (i := j) (H1.out j) (H2.out j) k
          have B3 := mul_bd (H1.out j k) (H2.out j k)
          unfold cellT at B3
          have i1 : (0 : Int) ≤ (j : Int) := by omega
          have i2 : (j : Int) < (mr : Int) := by omega
          have i3 : (0 : Int) ≤ (k : Int) := by omega
          have i4 : (k : Int) < (mr : Int) := by omega
          go_wp2
          have e1 : IntKind.i64.wrap (nth (nthL T j) k * nth (nthL C j) k) = nth (nthL T j) k * nth (nthL C j) k := IntWalk.i64_in _ (by omega)
          have e2 : IntKind.i64.wrap (costTo T C mr j + costIn T C j k + nth (nthL T j) k * nth (nthL C j) k) = costTo T C mr j + costIn T C j k + nth (nthL T j) k * nth (nthL C j) k := IntWalk.i64_in _ (by omega)
          go_quiet (fail)
          clear e1 e2
          go_wp2
          go_roundw
          case rel => exact ⟨k + 1, by omega, by go_num, by simp only [costIn, cellT]; rw [Int.add_assoc], hf.drewN _⟩
          case measure => simp [intOf]; omega
        · obtain rfl : k = n := by omega
          subst hmr
          go_wp2
          go_roundw
          case rel => exact ⟨j + 1, by omega, by go_num, rfl, hf⟩
          case measure => simp [intOf]; omega
    · obtain rfl : j = n := by omega
      go_wp2
      go_ret
      exact ⟨rfl, hf⟩

def pcOk (p q : List Int) (T C : List (List Int)) : Bool := okB p q T && costsB p q C
def pcV (p q : List Int) (T C : List (List Int)) : Int := bif pcOk p q T C then costTo T C p.length p.length else 0
theorem costs_rows {p q : List Int} {C : List (List Int)} (h : costsB p q C = true) : C.length = p.length ∧ ∀ i, i < p.length → (nthL C i).length = q.length := by
  obtain ⟨h1, h2⟩ := costsB_iff.1 h
  exact ⟨h1, fun i hi => (costRow_iff.1 (h2 i (by omega))).1⟩

theorem spec_PlanCost_any (w : World) (a b t s : Option Addr) (n1 c1 n2 c2 n3 c3 n4 c4 : Nat) (p q : List Int) (T C : List (List Int)) (hp : SL w a n1 c1 p) (hq : SL w b n2 c2 q) (ht : SS w t n3 c3 T) (hc : SS w s n4 c4 C) :
    Calls Try.prog 40 #[.slice a n1 c1, .slice b n2 c2, .slice t n3 c3, .slice s n4 c4] w fun e w' => e = .returned (.tuple #[.int .i64 (pcV p q T C), .bool (pcOk p q T C)]) ∧ Fr w w' := by
  have Hp := Lib.hid hp.len; have Hq := Lib.hid hq.len; have Ht := Lib.hid ht.len; have Hc := Lib.hid hc.len
  go_enter Try.func40, Try.ntmps40
  go_wp2_with fail
  refine (l10Good_any _ _ _ _ _ _ _ _ _ _ _ _ _ hp hq ht).mono ?_
  rintro e w1 ⟨rfl, f1⟩
  cases h1 : okB p q T
  · have HB : Hid (pcOk p q T C = false) := Lib.hid (by rw [pcOk, h1]; rfl)
    go_wp2
    go_ret2
    exact ⟨by rw [pcV, HB.out]; rfl, f1.fr⟩
  · have H1 := Lib.hid h1
    go_wp2_with fail
    refine (l10Costs_any _ _ _ _ _ _ _ _ _ _ _ _ _ (hp.qt f1) (hq.qt f1) (hc.qt f1)).mono ?_
    rintro e w2 ⟨rfl, rfl⟩
    cases h2 : costsB p q C
    · have HB : Hid (pcOk p q T C = false) := Lib.hid (by rw [pcOk, h1, h2]; rfl)
      go_wp2
      go_ret2
      exact ⟨by rw [pcV, HB.out]; rfl, f1.fr⟩
    · have HB : Hid (pcOk p q T C = true) := Lib.hid (by rw [pcOk, h1, h2]; rfl)
      have F := PlanF.of (okB_iff.1 h1).1 (okB_iff.1 h1).2 Hp.out Hq.out Ht.out
      obtain ⟨rfl, rfl, lo, hi, row, cell, pn, qn⟩ := F
      have hcr := costs_rows h2
      obtain rfl : n4 = n3 := by rw [← Hc.out, hcr.1, Hp.out]
      have hcr2 := hcr.2
      rw [Hp.out, Hq.out] at hcr2
      have HCC := Lib.hid (costs_cell h2)
      have HR : Hid (∀ i, i < n4 → (nthL T i).length = n4 ∧ (nthL C i).length = n4) := Lib.hid (fun i hi => ⟨row i hi, hcr2 i hi⟩)
      have HC := Lib.hid cell
      clear row cell pn qn hcr hcr2
      go_wp2_with fail
      refine (l10Cost_any _ _ _ _ _ _ _ _ (ht.qt f1) (hc.qt f1) hi HR.out HC.out HCC.out).mono ?_
      rintro e w2 ⟨rfl, f2⟩
      go_wp2
      go_ret2
      exact ⟨by rw [pcV, HB.out, Hp.out]; rfl, (f1.trans f2).fr⟩

theorem impl_PlanCost_any (w : World) (a b t s : Option Addr) (n1 c1 n2 c2 n3 c3 n4 c4 : Nat) (p q : List Int) (T C : List (List Int)) (hp : SL w a n1 c1 p) (hq : SL w b n2 c2 q) (ht : SS w t n3 c3 T) (hc : SS w s n4 c4 C) :
    Calls Try.prog 41 #[.slice a n1 c1, .slice b n2 c2, .slice t n3 c3, .slice s n4 c4] w fun e w' => e = .returned (.tuple #[.int .i64 (pcV p q T C), .bool (pcOk p q T C)]) ∧ Fr w w' := by
  have Hp := Lib.hid hp.len; have Hq := Lib.hid hq.len; have Ht := Lib.hid ht.len; have Hc := Lib.hid hc.len
  cases h0 : alikeB p q
  · have HB : Hid (pcOk p q T C = false) := Lib.hid (by rw [pcOk, okB, h0]; rfl)
    go_enter Try.func41, Try.ntmps41
    go_wp2_with (go_at_call 74; refine (alike_any _ _ _ _ _ _ _ _ _ hp hq).mono ?_; rintro e w' ⟨rfl, rfl⟩)
    go_ret2
    exact ⟨by rw [pcV, HB.out]; rfl, Fr.refl _⟩
  have H0 := Lib.hid h0
  go_enter Try.func41, Try.ntmps41
  go_wp2_with fail
  refine (alike_any _ _ _ _ _ _ _ _ _ hp hq).mono ?_
  rintro e w' ⟨rfl, rfl⟩
  clear h0
  go_wp2_with fail
  refine (isPlan_any _ _ _ _ _ _ _ _ _ _ _ _ _ hp hq ht H0.out).mono ?_
  rintro e w1 ⟨rfl, f1⟩
  cases h1 : planB p q T
  · have HB : Hid (pcOk p q T C = false) := Lib.hid (by rw [pcOk, okB_no2 h1]; rfl)
    go_wp2
    go_ret2
    exact ⟨by rw [pcV, HB.out]; rfl, f1⟩
  · have H1 := Lib.hid h1
    go_wp2_with fail
    refine (areCosts_any _ _ _ _ _ _ _ _ _ _ _ _ _ (hp.fr f1) (hq.fr f1) (hc.fr f1)).mono ?_
    rintro e w2 ⟨rfl, rfl⟩
    cases h2 : costsB p q C
    · have HB : Hid (pcOk p q T C = false) := Lib.hid (by rw [pcOk, h2]; simp)
      go_wp2
      go_ret2
      exact ⟨by rw [pcV, HB.out]; rfl, f1⟩
    · have HB : Hid (pcOk p q T C = true) := Lib.hid (by rw [pcOk, okB_yes H0.out h1, h2]; rfl)
      have F := PlanF.of H0.out h1 Hp.out Hq.out Ht.out
      obtain ⟨rfl, rfl, lo, hi, row, cell, pn, qn⟩ := F
      have hcr := costs_rows h2
      obtain rfl : n4 = n3 := by rw [← Hc.out, hcr.1, Hp.out]
      have hcr2 := hcr.2
      rw [Hp.out, Hq.out] at hcr2
      have H2 := Lib.hid (costs_cell h2)
      have HR : Hid (∀ i, i < n4 → (nthL T i).length = n4 ∧ (nthL C i).length = n4) := Lib.hid (fun i hi => ⟨row i hi, hcr2 i hi⟩)
      have HC := Lib.hid cell
      clear row cell pn qn hcr hcr2
      have hT := ht.fr f1
      have hC := hc.fr f1
      have hn := hi
      go_wp2
      clear h1 h2
      go_loop [10, 35] (fun s i => ∃ j : Nat, j ≤ n4 ∧ i = .int .i64 j ∧ s = .int .i64 (costTo T C n4 j)) (fun _ i => n4 - (intOf i).toNat)
      case atStart => exact ⟨0, Nat.zero_le _, rfl, rfl⟩
      case round =>
        obtain ⟨j, hj, rfl, rfl⟩ := hrel
        by_cases hlt : j < n4
        · have B1 := costTo_bd (n := n4) (m := n4) (fun i k _ => HC.out i k) H2.out hn j hj
          obtain ⟨b3, o3, rfl, hc3⟩ := hT.rows.resolve_left (by omega)
          obtain ⟨pr, mr, cr, hcell, hrow⟩ := hc3 j hlt
          clear hc3
          have hmr : mr = n4 := by rw [← hrow.len]; exact (HR.out j hlt).1
          subst hmr
          obtain ⟨b4, o4, rfl, hc4⟩ := hC.rows.resolve_left (by omega)
          obtain ⟨ps, ms, cs, hcell4, hrow4⟩ := hc4 j hlt
          clear hc4
          have hms : ms = mr := by rw [← hrow4.len]; exact (HR.out j hlt).2
          subst hms
          obtain ⟨br, orr, rfl, hcr⟩ := hrow.cells.resolve_left (by omega)
          obtain ⟨bs, os, rfl, hcs⟩ := hrow4.cells.resolve_left (by omega)
          have Hcr := Lib.hid hcr
          have Hcs := Lib.hid hcs
          clear hcr hcs
          go_wp2
          go_loop [10, 42] (fun s i => ∃ k : Nat, k ≤ ms ∧ i = .int .i64 k ∧ s = .int .i64 (costTo T C ms j + costIn T C j k)) (fun _ i => ms - (intOf i).toNat)
          case atStart => exact ⟨0, Nat.zero_le _, rfl, by simp [costIn]⟩
          case round =>
            obtain ⟨k, hk, rfl, rfl⟩ := hrel
            by_cases hkt : k < ms
            · have hcr := Hcr.out k hkt
              have hcs := Hcs.out k hkt
              have B2 := costIn_bd (t := T) (c := C) (i := j) (HC.out j) (H2.out j) k
              have B3 := mul_bd (HC.out j k) (H2.out j k)
              unfold cellT at B3
              go_wp2
              go_round
              case rel => exact ⟨k + 1, by omega, by go_num, by simp only [costIn, cellT]; rw [Int.add_assoc]⟩
              case measure => simp [intOf]; omega
            · obtain rfl : k = ms := by omega
              go_wp2
              go_round
              case rel => exact ⟨j + 1, by omega, by go_num, rfl⟩
              case measure => simp [intOf]; omega
        · obtain rfl : j = n4 := by omega
          go_wp2
          go_ret2
          exact ⟨by rw [pcV, HB.out, Hp.out]; rfl, f1⟩

def apOk (p q u w : List Int) (C : List (List Int)) : Bool := alikeB p q && costsB p q C && numB u p.length && numB w q.length
def apV (p q u w : List Int) (C : List (List Int)) : Bool := apOk p q u w C && potB u w C
theorem apOk_iff {p q u w : List Int} {C : List (List Int)} : apOk p q u w C = true ↔ alikeB p q = true ∧ costsB p q C = true ∧ numB u p.length = true ∧ numB w q.length = true := by
  simp only [apOk, Bool.and_eq_true]
  exact ⟨fun ⟨⟨⟨h1, h2⟩, h3⟩, h4⟩ => ⟨h1, h2, h3, h4⟩, fun ⟨h1, h2, h3, h4⟩ => ⟨⟨⟨h1, h2⟩, h3⟩, h4⟩⟩

theorem l10Numbers_any (w : World) (a : Option Addr) (n cap : Nat) (xs : List Int) (m : Nat) (h : SL w a n cap xs) (hm : m ≤ 9223372036854775807) :
    Calls Try.prog 80 #[.slice a n cap, .int .i64 m] w fun e w' => e = .returned (.bool (numB xs m)) ∧ w = w' := by
  obtain ⟨hlen, hle, hmx, hrng, _, hcells⟩ := h
  have Hlen := Lib.hid hlen; clear hlen
  go_enter Try.func80, Try.ntmps80
  go_wp2
  go_loop [5] (fun i => ∃ k : Nat, k ≤ n ∧ i = .int .i64 k ∧ Hid (allB (xs.take k) (-999) 999 = true)) (fun i => n - (intOf i).toNat)
  case atStart => exact ⟨0, Nat.zero_le _, rfl, Lib.hid rfl⟩
  case round =>
    obtain ⟨k, hk, rfl, hall⟩ := hrel
    by_cases hlt : k < n
    · obtain ⟨b, off, rfl, hc0⟩ := hcells.resolve_left (by omega)
      have hc := hc0 k hlt
      clear hc0
      have hks := Hlen.out ▸ hlt
      have HS := Lib.hid (allB_snoc xs (-999) 999 k hks)
      cases hb : inB (nth xs k) (-999) 999 with
      | true =>
        have HB := Lib.hid hb
        go_wp2_with (go_at_call 106; refine (l1In_any _ _ _ _).mono ?_; rintro e w' ⟨rfl, rfl⟩)
        go_round
        case rel => exact ⟨k + 1, by omega, by go_num, Lib.hid (by rw [HS.out, hall.out, HB.out]; rfl)⟩
        case measure => simp [intOf]; omega
      | false =>
        have HB := Lib.hid hb
        go_wp2_with (go_at_call 106; refine (l1In_any _ _ _ _).mono ?_; rintro e w' ⟨rfl, rfl⟩)
        go_ret
        exact ⟨ret_bool (by rw [numB, allB_no hks HB.out]; simp), rfl⟩
    · go_wp2
      go_ret
      exact ⟨ret_bool (by rw [numB, ← List.take_of_length_le (l := xs) (i := k) (by rw [Hlen.out]; omega), hall.out, List.take_of_length_le (by rw [Hlen.out]; omega), Hlen.out, beq_nat]; simp), rfl⟩

theorem potB_go {u w : List Int} {C : List (List Int)} {i : Nat} (h : ∀ k, k < w.length → nth u i + nth w k ≤ cellT C i k) : potRow u w C i = true := potRow_iff.2 h

theorem spec_ArePotentials_any (w : World) (a b d f t : Option Addr) (n1 c1 n2 c2 n3 c3 n4 c4 n5 c5 : Nat) (p q u v : List Int) (C : List (List Int)) (hp : SL w a n1 c1 p) (hq : SL w b n2 c2 q) (hu : SL w d n3 c3 u) (hv : SL w f n4 c4 v) (ht : SS w t n5 c5 C) :
    Calls Try.prog 25 #[.slice a n1 c1, .slice b n2 c2, .slice d n3 c3, .slice f n4 c4, .slice t n5 c5] w fun e w' => e = .returned (.tuple #[.bool (apV p q u v C), .bool (apOk p q u v C)]) ∧ Fr w w' := by
  have Hp := Lib.hid hp.len; have Hq := Lib.hid hq.len; have Hu := Lib.hid hu.len; have Hv := Lib.hid hv.len; have Ht := Lib.hid ht.len
  have m1 : n1 ≤ 9223372036854775807 := by have := hp.le; have := hp.mx; omega
  have m2 : n2 ≤ 9223372036854775807 := by have := hq.le; have := hq.mx; omega
  cases h1 : apOk p q u v C
  · have HB := Lib.hid h1
    cases g1 : alikeB p q <;> cases g2 : costsB p q C <;> cases g3 : numB u n1 <;> cases g4 : numB v n2
    case true.true.true.true => rw [apOk, g1, g2, Hp.out, g3, Hq.out, g4] at h1; cases h1
    all_goals
      clear h1
      go_enter Try.func25, Try.ntmps25
      go_wp2_with (first
        | (go_at_call 71; refine (l10Alike_any _ _ _ _ _ _ _ _ _ hp hq).mono ?_; rintro e w' ⟨rfl, rfl⟩)
        | (go_at_call 79; refine (l10Costs_any _ _ _ _ _ _ _ _ _ _ _ _ _ hp hq ht).mono ?_; rintro e w' ⟨rfl, rfl⟩)
        | (go_at_call_of 80 (Value.slice d n3 c3); refine (l10Numbers_any _ _ _ _ _ n1 hu m1).mono ?_; rintro e w' ⟨rfl, rfl⟩)
        | (go_at_call_of 80 (Value.slice f n4 c4); refine (l10Numbers_any _ _ _ _ _ n2 hv m2).mono ?_; rintro e w' ⟨rfl, rfl⟩))
      go_ret2
      exact ⟨by rw [apV, HB.out]; rfl, Fr.refl _⟩
  · have HB := Lib.hid h1
    obtain ⟨g1, g2, g3, g4⟩ := apOk_iff.1 h1
    rw [Hp.out] at g3
    rw [Hq.out] at g4
    obtain ⟨s1, s2, s3, s4⟩ := alikeB_iff.1 g1
    have q1 := (spreadB_iff.1 s1).1
    rw [Hp.out] at q1
    have hn : n2 = n1 := by rw [← Hp.out, ← Hq.out, s3]
    subst hn
    obtain rfl : n3 = n2 := by rw [← Hu.out]; exact (numB_iff.1 g3).1
    obtain rfl : n4 = n3 := by rw [← Hv.out]; exact (numB_iff.1 g4).1
    obtain rfl : n5 = n4 := by rw [← Ht.out, (costs_rows g2).1, Hp.out]
    have HU := Lib.hid (nth_bd (numB_iff.1 g3).2 (by omega) (by omega))
    have HV := Lib.hid (nth_bd (numB_iff.1 g4).2 (by omega) (by omega))
    have HR := Lib.hid (costs_rows g2).2
    have HC := Lib.hid (costs_cell g2)
    clear s1 s2 s3 s4 h1
    go_enter Try.func25, Try.ntmps25
    go_wp2_with (first
      | (go_at_call 71; refine (l10Alike_any _ _ _ _ _ _ _ _ _ hp hq).mono ?_; rintro e w' ⟨rfl, rfl⟩)
      | (go_at_call 79; refine (l10Costs_any _ _ _ _ _ _ _ _ _ _ _ _ _ hp hq ht).mono ?_; rintro e w' ⟨rfl, rfl⟩)
      | (go_at_call_of 80 (Value.slice d n5 c3); refine (l10Numbers_any _ _ _ _ _ n5 hu m1).mono ?_; rintro e w' ⟨rfl, rfl⟩)
      | (go_at_call_of 80 (Value.slice f n5 c4); refine (l10Numbers_any _ _ _ _ _ n5 hv m2).mono ?_; rintro e w' ⟨rfl, rfl⟩))
    clear g1 g2 g3 g4
    go_loopw [12] (fun i wr => ∃ j : Nat, j ≤ n5 ∧ i = .int .i64 j ∧ Hid (∀ i, i < j → potRow u v C i = true) ∧ Qt w wr) (fun i _ => n5 - (intOf i).toNat)
    case atStart => exact ⟨0, Nat.zero_le _, rfl, Lib.hid (fun i hi => by omega), Qt.refl _⟩
    case round =>
      obtain ⟨j, hj, rfl, hs, hf⟩ := hrel
      by_cases hlt : j < n5
      · obtain ⟨wo, rfl⟩ : ∃ wo : World, wo = wr := ⟨_, rfl⟩
        go_wp2
        go_loopw [13] (fun i wi => ∃ k : Nat, k ≤ n5 ∧ i = .int .i64 k ∧ Hid (∀ i, i < k → nth u j + nth v i ≤ cellT C j i) ∧ Qt w wi) (fun i _ => n5 - (intOf i).toNat)
        case atStart => exact ⟨0, Nat.zero_le _, rfl, Lib.hid (fun i hi => by omega), hf⟩
        case round =>
          clear hf
          obtain ⟨k, hk, rfl, hs2, hf⟩ := hrel
          by_cases hkt : k < n5
          · obtain ⟨b3, o3, rfl, hc3⟩ := (ht.qt hf).rows.resolve_left (by omega)
            obtain ⟨pr, mr, cr, hcell, hrow⟩ := hc3 j hlt
            clear hc3
            have hmr : mr = n5 := by rw [← hrow.len, HR.out j (by rw [Hp.out]; exact hlt), Hq.out]
            subst hmr
            obtain ⟨br, orr, rfl, hcr⟩ := hrow.cells.resolve_left (by omega)
            replace hcr := hcr k hkt
            obtain ⟨bu, ou, rfl, hcu⟩ := (hu.qt hf).cells.resolve_left (by omega)
            replace hcu := hcu j hlt
            obtain ⟨bv, ov, rfl, hcv⟩ := (hv.qt hf).cells.resolve_left (by omega)
            replace hcv := hcv k hkt
            have B1 := HU.out j
            have B2 := HV.out k
            have i1 : (0 : Int) ≤ (j : Int) := by omega
            have i2 : (j : Int) < (mr : Int) := by omega
            have i3 : (0 : Int) ≤ (k : Int) := by omega
            have i4 : (k : Int) < (mr : Int) := by omega
            by_cases hb : nth u j + nth v k ≤ nth (nthL C j) k
            · have HY := Lib.hid hb
              have hb1 : decide (nth (nthL C j) k < nth u j + nth v k) = false := by simp; omega
              go_wp2
              have e1 : IntKind.i64.wrap (nth u j + nth v k) = nth u j + nth v k := IntWalk.i64_in _ (by omega)
              clear hb
              go_quiet (fail)
              clear e1
              go_wp2
              go_roundw
              case rel => exact ⟨k + 1, by omega, by go_num, Lib.hid (fun i hi => by by_cases e : i = k; (· subst e; exact HY.out); (· exact hs2.out i (by omega))), hf.drewN _⟩
              case measure => simp [intOf]; omega
            · have HY : Hid (cellT C j k < nth u j + nth v k) := Lib.hid (Int.not_le.1 hb)
              have hb1 : decide (nth (nthL C j) k < nth u j + nth v k) = true := by simp; omega
              go_wp2
              have e1 : IntKind.i64.wrap (nth u j + nth v k) = nth u j + nth v k := IntWalk.i64_in _ (by omega)
              clear hb
              go_quiet (fail)
              clear e1
              go_wp2
              go_ret2
              exact ⟨by rw [apV, HB.out, potB_no (by rw [Hu.out]; exact hlt) (by rw [Hv.out]; exact hkt) HY.out]; rfl, (hf.drewN _).fr⟩
          · obtain rfl : k = n5 := by omega
            go_wp2
            go_roundw
            case rel => exact ⟨j + 1, by omega, by go_num, Lib.hid (fun i hi => by by_cases e : i = j; (· subst e; exact potB_go (by rw [Hv.out]; exact hs2.out)); (· exact hs.out i (by omega))), hf⟩
            case measure => simp [intOf]; omega
      · obtain rfl : j = n5 := by omega
        go_wp2
        go_ret2
        exact ⟨by rw [apV, HB.out, potB_iff.2 (by rw [Hu.out]; exact hs.out)]; rfl, hf.fr⟩

theorem impl_ArePotentials_any (w : World) (a b d f t : Option Addr) (n1 c1 n2 c2 n3 c3 n4 c4 n5 c5 : Nat) (p q u v : List Int) (C : List (List Int)) (hp : SL w a n1 c1 p) (hq : SL w b n2 c2 q) (hu : SL w d n3 c3 u) (hv : SL w f n4 c4 v) (ht : SS w t n5 c5 C) :
    Calls Try.prog 26 #[.slice a n1 c1, .slice b n2 c2, .slice d n3 c3, .slice f n4 c4, .slice t n5 c5] w fun e w' => e = .returned (.tuple #[.bool (apV p q u v C), .bool (apOk p q u v C)]) ∧ Fr w w' := by
  have Hp := Lib.hid hp.len; have Hq := Lib.hid hq.len; have Hu := Lib.hid hu.len; have Hv := Lib.hid hv.len; have Ht := Lib.hid ht.len
  have m1 : n1 ≤ 9223372036854775807 := by have := hp.le; have := hp.mx; omega
  have m2 : n2 ≤ 9223372036854775807 := by have := hq.le; have := hq.mx; omega
  have m3 : n3 ≤ 9223372036854775807 := by have := hu.le; have := hu.mx; omega
  have m4 : n4 ≤ 9223372036854775807 := by have := hv.le; have := hv.mx; omega
  cases h1 : apOk p q u v C
  · have HB := Lib.hid h1
    have h1' : alikeB p q = true → n3 = n1 → n4 = n2 → allB u (-999) 999 = true → allB v (-999) 999 = true → costsB p q C = true → False := by
      intro k1 k2 k3 k4 k5 k6
      rw [apOk, k1, k6, Hp.out, numB, k4, Hq.out, numB, k5, Hu.out, Hv.out, k2, k3] at h1
      simp at h1
    clear h1
    have HX := Lib.hid h1'
    clear h1'
    cases g1 : alikeB p q
    · go_enter Try.func26, Try.ntmps26
      go_wp2_with (go_at_call 74; refine (alike_any _ _ _ _ _ _ _ _ _ hp hq).mono ?_; rintro e w' ⟨rfl, rfl⟩)
      go_ret2
      exact ⟨by rw [apV, HB.out]; rfl, Fr.refl _⟩
    by_cases g2 : n3 = n1
    rotate_left
    · have hb : ((n3 : Int) != (n1 : Int)) = true := by simp; omega
      clear g2
      go_enter Try.func26, Try.ntmps26
      go_wp2_with (go_at_call 74; refine (alike_any _ _ _ _ _ _ _ _ _ hp hq).mono ?_; rintro e w' ⟨rfl, rfl⟩)
      go_ret2
      exact ⟨by rw [apV, HB.out]; rfl, Fr.refl _⟩
    have hb : ((n3 : Int) != (n1 : Int)) = false := by simp; omega
    by_cases g3 : n4 = n2
    rotate_left
    · have hb2 : ((n4 : Int) != (n2 : Int)) = true := by simp; omega
      clear g2 g3
      go_enter Try.func26, Try.ntmps26
      go_wp2_with (go_at_call 74; refine (alike_any _ _ _ _ _ _ _ _ _ hp hq).mono ?_; rintro e w' ⟨rfl, rfl⟩)
      go_ret2
      exact ⟨by rw [apV, HB.out]; rfl, Fr.refl _⟩
    have hb2 : ((n4 : Int) != (n2 : Int)) = false := by simp; omega
    have HX2 := Lib.hid (HX.out g1 g2 g3)
    clear g2 g3
    cases g4 : allB u (-999) 999 <;> cases g5 : allB v (-999) 999 <;> cases g6 : costsB p q C
    case true.true.true => exact (HX2.out g4 g5 g6).elim
    all_goals
      go_enter Try.func26, Try.ntmps26
      go_wp2_with (first
        | (go_at_call 74; refine (alike_any _ _ _ _ _ _ _ _ _ hp hq).mono ?_; rintro e w' ⟨rfl, rfl⟩)
        | (go_at_call_of 81 (Value.slice d n3 c3); refine (allWithin_any _ _ _ _ _ _ _ hu).mono ?_; rintro e w' ⟨rfl, rfl⟩)
        | (go_at_call_of 81 (Value.slice f n4 c4); refine (allWithin_any _ _ _ _ _ _ _ hv).mono ?_; rintro e w' ⟨rfl, rfl⟩)
        | (go_at_call 82; refine (areCosts_any _ _ _ _ _ _ _ _ _ _ _ _ _ hp hq ht).mono ?_; rintro e w' ⟨rfl, rfl⟩))
      go_ret2
      exact ⟨by rw [apV, HB.out]; rfl, Fr.refl _⟩
  · have HB := Lib.hid h1
    obtain ⟨g1, g2, g3, g4⟩ := apOk_iff.1 h1
    rw [Hp.out] at g3
    rw [Hq.out] at g4
    obtain ⟨s1, s2, s3, s4⟩ := alikeB_iff.1 g1
    have q1 := (spreadB_iff.1 s1).1
    rw [Hp.out] at q1
    have hn : n2 = n1 := by rw [← Hp.out, ← Hq.out, s3]
    subst hn
    obtain rfl : n3 = n2 := by rw [← Hu.out]; exact (numB_iff.1 g3).1
    obtain rfl : n4 = n3 := by rw [← Hv.out]; exact (numB_iff.1 g4).1
    obtain rfl : n5 = n4 := by rw [← Ht.out, (costs_rows g2).1, Hp.out]
    have HU := Lib.hid (nth_bd (numB_iff.1 g3).2 (by omega) (by omega))
    have HV := Lib.hid (nth_bd (numB_iff.1 g4).2 (by omega) (by omega))
    have HR := Lib.hid (costs_rows g2).2
    have HC := Lib.hid (costs_cell g2)
    have a1 : allB u (-999) 999 = true := allB_iff.2 (numB_iff.1 g3).2
    have a2 : allB v (-999) 999 = true := allB_iff.2 (numB_iff.1 g4).2
    clear s1 s2 s3 s4 h1 g3 g4
    go_enter Try.func26, Try.ntmps26
    go_wp2_with (first
      | (go_at_call 74; refine (alike_any _ _ _ _ _ _ _ _ _ hp hq).mono ?_; rintro e w' ⟨rfl, rfl⟩)
      | (go_at_call_of 81 (Value.slice d n5 c3); refine (allWithin_any _ _ _ _ _ _ _ hu).mono ?_; rintro e w' ⟨rfl, rfl⟩)
      | (go_at_call_of 81 (Value.slice f n5 c4); refine (allWithin_any _ _ _ _ _ _ _ hv).mono ?_; rintro e w' ⟨rfl, rfl⟩)
      | (go_at_call 82; refine (areCosts_any _ _ _ _ _ _ _ _ _ _ _ _ _ hp hq ht).mono ?_; rintro e w' ⟨rfl, rfl⟩))
    clear g1 g2 a1 a2
    go_loopw [53] (fun i wr => ∃ j : Nat, j ≤ n5 ∧ i = .int .i64 j ∧ Hid (∀ i, i < j → potRow u v C i = true) ∧ Qt w wr) (fun i _ => n5 - (intOf i).toNat)
    case atStart => exact ⟨0, Nat.zero_le _, rfl, Lib.hid (fun i hi => by omega), Qt.refl _⟩
    case round =>
      obtain ⟨j, hj, rfl, hs, hf⟩ := hrel
      by_cases hlt : j < n5
      · obtain ⟨wo, rfl⟩ : ∃ wo : World, wo = wr := ⟨_, rfl⟩
        obtain ⟨b3, o3, rfl, hc3⟩ := ht.rows.resolve_left (by omega)
        obtain ⟨pr, mr, cr, hcell, hrow⟩ := hc3 j hlt
        clear hc3
        replace hcell := hf.fr.keep hcell
        have hmr : mr = n5 := by rw [← hrow.len, HR.out j (by rw [Hp.out]; exact hlt), Hq.out]
        subst hmr
        go_wp2
        go_loopw [60] (fun i wi => ∃ k : Nat, k ≤ mr ∧ i = .int .i64 k ∧ Hid (∀ i, i < k → nth u j + nth v i ≤ cellT C j i) ∧ Qt w wi) (fun i _ => mr - (intOf i).toNat)
        case atStart => exact ⟨0, Nat.zero_le _, rfl, Lib.hid (fun i hi => by omega), hf⟩
        case round =>
          clear hf hcell
          obtain ⟨k, hk, rfl, hs2, hf⟩ := hrel
          by_cases hkt : k < mr
          · obtain ⟨br, orr, rfl, hcr⟩ := (hrow.qt hf).cells.resolve_left (by omega)
            replace hcr := hcr k hkt
            obtain ⟨bu, ou, rfl, hcu⟩ := (hu.qt hf).cells.resolve_left (by omega)
            replace hcu := hcu j hlt
            obtain ⟨bv, ov, rfl, hcv⟩ := (hv.qt hf).cells.resolve_left (by omega)
            replace hcv := hcv k hkt
            have B1 := HU.out j
            have B2 := HV.out k
            have i1 : (0 : Int) ≤ (j : Int) := by omega
            have i2 : (j : Int) < (mr : Int) := by omega
            have i3 : (0 : Int) ≤ (k : Int) := by omega
            have i4 : (k : Int) < (mr : Int) := by omega
            by_cases hb : nth u j + nth v k ≤ nth (nthL C j) k
            · have HY := Lib.hid hb
              have hb1 : decide (nth (nthL C j) k < nth u j + nth v k) = false := by simp; omega
              go_wp2
              have e1 : IntKind.i64.wrap (nth u j + nth v k) = nth u j + nth v k := IntWalk.i64_in _ (by omega)
              clear hb
              go_quiet (fail)
              clear e1
              go_wp2
              go_roundw
              case rel => exact ⟨k + 1, by omega, by go_num, Lib.hid (fun i hi => by by_cases e : i = k; (· subst e; exact HY.out); (· exact hs2.out i (by omega))), hf.drewN _⟩
              case measure => simp [intOf]; omega
            · have HY : Hid (cellT C j k < nth u j + nth v k) := Lib.hid (Int.not_le.1 hb)
              have hb1 : decide (nth (nthL C j) k < nth u j + nth v k) = true := by simp; omega
              go_wp2
              have e1 : IntKind.i64.wrap (nth u j + nth v k) = nth u j + nth v k := IntWalk.i64_in _ (by omega)
              clear hb
              go_quiet (fail)
              clear e1
              go_wp2
              go_ret2
              exact ⟨by rw [apV, HB.out, potB_no (by rw [Hu.out]; exact hlt) (by rw [Hv.out]; exact hkt) HY.out]; rfl, (hf.drewN _).fr⟩
          · obtain rfl : k = mr := by omega
            go_wp2
            go_roundw
            case rel => exact ⟨j + 1, by omega, by go_num, Lib.hid (fun i hi => by by_cases e : i = j; (· subst e; exact potB_go (by rw [Hv.out]; exact hs2.out)); (· exact hs.out i (by omega))), hf⟩
            case measure => simp [intOf]; omega
      · obtain rfl : j = n5 := by omega
        go_wp2
        go_ret2
        exact ⟨by rw [apV, HB.out, potB_iff.2 (by rw [Hu.out]; exact hs.out)]; rfl, hf.fr⟩

end Go.Proofs.Ytboekndojgbkfaa
