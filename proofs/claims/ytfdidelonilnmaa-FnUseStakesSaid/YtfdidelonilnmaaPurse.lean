import Derived.Test.YtfdidelonilnmaaUse
import Derived.Test.YtfdidelonilnmaaShare
/- Contracts of PurseSpread. -/
set_option linter.unusedVariables false
namespace Go.Proofs.Ytfdidelonilnmaa
open Go.ChangeShapes Go.WideShapes Go.ChangeAt Go.RowKit

def purseS (most top k : Nat) : Nat := min most (min k (top - k))
/-- One round's table behind the first k purses. -/
def stepP (x y : Int) (most top : Nat) (at_ : List Int) : Nat → List Int
  | 0 => List.replicate (top + 1) 0
  | k + 1 =>
    let nx := stepP x y most top at_ k
    let n1 := nx.set (k + purseS most top k) (wrap64 (nth nx (k + purseS most top k) + wrap64 (x * nth at_ k)))
    n1.set (k - purseS most top k) (wrap64 (nth n1 (k - purseS most top k) + wrap64 (y * nth at_ k)))
def purseTo (x y : Int) (most top coins : Nat) : Nat → List Int
  | 0 => (List.replicate (top + 1) 0).set coins 1
  | r + 1 => stepP x y most top (purseTo x y most top coins r) (top + 1)
def purseOk (top x y rounds coins most : Int) : Bool := inB top 1 12 && luckB x y && inB rounds 0 5 && inB coins 0 top && inB most 0 12
def purseV (top x y rounds coins most : Int) : List Int := bif purseOk top x y rounds coins most then purseTo x y most.toNat top.toNat coins.toNat rounds.toNat else []
theorem purseOk_iff {top x y rounds coins most : Int} : purseOk top x y rounds coins most = true ↔ (1 ≤ top ∧ top ≤ 12) ∧ luckB x y = true ∧ (0 ≤ rounds ∧ rounds ≤ 5) ∧ (0 ≤ coins ∧ coins ≤ top) ∧ (0 ≤ most ∧ most ≤ 12) := by
  simp [purseOk, inB_iff, and_assoc]

theorem impl_PurseSpread_no (w : World) (t x y r c m : Int) (h : purseOk t x y r c m = false) :
    Calls Try.prog 24 #[.int .i64 t, .int .i64 x, .int .i64 y, .int .i64 r, .int .i64 c, .int .i64 m] w fun e w' => e = .returned (.tuple #[.slice none 0 0, .bool false]) ∧ w = w' := by
  have H := Lib.hid h
  clear h
  cases h1 : inB t 1 12 <;> cases h2 : luckB x y <;> cases h3 : inB r 0 5 <;> cases h4 : inB c 0 t <;> cases h5 : inB m 0 12
  case true.true.true.true.true => have := H.out; rw [purseOk, h1, h2, h3, h4, h5] at this; cases this
  all_goals
    go_enter Try.func24, Try.ntmps24
    go_wp2_with (first
      | (go_at_call 56; refine (within_any _ _ _ _).mono ?_; rintro e w' ⟨rfl, rfl⟩)
      | (go_at_call 61; refine (isLuck_any _ _ _).mono ?_; rintro e w' ⟨rfl, rfl⟩))
    go_ret2
    exact ⟨rfl, rfl⟩

theorem spec_PurseSpread_no (w : World) (t x y r c m : Int) (h : purseOk t x y r c m = false) :
    Calls Try.prog 23 #[.int .i64 t, .int .i64 x, .int .i64 y, .int .i64 r, .int .i64 c, .int .i64 m] w (RetSB [] false w) := by
  have H := Lib.hid h
  clear h
  cases h1 : inB t 1 12 <;> cases h2 : luckB x y <;> cases h3 : inB r 0 5 <;> cases h4 : inB c 0 t <;> cases h5 : inB m 0 12
  case true.true.true.true.true => have := H.out; rw [purseOk, h1, h2, h3, h4, h5] at this; cases this
  all_goals
    go_enter Try.func23, Try.ntmps23
    go_wp2_with (first
      | (go_at_call 58; refine (l1In_any _ _ _ _).mono ?_; rintro e w' ⟨rfl, rfl⟩)
      | (go_at_call 59; refine (l11Luck_any _ _ _).mono ?_; rintro e w' ⟨rfl, rfl⟩))
    go_ret2
    exact ⟨_, _, _, rfl, Own.made0 _ (Nat.le_refl _), (Fr.refl _).alloc _, by omega⟩

theorem purseS_le (most top k : Nat) : purseS most top k ≤ most ∧ purseS most top k ≤ k ∧ purseS most top k ≤ top - k := by unfold purseS; omega
theorem stepP_len (x y : Int) (most top : Nat) (l : List Int) (k : Nat) : (stepP x y most top l k).length = top + 1 := by
  induction k with
  | zero => simp [stepP]
  | succ k ih => simp [stepP, ih]
theorem purseTo_len (x y : Int) (most top coins r : Nat) : (purseTo x y most top coins r).length = top + 1 := by
  cases r with
  | zero => simp [purseTo]
  | succ r => exact stepP_len _ _ _ _ _ _

theorem impl_PurseSpread_yes (w : World) (x y : Int) (T R C M : Nat) (hT : 1 ≤ T ∧ T ≤ 12) (hL : luckB x y = true) (hR : R ≤ 5) (hC : C ≤ T) (hM : M ≤ 12) :
    Calls Try.prog 24 #[.int .i64 T, .int .i64 x, .int .i64 y, .int .i64 R, .int .i64 C, .int .i64 M] w (RetSB (purseTo x y M T C R) true w) := by
  have h1 : inB (T : Int) 1 12 = true := inB_iff.2 (by omega)
  have h3 : inB (R : Int) 0 5 = true := inB_iff.2 (by omega)
  have h4 : inB (C : Int) 0 T = true := inB_iff.2 (by omega)
  have h5 : inB (M : Int) 0 12 = true := inB_iff.2 (by omega)
  have hmk := fun w => run_make_row' 22 3 (.int .i64 0) 8 Try.underlying22 infoInt rfl .i64 .i64 (T + 1) (by omega) (by omega) w
  have ec : ((T + 1 : Nat) : Int) = (T : Int) + 1 := by omega
  rw [ec] at hmk
  clear ec
  have hC' : C < T + 1 := by omega
  have hmade : ∀ w : World, Own w.heap.size (w.alloc (.cells (madeCells #[.int .i64 0] (T + 1)) 3)) (some ⟨w.heap.size, 0, none⟩) (T + 1) (T + 1) (List.replicate (T + 1) 0) := fun w => Own.made w (T + 1) (Nat.le_refl _) (by unfold maxLen; omega)
  have hset := (hmade w).set rfl hC' (v := 1) (by simp [I64])
  rw [World.setCell_alloc_at _ _ _ _ _ rfl] at hset
  have hfr := (Fr.refl w).alloc (.cells ((madeCells #[.int .i64 0] (T + 1)).setIfInBounds C (.int .i64 1)) 3)
  obtain ⟨v0, hv0⟩ : ∃ v, (w.alloc (.cells (madeCells #[.int .i64 0] (T + 1)) 3)).cell? ⟨w.heap.size, C, none⟩ = some v := ⟨_, (hmade w).cellAt rfl hC'⟩
  have hz0 : (w.alloc (.cells (madeCells #[.int .i64 0] (T + 1)) 3)).frozen? ⟨w.heap.size, C, none⟩ = false := (hmade w).frz C
  have HM := Lib.hid hmade
  clear hmade
  go_enter Try.func24, Try.ntmps24
  go_wp2_with (first
      | (go_at_call 56; refine (within_any _ _ _ _).mono ?_; rintro e w' ⟨rfl, rfl⟩)
      | (go_at_call 61; refine (isLuck_any _ _ _).mono ?_; rintro e w' ⟨rfl, rfl⟩))
  clear hv0 hz0
  go_loopw [14, 51] (fun q i wr => ∃ r g : Nat, r ≤ R ∧ i = .int .i64 r ∧ q = .slice (some ⟨g, 0, none⟩) (T + 1) (T + 1) ∧ Own w.heap.size wr (some ⟨g, 0, none⟩) (T + 1) (T + 1) (purseTo x y M T C r) ∧ Fr w wr) (fun _ i _ => R - (intOf i).toNat)
  case atStart => exact ⟨0, _, Nat.zero_le _, rfl, rfl, hset, hfr⟩
  case round =>
    clear hset hfr
    obtain ⟨r, g, hr, rfl, rfl, ho, hf⟩ := hrel
    by_cases hlt : r < R
    · go_wp2
      obtain ⟨wo, rfl⟩ : ∃ wo : World, wo = wr := ⟨_, rfl⟩
      have hnx := HM.out wo
      have hfo : Fr wo (wo.alloc (.cells (madeCells #[.int .i64 0] (T + 1)) 3)) := (Fr.refl wo).alloc _
      have hgl := (ho.blk g rfl).2
      go_loopw [58] (fun i wi => ∃ k : Nat, k ≤ T + 1 ∧ i = .int .i64 k ∧ Own wo.heap.size wi (some ⟨wo.heap.size, 0, none⟩) (T + 1) (T + 1) (stepP x y M T (purseTo x y M T C r) k) ∧ Fr wo wi) (fun i _ => T + 1 - (intOf i).toNat)
      case atStart => exact ⟨0, Nat.zero_le _, rfl, hnx, hfo⟩
      case round =>
        clear hnx hfo
        obtain ⟨k, hk, rfl, hn, hfi⟩ := hrel
        by_cases hkt : k < T + 1
        · obtain ⟨d, hd⟩ : ∃ d : Nat, T = k + d := ⟨T - k, by omega⟩
          have HD := Lib.hid hd
          have hd' : (T : Int) - (k : Int) = (d : Int) := by omega
          clear hd
          obtain ⟨S, hS⟩ : ∃ S, S = purseS M T k := ⟨_, rfl⟩
          have hSk : S ≤ k := by rw [hS]; exact (purseS_le M T k).2.1
          have hSd : S ≤ d := by have := (purseS_le M T k).2.2; have := HD.out; omega
          have hcs : (k < M ∧ d < k ∧ S = d) ∨ (k < M ∧ k ≤ d ∧ S = k) ∨ (M ≤ k ∧ d < M ∧ S = d) ∨ (M ≤ k ∧ M ≤ d ∧ S = M) := by have := HD.out; rw [hS]; unfold purseS; omega
          have HS := Lib.hid hS
          clear hS
          have hcA := (ho.fr hfi).cellAt rfl hkt
          have hb1 : k + S < T + 1 := by have := HD.out; omega
          have hb2 : k - S < T + 1 := by omega
          have hc1 := hn.cellAt rfl hb1
          have hz1 := hn.frz (k + S)
          have hn1 := hn.set rfl hb1 (I64.wrap (nth (stepP x y M T (purseTo x y M T C r) k) (k + S) + wrap64 (x * nth (purseTo x y M T C r) k)))
          have hc2 := hn1.cellAt rfl hb2
          have hz2 := hn1.frz (k - S)
          have hn2 := hn1.set rfl hb2 (I64.wrap (nth ((stepP x y M T (purseTo x y M T C r) k).set (k + S) (wrap64 (nth (stepP x y M T (purseTo x y M T C r) k) (k + S) + wrap64 (x * nth (purseTo x y M T C r) k)))) (k - S) + wrap64 (y * nth (purseTo x y M T C r) k)))
          rcases hcs with ⟨q1, q2, rfl⟩ | ⟨q1, q2, rfl⟩ | ⟨q1, q2, rfl⟩ | ⟨q1, q2, rfl⟩
          all_goals
            try simp only [Nat.sub_self] at hc2 hz2
            go_wp2
            go_roundw
            case rel =>
              first | refine ⟨k + 1, by omega, by go_num, ?_, (hfi.setCell (Nat.le_refl _) _).setCell (Nat.le_refl _) _⟩ | refine ⟨S + 1, by omega, by go_num, ?_, (hfi.setCell (Nat.le_refl _) _).setCell (Nat.le_refl _) _⟩
              rw [stepP, ← HS.out]
              first | exact hn2 | simpa using hn2
            case measure => simp [intOf]; omega
        · go_wp2
          go_roundw
          case rel =>
            refine ⟨r + 1, wo.heap.size, by omega, by go_num, rfl, ?_, hf.trans hfi⟩
            rw [show k = T + 1 by omega] at hn
            exact hn.mono hf.size
          case measure => simp [intOf]; omega
    · go_wp2
      go_ret2
      rw [show r = R by omega] at ho
      exact ⟨_, _, _, rfl, ho, hf, by omega⟩

theorem spec_PurseSpread_yes (w : World) (x y : Int) (T R C M : Nat) (hT : 1 ≤ T ∧ T ≤ 12) (hL : luckB x y = true) (hR : R ≤ 5) (hC : C ≤ T) (hM : M ≤ 12) :
    Calls Try.prog 23 #[.int .i64 T, .int .i64 x, .int .i64 y, .int .i64 R, .int .i64 C, .int .i64 M] w (RetSB (purseTo x y M T C R) true w) := by
  have h1 : inB (T : Int) 1 12 = true := inB_iff.2 (by omega)
  have h3 : inB (R : Int) 0 5 = true := inB_iff.2 (by omega)
  have h4 : inB (C : Int) 0 T = true := inB_iff.2 (by omega)
  have h5 : inB (M : Int) 0 12 = true := inB_iff.2 (by omega)
  have hmk := fun w => run_make_row' 22 3 (.int .i64 0) 8 Try.underlying22 infoInt rfl .i64 .i64 (T + 1) (by omega) (by omega) w
  have ec : ((T + 1 : Nat) : Int) = (T : Int) + 1 := by omega
  rw [ec] at hmk
  clear ec
  have hC' : C < T + 1 := by omega
  have hmade : ∀ w : World, Own w.heap.size (w.alloc (.cells (madeCells #[.int .i64 0] (T + 1)) 3)) (some ⟨w.heap.size, 0, none⟩) (T + 1) (T + 1) (List.replicate (T + 1) 0) := fun w => Own.made w (T + 1) (Nat.le_refl _) (by unfold maxLen; omega)
  have hset := (hmade w).set rfl hC' (v := 1) (by simp [I64])
  rw [World.setCell_alloc_at _ _ _ _ _ rfl] at hset
  have hfr := (Fr.refl w).alloc (.cells ((madeCells #[.int .i64 0] (T + 1)).setIfInBounds C (.int .i64 1)) 3)
  obtain ⟨v0, hv0⟩ : ∃ v, (w.alloc (.cells (madeCells #[.int .i64 0] (T + 1)) 3)).cell? ⟨w.heap.size, C, none⟩ = some v := ⟨_, (hmade w).cellAt rfl hC'⟩
  have hz0 : (w.alloc (.cells (madeCells #[.int .i64 0] (T + 1)) 3)).frozen? ⟨w.heap.size, C, none⟩ = false := (hmade w).frz C
  have HM := Lib.hid hmade
  clear hmade
  go_enter Try.func23, Try.ntmps23
  go_wp2_with (first
      | (go_at_call 58; refine (l1In_any _ _ _ _).mono ?_; rintro e w' ⟨rfl, rfl⟩)
      | (go_at_call 59; refine (l11Luck_any _ _ _).mono ?_; rintro e w' ⟨rfl, rfl⟩))
  clear hv0 hz0
  go_loopw [14, 15] (fun q i wr => ∃ r g : Nat, r ≤ R ∧ i = .int .i64 r ∧ q = .slice (some ⟨g, 0, none⟩) (T + 1) (T + 1) ∧ Own w.heap.size wr (some ⟨g, 0, none⟩) (T + 1) (T + 1) (purseTo x y M T C r) ∧ Fr w wr) (fun _ i _ => R - (intOf i).toNat)
  case atStart => exact ⟨0, _, Nat.zero_le _, rfl, rfl, hset, hfr⟩
  case round =>
    clear hset hfr
    obtain ⟨r, g, hr, rfl, rfl, ho, hf⟩ := hrel
    by_cases hlt : r < R
    · go_wp2
      obtain ⟨wo, rfl⟩ : ∃ wo : World, wo = wr := ⟨_, rfl⟩
      have hnx := HM.out wo
      have hfo : Fr wo (wo.alloc (.cells (madeCells #[.int .i64 0] (T + 1)) 3)) := (Fr.refl wo).alloc _
      have hgl := (ho.blk g rfl).2
      go_loopw [17] (fun i wi => ∃ k : Nat, k ≤ T + 1 ∧ i = .int .i64 k ∧ Own wo.heap.size wi (some ⟨wo.heap.size, 0, none⟩) (T + 1) (T + 1) (stepP x y M T (purseTo x y M T C r) k) ∧ Fr wo wi) (fun i _ => T + 1 - (intOf i).toNat)
      case atStart => exact ⟨0, Nat.zero_le _, rfl, hnx, hfo⟩
      case round =>
        clear hnx hfo
        obtain ⟨k, hk, rfl, hn, hfi⟩ := hrel
        by_cases hkt : k < T + 1
        · obtain ⟨d, hd⟩ : ∃ d : Nat, T = k + d := ⟨T - k, by omega⟩
          have HD := Lib.hid hd
          have hd' : (T : Int) - (k : Int) = (d : Int) := by omega
          clear hd
          obtain ⟨S, hS⟩ : ∃ S, S = purseS M T k := ⟨_, rfl⟩
          have hSk : S ≤ k := by rw [hS]; exact (purseS_le M T k).2.1
          have hSd : S ≤ d := by have := (purseS_le M T k).2.2; have := HD.out; omega
          have HMn : Hid (min (M : Int) (min (k : Int) (d : Int)) = (S : Int)) := by have := HD.out; unfold Hid; rw [hS]; unfold purseS; omega
          have HS := Lib.hid hS
          clear hS
          have hcA := (ho.fr hfi).cellAt rfl hkt
          have hb1 : k + S < T + 1 := by have := HD.out; omega
          have hb2 : k - S < T + 1 := by omega
          have hc1 := hn.cellAt rfl hb1
          have hz1 := hn.frz (k + S)
          have hcB := ((ho.fr hfi).setOther (p := ⟨wo.heap.size, k + S, none⟩) (by simp [blkOf]; omega) (.int .i64 (wrap64 (nth (stepP x y M T (purseTo x y M T C r) k) (k + S) + wrap64 (x * nth (purseTo x y M T C r) k))))).cellAt rfl hkt
          have hn1 := hn.set rfl hb1 (I64.wrap (nth (stepP x y M T (purseTo x y M T C r) k) (k + S) + wrap64 (x * nth (purseTo x y M T C r) k)))
          have hc2 := hn1.cellAt rfl hb2
          have hz2 := hn1.frz (k - S)
          have hn2 := hn1.set rfl hb2 (I64.wrap (nth ((stepP x y M T (purseTo x y M T C r) k).set (k + S) (wrap64 (nth (stepP x y M T (purseTo x y M T C r) k) (k + S) + wrap64 (x * nth (purseTo x y M T C r) k)))) (k - S) + wrap64 (y * nth (purseTo x y M T C r) k)))
          go_wp2_with fail
          refine (l1Least_any _ _ _).mono ?_
          rintro e w' ⟨rfl, rfl⟩
          go_wp2_with fail
          refine (l1Least_any _ _ _).mono ?_
          rintro e w' ⟨rfl, rfl⟩
          rw [HMn.out]
          have i1 : (0 : Int) ≤ ((k - S : Nat) : Int) := by omega
          have i2 : ((k - S : Nat) : Int) < ((T + 1 : Nat) : Int) := by omega
          have i3 : (0 : Int) ≤ (k : Int) := by omega
          have i4 : (k : Int) < ((T + 1 : Nat) : Int) := by omega
          have i5 : (0 : Int) ≤ ((k + S : Nat) : Int) := by omega
          have i6 : ((k + S : Nat) : Int) < ((T + 1 : Nat) : Int) := by omega
          go_wp2
          have w1 : IntKind.i64.wrap ((k : Int) + (S : Int)) = ((k + S : Nat) : Int) := by rw [IntWalk.i64_in _ (by omega)]; omega
          have w2 : IntKind.i64.wrap (x * nth (purseTo x y M T C r) k) = wrap64 (x * nth (purseTo x y M T C r) k) := IntWalk.i64_left _
          have w3 : IntKind.i64.wrap (nth (stepP x y M T (purseTo x y M T C r) k) (k + S) + wrap64 (x * nth (purseTo x y M T C r) k)) = wrap64 (nth (stepP x y M T (purseTo x y M T C r) k) (k + S) + wrap64 (x * nth (purseTo x y M T C r) k)) := IntWalk.i64_left _
          go_region
          clear w1 w2 w3
          go_wp2
          have w1 : IntKind.i64.wrap ((k : Int) - (S : Int)) = ((k - S : Nat) : Int) := by rw [IntWalk.i64_in _ (by omega)]; omega
          have w2 : IntKind.i64.wrap (y * nth (purseTo x y M T C r) k) = wrap64 (y * nth (purseTo x y M T C r) k) := IntWalk.i64_left _
          have w3 : IntKind.i64.wrap (nth ((stepP x y M T (purseTo x y M T C r) k).set (k + S) (wrap64 (nth (stepP x y M T (purseTo x y M T C r) k) (k + S) + wrap64 (x * nth (purseTo x y M T C r) k)))) (k - S) + wrap64 (y * nth (purseTo x y M T C r) k)) = wrap64 (nth ((stepP x y M T (purseTo x y M T C r) k).set (k + S) (wrap64 (nth (stepP x y M T (purseTo x y M T C r) k) (k + S) + wrap64 (x * nth (purseTo x y M T C r) k)))) (k - S) + wrap64 (y * nth (purseTo x y M T C r) k)) := IntWalk.i64_left _
          go_region
          clear w1 w2 w3
          go_wp2
          go_roundw
          case rel =>
            refine ⟨k + 1, by omega, by go_num, ?_, ((hfi.setCell (Nat.le_refl _) _).setCell (Nat.le_refl _) _).drew' 2⟩
            rw [stepP, ← HS.out]
            exact hn2.drewN 2
          case measure => simp [intOf]; omega
        · go_wp2
          go_roundw
          case rel =>
            refine ⟨r + 1, wo.heap.size, by omega, by go_num, rfl, ?_, hf.trans hfi⟩
            rw [show k = T + 1 by omega] at hn
            exact hn.mono hf.size
          case measure => simp [intOf]; omega
    · go_wp2
      go_ret2
      rw [show r = R by omega] at ho
      exact ⟨_, _, _, rfl, ho, hf, by omega⟩

theorem impl_PurseSpread_any (w : World) (t x y r c m : Int) (_ : I64 t) (_ : I64 x) (_ : I64 y) (_ : I64 r) (_ : I64 c) (_ : I64 m) :
    Calls Try.prog 24 #[.int .i64 t, .int .i64 x, .int .i64 y, .int .i64 r, .int .i64 c, .int .i64 m] w (RetSB (purseV t x y r c m) (purseOk t x y r c m) w) := by
  cases h : purseOk t x y r c m
  · have := impl_PurseSpread_no w t x y r c m h
    simp only [purseV, h, cond_false]
    first
      | exact this
      | exact this.mono fun e w' ⟨he, hw⟩ => ⟨none, 0, 0, he, hw ▸ ⟨World.ownsRow_nil _ _ _ _, by simp⟩, hw ▸ Fr.refl _, by omega⟩
  · obtain ⟨h1, h2, h3, h4, h5⟩ := purseOk_iff.1 h
    simp only [purseV, h, cond_true]
    obtain ⟨T, rfl⟩ := Int.eq_ofNat_of_zero_le (show 0 ≤ t by omega)
    obtain ⟨R, rfl⟩ := Int.eq_ofNat_of_zero_le (show 0 ≤ r by omega)
    obtain ⟨C, rfl⟩ := Int.eq_ofNat_of_zero_le (show 0 ≤ c by omega)
    obtain ⟨M, rfl⟩ := Int.eq_ofNat_of_zero_le (show 0 ≤ m by omega)
    exact impl_PurseSpread_yes w x y T R C M (by omega) h2 (by omega) (by omega) (by omega)

theorem spec_PurseSpread_any (w : World) (t x y r c m : Int) (_ : I64 t) (_ : I64 x) (_ : I64 y) (_ : I64 r) (_ : I64 c) (_ : I64 m) :
    Calls Try.prog 23 #[.int .i64 t, .int .i64 x, .int .i64 y, .int .i64 r, .int .i64 c, .int .i64 m] w (RetSB (purseV t x y r c m) (purseOk t x y r c m) w) := by
  cases h : purseOk t x y r c m
  · have := spec_PurseSpread_no w t x y r c m h
    simp only [purseV, h, cond_false]
    first
      | exact this
      | exact this.mono fun e w' ⟨he, hw⟩ => ⟨none, 0, 0, he, hw ▸ ⟨World.ownsRow_nil _ _ _ _, by simp⟩, hw ▸ Fr.refl _, by omega⟩
  · obtain ⟨h1, h2, h3, h4, h5⟩ := purseOk_iff.1 h
    simp only [purseV, h, cond_true]
    obtain ⟨T, rfl⟩ := Int.eq_ofNat_of_zero_le (show 0 ≤ t by omega)
    obtain ⟨R, rfl⟩ := Int.eq_ofNat_of_zero_le (show 0 ≤ r by omega)
    obtain ⟨C, rfl⟩ := Int.eq_ofNat_of_zero_le (show 0 ≤ c by omega)
    obtain ⟨M, rfl⟩ := Int.eq_ofNat_of_zero_le (show 0 ≤ m by omega)
    exact spec_PurseSpread_yes w x y T R C M (by omega) h2 (by omega) (by omega) (by omega)

end Go.Proofs.Ytfdidelonilnmaa
