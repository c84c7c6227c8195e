import Derived.Test.YtojipjjfndgbhaaTreeM
import Derived.Test.YtojipjjfndgbhaaApp
/- Contracts of trees: isNode, isProcess, isEnd, IsTree. -/
set_option linter.unusedVariables false
namespace Go.Proofs.Ytojipjjfndgbhaa
open Go.ChangeShapes Go.WideShapes Go.ChangeAt Go.RowKit

theorem isNode_any (w : World) (p q : Option Addr) (n c m d : Nat) (P W : List Int) (hP : SL w p n c P) (x : Int) :
    Calls Try.prog 71 #[.agg #[.slice p n c, .slice q m d], .int .i64 x] w fun e w' => e = .returned (.bool (inB x 0 ((n : Int) - 1))) ∧ Fr w w' := by
  have hn : n ≤ 9223372036854775807 := by have := hP.le; have := hP.mx; omega
  go_enter Try.func71, Try.ntmps71
  go_wp2_with (go_at_call 72; refine (within_any _ _ _ _).mono ?_; rintro e w' ⟨rfl, rfl⟩)
  go_ret
  exact ⟨rfl, (Fr.refl _).alloc _⟩

theorem isProcess_any (w : World) (p q a : Option Addr) (n c m d l k : Nat) (P W X : List Int) (hP : SL w p n c P) (hX : SL w a l k X) :
    Calls Try.prog 70 #[.agg #[.slice p n c, .slice q m d], .slice a l k] w fun e w' => e = .returned (.bool (procB P X)) ∧ Fr w w' := by
  have hn : n ≤ 9223372036854775807 := by have := hP.le; have := hP.mx; omega
  have hl : l ≤ 9223372036854775807 := by have := hX.le; have := hX.mx; omega
  have HP := Lib.hid hP.len
  have HX := Lib.hid hX.len
  by_cases hne : l = n
  · have HV : Hid (procB P X = allB X (-999) 999) := Lib.hid (by rw [procB, HP.out, HX.out, hne]; simp)
    subst hne
    have hX' := hX.fr ((Fr.refl w).alloc (.cells #[.slice p l c, .slice q m d] 29))
    go_enter Try.func70, Try.ntmps70
    go_wp2_with (go_at_call 108; refine (allWithin_any _ _ _ _ _ _ _ hX').mono ?_; rintro e w' ⟨rfl, rfl⟩)
    go_ret
    exact ⟨by rw [HV.out]; rfl, (Fr.refl _).alloc _⟩
  · have hb : ((l : Int) == (n : Int)) = false := beq_eq_false_iff_ne.2 (by omega)
    have HV : Hid (procB P X = false) := Lib.hid (by rw [procB, HP.out, HX.out, beq_eq_false_iff_ne.2 hne]; rfl)
    clear hne
    go_enter Try.func70, Try.ntmps70
    go_wp2
    go_ret
    exact ⟨by rw [HV.out]; rfl, (Fr.refl _).alloc _⟩

theorem isEnd_any (w : World) (p q : Option Addr) (n c m d : Nat) (P : List Int) (hP : SL w p n c P) (hp : parB P = true) (hn : n ≤ 1048576) :
    Calls Try.prog 112 #[.agg #[.slice p n c, .slice q m d]] w (RetB (endsAt P n) w) := by
  have HP := Lib.hid hP.len
  have Hp := Lib.hid hp
  clear hp
  have hmk := fun w => run_make_row' 120 4 (.bool false) 1 Try.underlying120 infoBool rfl .i64 .i64 n (by omega) (by omega) w
  go_enter Try.func112, Try.ntmps112
  go_wp2
  clear hmk
  have hfa : Fr (w.alloc (.cells #[.slice p n c, .slice q m d] 29)) ((w.alloc (.cells #[.slice p n c, .slice q m d] 29)).alloc (.cells (madeCells #[.bool false] n) 4)) := (Fr.refl _).alloc _
  have hmade := OwnB.made (B := w.heap.size + 1) (w.alloc (.cells #[.slice p n c, .slice q m d] 29)) n (by simp) (by unfold maxLen; omega)
  rw [World.size_alloc] at hmade
  go_loopw [13] (fun i wr => ∃ j : Nat, j ≤ n ∧ i = .int .i64 j ∧ OwnB (w.heap.size + 1) wr (some ⟨w.heap.size + 1, 0, none⟩) n n (List.replicate j true ++ List.replicate (n - j) false) ∧ Fr (w.alloc (.cells #[.slice p n c, .slice q m d] 29)) wr) (fun i _ => n - (intOf i).toNat)
  case atStart => exact ⟨0, Nat.zero_le _, rfl, by simpa using hmade, hfa⟩
  case round =>
    clear hmade hfa
    obtain ⟨j, hj, rfl, ho, hf⟩ := hrel
    by_cases hlt : j < n
    · obtain ⟨g, hg, hB, hlt2, hcell, hfro⟩ := ho.op (by omega)
      obtain rfl : w.heap.size + 1 = g := by simpa using hg
      replace hcell := hcell j hlt
      replace hfro := hfro j
      go_wp2
      go_roundw
      case rel =>
        refine ⟨j + 1, by omega, by go_num, ?_, hf.setCell (by simp) _⟩
        have := ho.set rfl hlt true
        rw [List.set_append_right _ _ (by simp), List.length_replicate, Nat.sub_self, show n - j = (n - (j + 1)) + 1 by omega, List.replicate_succ, List.set_cons_zero] at this
        rw [List.replicate_succ', List.append_assoc]
        exact this
      case measure => simp [intOf]; omega
    · obtain rfl : j = n := by omega
      rw [Nat.sub_self, List.replicate_zero, List.append_nil] at ho
      have hz : List.replicate j true = endsAt P 0 := by rw [endsAt_zero, HP.out]
      rw [hz] at ho
      clear hz
      have hbox := hf.newCell (j := 0) (v := .slice p j c) rfl
      go_wp2
      clear hbox
      go_loopw [23] (fun i wi => ∃ k : Nat, k ≤ j ∧ i = .int .i64 k ∧ OwnB (w.heap.size + 1) wi (some ⟨w.heap.size + 1, 0, none⟩) j j (endsAt P k) ∧ Fr (w.alloc (.cells #[.slice p j c, .slice q m d] 29)) wi) (fun i _ => j - (intOf i).toNat)
      case atStart => exact ⟨0, Nat.zero_le _, rfl, ho, hf⟩
      case round =>
        clear ho hf
        obtain ⟨k, hk, rfl, ho, hf⟩ := hrel
        have hF : Fr w wr := ((Fr.refl w).alloc _).trans hf
        by_cases hkt : k < j
        · obtain ⟨b, off, rfl, hc⟩ := (hP.fr hF).cells.resolve_left (by omega)
          replace hc := hc k hkt
          by_cases h0 : nth P k < 0
          · have HS := Lib.hid (endsAt_skip h0)
            have hb : decide (0 ≤ nth P k) = false := by simp; omega
            go_wp2
            go_roundw
            case rel => exact ⟨k + 1, by omega, by go_num, by rw [HS.out]; exact ho, hf⟩
            case measure => simp [intOf]; omega
          · obtain ⟨x, hx⟩ := Int.eq_ofNat_of_zero_le (Int.not_lt.1 h0)
            have hk0 : k ≠ 0 := fun e => by subst e; have := (parB_iff.1 Hp.out).1; omega
            have hxk := (parB_iff.1 Hp.out).2 k (by rw [HP.out]; exact hkt) (by omega)
            have hxj : x < j := by omega
            have HS := Lib.hid (endsAt_set hx (by rw [HP.out]; exact hxj))
            rw [hx] at hc
            clear h0 hx hxk hk0
            obtain ⟨g, hg, hB, hlt2, hcell, hfro⟩ := ho.op (by omega)
            obtain rfl : w.heap.size + 1 = g := by simpa using hg
            replace hcell := hcell x hxj
            replace hfro := hfro x
            go_wp2
            go_roundw
            case rel => exact ⟨k + 1, by omega, by go_num, by rw [← HS.out]; exact ho.set rfl hxj false, hf.setCell (by simp) _⟩
            case measure => simp [intOf]; omega
        · obtain rfl : k = j := by omega
          go_wp2
          go_ret
          exact ⟨_, _, _, rfl, ho.mono (by omega), hF, by omega⟩

end Go.Proofs.Ytojipjjfndgbhaa
