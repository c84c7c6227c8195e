import Derived.Test.YtolnloeapbplkaaDoorCrash
/- Marks of records, contracts of LogRecords. -/
set_option linter.unusedVariables false
namespace Go.Proofs.YtolnloeapbplkaaDoor
open Go.ChangeShapes Go.WideShapes Go.ChangeAt Go.RowKit

def mtG : Nat → Nat → List UInt8 → List UInt8
  | 0, _, out => out
  | f + 1, k, out => if k = 0 then out else mtG f (k / 10) (dgt (k % 10) :: out)
theorem mtG_done (f : Nat) (out : List UInt8) : mtG f 0 out = out := by cases f <;> simp [mtG]
theorem mtG_step {f k : Nat} (out : List UInt8) (h : 0 < k) (hf : k ≤ f) : mtG f k out = mtG (f - 1) (k / 10) (dgt (k % 10) :: out) := by
  cases f with
  | zero => omega
  | succ f => rw [mtG, if_neg (by omega)]; rfl
/-- A mark. -/
def mtS (k : Nat) : ByteArray := if k = 0 then ⟨#[109, 48]⟩ else ⟨#[109]⟩ ++ ba (mtG k k [])
theorem ByA.one (w : World) (b : UInt8) : ByA (w.alloc (.cells #[.int .u8 (b.toNat : Int)] 5)) w.heap.size [b] := by
  refine ⟨by simp, fun j hj => ?_⟩
  have : j = 0 := by simp at hj; omega
  subst this
  have H := heap_alloc_new w (.cells #[.int .u8 (b.toNat : Int)] 5)
  exact ⟨by rw [cell_of_row _ _ _ _ _ _ H]; rfl, by unfold World.frozen?; rw [H]; rfl⟩
theorem dgt_conv (r : Nat) (h : r < 10) : 48 + (r : Int) = ((dgt r).toNat : Int) := by
  rcases r with _ | _ | _ | _ | _ | _ | _ | _ | _ | _ | r
  all_goals first | rfl | omega
set_option maxRecDepth 100000 in
theorem markText_any (k : Nat) (w : World) (hk : k ≤ 100000) :
    Calls Tryd.prog 76 #[.int .i64 k] w fun e w' => e = .returned (.string (mtS k)) ∧ Fr w w' := by
  by_cases h0 : k = 0
  · have HV : Hid (mtS k = ⟨#[109, 48]⟩) := Lib.hid (by rw [mtS, if_pos h0])
    subst h0
    go_enter Tryd.func76, Tryd.ntmps76
    go_wp2
    go_ret
    exact ⟨by rw [HV.out]; rfl, Fr.refl _⟩
  · have HV : Hid (mtS k = ⟨#[109]⟩ ++ ba (mtG k k [])) := Lib.hid (by rw [mtS, if_neg h0])
    have hki : ¬ (k : Int) ≤ 0 := by omega
    go_enter Tryd.func76, Tryd.ntmps76
    go_wp2
    go_loopw [0, 3] (fun a o wr => ∃ (q : Nat) (s : ByteArray) (f : Nat), a = .int .i64 q ∧ o = .string s ∧ q ≤ f ∧ Hid (mtG k k [] = mtG f q (bl s)) ∧ q + s.size ≤ k ∧ Fr w wr) (fun a _ _ => (intOf a).toNat)
    case atStart => exact ⟨k, ⟨#[]⟩, k, rfl, rfl, Nat.le_refl _, Lib.hid rfl, Nat.le_refl _, Fr.refl _⟩
    case round =>
      obtain ⟨q, s, f, rfl, rfl, hqf, hG, hs, hF⟩ := hrel
      by_cases hq : 0 < q
      · have hqi : (0 : Int) < (q : Int) := by omega
        have kb : (convert 22 9 (.slice (some ⟨wr.heap.size, 0, none⟩) 1 1)).run Tryd.prog (wr.alloc (.cells #[.int .u8 (48 + (q : Int) % 10)] 5)) = .ok (.string (ba [dgt (q % 10)])) (wr.alloc (.cells #[.int .u8 (48 + (q : Int) % 10)] 5)) := by
          have h := (ByA.one wr (dgt (q % 10))).back 1 1 rfl
          rw [← dgt_conv (q % 10) (by omega)] at h
          exact h
        have HN : Hid (mtG k k [] = mtG (f - 1) (q / 10) (bl (ba [dgt (q % 10)] ++ s))) := Lib.hid (by rw [hG.out, mtG_step _ hq hqf, bl_app, bl_ba]; rfl)
        have ad := fun (W : World) => run_string_add_sum (P := Tryd.prog) W (ba [dgt (q % 10)]) s (by rw [ba_size]; simp; omega)
        clear hG
        go_wp2
        go_roundw
        case rel => exact ⟨q / 10, _, f - 1, by go_num, rfl, by omega, HN, by rw [ByteArray.size_append, ba_size]; simp; omega, hF.alloc _⟩
        case measure => simp [intOf]; omega
      · have hqi : ¬ (0 : Int) < (q : Int) := by omega
        obtain rfl : q = 0 := by omega
        have HN : Hid (mtS k = ⟨#[109]⟩ ++ s) := Lib.hid (by rw [HV.out, hG.out, mtG_done, ba_bl])
        have ad := fun (W : World) => run_string_add_sum (P := Tryd.prog) W ⟨#[109]⟩ s (by have : (⟨#[109]⟩ : ByteArray).size = 1 := rfl; omega)
        clear hG
        go_wp2
        go_ret
        exact ⟨by rw [HN.out]; rfl, hF⟩
end Go.Proofs.YtolnloeapbplkaaDoor
