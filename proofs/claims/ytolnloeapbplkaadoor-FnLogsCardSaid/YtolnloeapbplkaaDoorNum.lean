import Derived.Test.YtolnloeapbplkaaDoorEnc
/- Contracts of the reference's texts of numbers, seals and lines. -/
set_option linter.unusedVariables false
namespace Go.Proofs.YtolnloeapbplkaaDoor
open Go.ChangeShapes Go.WideShapes Go.ChangeAt Go.RowKit

def dgt (r : Nat) : UInt8 := UInt8.ofNat (48 + r)
theorem dig_at (r : Nat) (hr : r < 10) : (⟨#[48, 49, 50, 51, 52, 53, 54, 55, 56, 57]⟩ : ByteArray).extract r (r + 1) = ba [UInt8.ofNat (48 + r)] := by
  match r, hr with
  | 0, _ => decide
  | 1, _ => decide
  | 2, _ => decide
  | 3, _ => decide
  | 4, _ => decide
  | 5, _ => decide
  | 6, _ => decide
  | 7, _ => decide
  | 8, _ => decide
  | 9, _ => decide

theorem dig_slice (r : Nat) (hr : r < 10) (W : World) : (Instr.slice 9 (.string ⟨#[48, 49, 50, 51, 52, 53, 54, 55, 56, 57]⟩) (some (.int .i64 r)) (some (.int .i64 ((r : Int) + 1))) none).run Tryd.prog W = .ok (.string (ba [dgt r])) W := by
  have hz : (⟨#[48, 49, 50, 51, 52, 53, 54, 55, 56, 57]⟩ : ByteArray).size = 10 := rfl
  rw [run_slice_string W 9 _ .i64 .i64 r ((r : Int) + 1) Tryd.underlying9 (by omega) (by omega) (by rw [hz]; omega)]
  rw [show ((r : Int) + 1).toNat = r + 1 by omega, Int.toNat_natCast, dig_at r hr]; rfl
set_option maxRecDepth 100000 in
theorem l1Num_small (n : Nat) (hn : n < 10) (w : World) :
    Calls Tryd.prog 84 #[.int .i64 n] w fun e w' => e = .returned (.string (ba (Lib.decDigits n))) ∧ Qt w w' := by
  have HV : Hid (ba [dgt n] = ba (Lib.decDigits n)) := Lib.hid (by rw [Lib.decDigits, dif_pos hn]; rfl)
  have hsl := dig_slice n hn
  go_enter Tryd.func84, Tryd.ntmps84
  go_wp2
  go_ret
  exact ⟨by rw [← HV.out]; rfl, Qt.refl _⟩
set_option maxRecDepth 100000 in
theorem l1Num_any (n : Nat) : n ≤ 1000000000 → ∀ w : World, Calls Tryd.prog 84 #[.int .i64 n] w fun e w' => e = .returned (.string (ba (Lib.decDigits n))) ∧ Qt w w' := by
  induction n using Nat.strongRecOn with
  | _ n ih =>
    intro hn w
    by_cases h : n < 10
    · exact l1Num_small n h w
    · have hr : n % 10 < 10 := Nat.mod_lt _ (by omega)
      have HQ := Lib.hid (ih (n / 10) (by omega) (by omega))
      have HV : Hid (ba (Lib.decDigits (n / 10)) ++ ba [dgt (n % 10)] = ba (Lib.decDigits n)) := Lib.hid (ba_eq (by
        rw [bl_app, bl_ba, bl_ba]
        conv => rhs; rw [Lib.decDigits, dif_neg h]
        rfl))
      have hz : (ba (Lib.decDigits (n / 10))).size ≤ 10 := by rw [ba_size]; exact dec_len _ 9 (by omega)
      have e1 : ((n : Int).tdiv 10) = ((n / 10 : Nat) : Int) := (Int.tdiv_eq_ediv_of_nonneg (by omega)).trans (by omega)
      have e2 : ((n : Int).tmod 10) = ((n % 10 : Nat) : Int) := (Int.tmod_eq_emod_of_nonneg (by omega)).trans (by omega)
      have e1' : (n : Int) / 10 = ((n / 10 : Nat) : Int) := by omega
      have e2' : (n : Int) % 10 = ((n % 10 : Nat) : Int) := by omega
      generalize n / 10 = q at HQ HV hz e1 e1'
      generalize n % 10 = r at HV e2 e2' hr
      clear ih
      have HQ2 := Lib.hid (show ∀ W : World, Calls Tryd.prog 84 #[.int .i64 (IntKind.i64.wrap (q : Int))] W fun e w' => e = .returned (.string (ba (Lib.decDigits q))) ∧ Qt W w' from fun W => by rw [IntWalk.i64_in (q : Int) (by omega)]; exact HQ.out W)
      have hsl := dig_slice r hr
      have ha := fun W => run_string_add_sum (P := Tryd.prog) W (ba (Lib.decDigits q)) (ba [dgt r]) (by rw [ba_size [dgt r]]; simp; omega)
      have e3 : IntKind.i64.wrap ((r : Int) + 1) = (r : Int) + 1 := IntWalk.i64_in _ (by omega)
      have i1 : ¬ (n : Int) < 0 := by omega
      have i2 : ¬ (n : Int) < 10 := by omega
      have HN := Lib.hid hn
      clear h hn hr hz
      go_enter Tryd.func84, Tryd.ntmps84
      go_wp2
      go_quiet ((go_at_call 84; with_reducible exact qof (HQ2.out _)))
      go_wp2
      go_ret
      exact ⟨by rw [← HV.out]; rfl, (Qt.refl _).drewN _⟩

end Go.Proofs.YtolnloeapbplkaaDoor
