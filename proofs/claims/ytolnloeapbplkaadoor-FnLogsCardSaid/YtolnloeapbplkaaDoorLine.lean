import Derived.Test.YtolnloeapbplkaaDoorNum
import Derived.Test.YtolnloeapbplkaaDoorEnc
/- Contracts of the reference's seals and lines. -/
set_option linter.unusedVariables false
namespace Go.Proofs.YtolnloeapbplkaaDoor
open Go.ChangeShapes Go.WideShapes Go.ChangeAt Go.RowKit

set_option maxRecDepth 100000 in
theorem l1Seal_any (s : ByteArray) (w : World) (hs : s.size ≤ 4194304) :
    Calls Tryd.prog 83 #[.string s] w fun e w' => e = .returned (.string (ba (sealS (bl s)))) ∧ Qt w w' := by
  have hck := ckS_lt (bl s)
  have HL : Hid (∀ W : World, Calls Tryd.prog 104 #[.string s] W fun e w' => e = .returned (.int .i64 (ckS (bl s) : Nat)) ∧ W = w') := Lib.hid (fun W => l1Sum_any s W (by omega))
  have HQ : Hid (∀ W : World, Calls Tryd.prog 84 #[.int .i64 (ckS (bl s) : Nat)] W fun e w' => e = .returned (.string (ba (Lib.decDigits (ckS (bl s))))) ∧ Qt W w') := Lib.hid (fun W => l1Num_any (ckS (bl s)) (by omega) W)
  have HT : Hid (s ++ ⟨#[35]⟩ ++ ba (Lib.decDigits (ckS (bl s))) = ba (sealS (bl s))) := Lib.hid (ba_eq (by rw [bl_app, bl_app, bl_ba, sealS, List.append_assoc]; rfl))
  have hq : (ba (Lib.decDigits (ckS (bl s)))).size ≤ 6 := by rw [ba_size]; exact dec_len _ 5 (by omega)
  clear hck
  generalize ba (Lib.decDigits (ckS (bl s))) = q at HQ HT hq
  have e1 : (⟨#[35]⟩ : ByteArray).size = 1 := rfl
  have a1 := fun W => run_string_add_sum (P := Tryd.prog) W s ⟨#[35]⟩ (by omega)
  have a2 := fun W => run_string_add_sum (P := Tryd.prog) W (s ++ ⟨#[35]⟩) q (by rw [ByteArray.size_append]; omega)
  clear e1
  go_enter Tryd.func83, Tryd.ntmps83
  go_wp2_with (first
    | (go_at_call 104; refine (HL.out _).mono ?_; rintro e w' ⟨rfl, rfl⟩)
    | (go_at_call 84; refine (HQ.out _).mono ?_; rintro e w' ⟨rfl, k5, rfl⟩))
  go_ret
  exact ⟨by rw [← HT.out]; rfl, ((Qt.refl _).drewN _)⟩

set_option maxRecDepth 100000 in
theorem l12Line_any (i : Nat) (s t : ByteArray) (w : World) (hi : i < 100) (hs : s.size ≤ 1048576) (ht : t.size ≤ 1048576) :
    Calls Tryd.prog 58 #[.int .i64 i, .agg #[.string s, .string t]] w fun e w' => e = .returned (.string (ba (lineS i (bl s, bl t)))) ∧ Fr w w' := by
  have hfr : Fr w (w.alloc (.cells #[.string s, .string t] 25)) := (Fr.refl w).alloc _
  have c0 := (Fr.refl (w.alloc (.cells #[.string s, .string t] 25))).newCell (j := 0) (v := .string s) rfl
  have c1 := (Fr.refl (w.alloc (.cells #[.string s, .string t] 25))).newCell (j := 1) (v := .string t) rfl
  have HX := Lib.hid (bl_text i s t)
  obtain ⟨x0, hx0⟩ : ∃ x0 : ByteArray, ba (Lib.decDigits i) = x0 := ⟨_, rfl⟩
  have Hnum : Hid (∀ W : World, Calls Tryd.prog 84 #[.int .i64 i] W fun e w' => e = .returned (.string x0) ∧ Qt W w') := Lib.hid (fun W => hx0 ▸ l1Num_any i (by omega) W)
  have hn : x0.size ≤ 2 := by rw [← hx0, ba_size]; exact dec_len i 1 (by omega)
  have HX2 := Lib.hid (hx0 ▸ HX.out)
  clear HX hx0
  have e1 : (⟨#[32]⟩ : ByteArray).size = 1 := rfl
  have e2 : (⟨#[64]⟩ : ByteArray).size = 1 := rfl
  have e3 : (⟨#[10]⟩ : ByteArray).size = 1 := rfl
  have hxs : (x0 ++ ⟨#[32]⟩ ++ s ++ ⟨#[64]⟩ ++ t).size ≤ 4194304 := by
    simp only [ByteArray.size_append]; omega
  have HAP : Hid (∀ W : World, Calls Tryd.prog 83 #[.string (x0 ++ ⟨#[32]⟩ ++ s ++ ⟨#[64]⟩ ++ t)] W fun e w' => e = .returned (.string (ba (sealS (textS i (bl s, bl t))))) ∧ Qt W w') := Lib.hid (fun W => by
    have h := l1Seal_any _ W hxs
    rw [HX2.out] at h
    exact h)
  have hln : (ba (sealS (textS i (bl s, bl t)))).size ≤ 4194400 := by
    have h1 := (sealS_len (textS i (bl s, bl t))).2
    have h2 := congrArg List.length HX2.out
    rw [bl_len] at h2
    rw [ba_size]; omega
  have HLN : Hid (ba (sealS (textS i (bl s, bl t))) ++ ⟨#[10]⟩ = ba (lineS i (bl s, bl t))) := Lib.hid (ba_eq (by rw [bl_app, bl_ba, lineS]; rfl))
  generalize ba (sealS (textS i (bl s, bl t))) = q at HAP hln HLN
  have a1 := fun W => run_string_add_sum (P := Tryd.prog) W (x0) ⟨#[32]⟩ (by omega)
  have a2 := fun W => run_string_add_sum (P := Tryd.prog) W (x0 ++ ⟨#[32]⟩) s (by rw [ByteArray.size_append]; omega)
  have a3 := fun W => run_string_add_sum (P := Tryd.prog) W (x0 ++ ⟨#[32]⟩ ++ s) ⟨#[64]⟩ (by rw [ByteArray.size_append, ByteArray.size_append]; omega)
  have a4 := fun W => run_string_add_sum (P := Tryd.prog) W (x0 ++ ⟨#[32]⟩ ++ s ++ ⟨#[64]⟩) t (by rw [ByteArray.size_append, ByteArray.size_append, ByteArray.size_append]; omega)
  have a5 := fun W => run_string_add_sum (P := Tryd.prog) W q ⟨#[10]⟩ (by omega)
  clear e1 e2 e3 hxs
  go_enter Tryd.func58, Tryd.ntmps58
  go_wp2
  go_region_held3 (fun w' => w'.cell? ⟨w.heap.size, 0, none⟩ = some (.string s) ∧ w'.cell? ⟨w.heap.size, 1, none⟩ = some (.string t))
    (first
      | go_keep
      | (exact ⟨f5.keep c0, f5.keep c1⟩))
    (first
      | (go_at_call 84; refine (Hnum.out _).mono ?_; rintro e w' ⟨rfl, k5, rfl⟩)
      | (go_at_call 83; refine (HAP.out _).mono ?_; rintro e w' ⟨rfl, k5, rfl⟩))
  clear a1 a2 a3 a4 a5
  go_wp2
  go_ret
  exact ⟨by rw [← HLN.out]; rfl, hfr.drew' _⟩

set_option maxRecDepth 100000 in
theorem spec_EncodeRecord_any (k : Int) (s t : ByteArray) (w : World) (hs : s.size ≤ 1048576) (ht : t.size ≤ 1048576) :
    Calls Tryd.prog 18 #[.int .i64 k, .agg #[.string s, .string t]] w fun e w' => e = .returned (.tuple #[.string (ba (enV k (bl s, bl t))), .bool (enOk k (bl s, bl t))]) ∧ Fr w w' := by
  have hfr : Fr w (w.alloc (.cells #[.string s, .string t] 25)) := (Fr.refl w).alloc _
  have HR : Hid (enOk k (bl s, bl t) = (inB k 0 59 && recB (bl s, bl t))) := Lib.hid rfl
  cases hi : inB k 0 59
  · have HA : Hid (enOk k (bl s, bl t) = false) := Lib.hid (by rw [HR.out, hi]; rfl)
    have HV : Hid (enV k (bl s, bl t) = []) := Lib.hid (by rw [enV, HA.out]; rfl)
    go_enter Tryd.func18, Tryd.ntmps18
    go_wp2_with (go_at_call 56; refine (l1In_any _ _ _ _).mono ?_; rintro e w' ⟨rfl, rfl⟩)
    go_ret2
    exact ⟨by rw [HV.out, HA.out]; rfl, hfr⟩
  · obtain ⟨hk0, hk1⟩ := inB_iff.1 hi
    obtain ⟨i, rfl⟩ := Int.eq_ofNat_of_zero_le hk0
    have hi100 : i < 100 := by omega
    go_enter Tryd.func18, Tryd.ntmps18
    go_wp2_with (go_at_call 56; refine (l1In_any _ _ _ _).mono ?_; rintro e w' ⟨rfl, rfl⟩)
    refine (l12Record_any s t _ (by omega) (by omega)).mono ?_
    rintro e w1 ⟨rfl, f1⟩
    have hF1 := hfr.trans f1
    cases hr : recB (bl s, bl t)
    · have HA : Hid (enOk i (bl s, bl t) = false) := Lib.hid (by rw [HR.out, hi, hr]; rfl)
      have HV : Hid (enV i (bl s, bl t) = []) := Lib.hid (by rw [enV, HA.out]; rfl)
      go_wp2
      go_ret2
      exact ⟨by rw [HV.out, HA.out]; rfl, hF1⟩
    · have HA : Hid (enOk i (bl s, bl t) = true) := Lib.hid (by rw [HR.out, hi, hr]; rfl)
      have HV : Hid (enV i (bl s, bl t) = lineS i (bl s, bl t)) := Lib.hid (by rw [enV, HA.out, Int.toNat_natCast]; rfl)
      have c0 := f1.newCell (j := 0) (v := .string s) rfl; have c1 := f1.newCell (j := 1) (v := .string t) rfl
      go_wp2_with fail
      refine (l12Line_any i s t _ hi100 hs ht).mono ?_
      rintro e w2 ⟨rfl, f2⟩
      go_wp2
      go_ret2
      exact ⟨by rw [HV.out, HA.out]; rfl, hF1.trans f2⟩

end Go.Proofs.YtolnloeapbplkaaDoor
