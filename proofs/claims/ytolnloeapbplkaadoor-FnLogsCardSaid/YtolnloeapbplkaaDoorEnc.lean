import Derived.Test.YtolnloeapbplkaaDoorSeal
import Derived.Deep.RegionHeld3
/- Contracts of EncodeRecord. -/
set_option linter.unusedVariables false
namespace Go.Proofs.YtolnloeapbplkaaDoor
open Go.ChangeShapes Go.WideShapes Go.ChangeAt Go.RowKit

def enOk (k : Int) (e : List UInt8 × List UInt8) : Bool := inB k 0 59 && recB e
def enV (k : Int) (e : List UInt8 × List UInt8) : List UInt8 := bif enOk k e then lineS k.toNat e else []
theorem rec_size {s t : ByteArray} (h : recB (bl s, bl t) = true) : s.size ≤ 160 ∧ t.size ≤ 200 := by
  rw [recB, Bool.and_eq_true, cmdB_iff, repB_iff] at h
  have h1 := h.1.2.1; have h2 := h.2.1
  rw [bl_len] at h1 h2
  exact ⟨h1, h2⟩
theorem bl_text (i : Nat) (s t : ByteArray) : bl (ba (Lib.decDigits i) ++ ⟨#[32]⟩ ++ s ++ ⟨#[64]⟩ ++ t) = textS i (bl s, bl t) := by
  rw [bl_app, bl_app, bl_app, bl_app, bl_ba, textS]
  show ((Lib.decDigits i ++ [32]) ++ bl s ++ [64]) ++ bl t = _
  simp
theorem apOk_text {i : Nat} {e : List UInt8 × List UInt8} (h : recB e = true) (hi : i < 100) : apOk (textS i e) = true := by
  have h1 := textS_len h hi
  have h2 := textS_not (k := i) h 35 (.inl rfl)
  have h3 := sealS_len (textS i e)
  simp only [apOk, Bool.and_eq_true, decide_eq_true_eq, Bool.not_eq_true', decide_eq_false_iff_not]
  exact ⟨by omega, h2, by omega⟩

theorem num_any (i : Nat) (hi : i < 100) (w : World) : Calls Tryd.prog 55 #[.int .i64 i] w fun e w' => e = .returned (.string (ba (Lib.decDigits i))) ∧ w = w' :=
  (Tryd.strconv_Itoa_small i hi w).mono fun _ _ ⟨h1, h2⟩ => ⟨h1, h2.symm⟩
set_option maxRecDepth 100000 in
set_option maxHeartbeats 400000 in
theorem EncodeRecord_any (k : Int) (s t : ByteArray) (w : World) (hs : s.size ≤ 9223372036854775807) (ht : t.size ≤ 9223372036854775807) (hE : Env w) :
    Calls Tryd.prog 17 #[.int .i64 k, .agg #[.string s, .string t]] w fun e w' => e = .returned (.tuple #[.string (ba (enV k (bl s, bl t))), .bool (enOk k (bl s, bl t))]) ∧ Fr w w' := by
  have hfr : Fr w (w.alloc (.cells #[.string s, .string t] 25)) := (Fr.refl w).alloc _
  have HR : Hid (enOk k (bl s, bl t) = (inB k 0 59 && recB (bl s, bl t))) := Lib.hid rfl
  have c0 := (Fr.refl (w.alloc (.cells #[.string s, .string t] 25))).newCell (j := 0) (v := .string s) rfl
  have c1 := (Fr.refl (w.alloc (.cells #[.string s, .string t] 25))).newCell (j := 1) (v := .string t) rfl
  cases hi : inB k 0 59
  · have HA : Hid (enOk k (bl s, bl t) = false) := Lib.hid (by rw [HR.out, hi]; rfl)
    have HV : Hid (enV k (bl s, bl t) = []) := Lib.hid (by rw [enV, HA.out]; rfl)
    go_enter Tryd.func17, Tryd.ntmps17
    go_wp2_with (go_at_call 53; refine (within_any _ _ _ _).mono ?_; rintro e w' ⟨rfl, rfl⟩)
    go_ret2
    exact ⟨by rw [HV.out, HA.out]; rfl, hfr⟩
  · obtain ⟨hk0, hk1⟩ := inB_iff.1 hi
    obtain ⟨i, rfl⟩ := Int.eq_ofNat_of_zero_le hk0
    have hi100 : i < 100 := by omega
    have HE1 := Lib.hid (hE.fr hfr)
    go_enter Tryd.func17, Tryd.ntmps17
    go_wp2_with (go_at_call 53; refine (within_any _ _ _ _).mono ?_; rintro e w' ⟨rfl, rfl⟩)
    refine (impl_IsValidRecord_any s t _ hs ht).mono ?_
    rintro e w1 ⟨rfl, f1⟩
    have hF1 := hfr.trans f1
    have HE2 := Lib.hid (HE1.out.fr f1)
    replace c0 := f1.keep c0; replace c1 := f1.keep c1
    cases hr : recB (bl s, bl t)
    · have HA : Hid (enOk i (bl s, bl t) = false) := Lib.hid (by rw [HR.out, hi, hr]; rfl)
      have HV : Hid (enV i (bl s, bl t) = []) := Lib.hid (by rw [enV, HA.out]; rfl)
      go_wp2
      go_ret2
      exact ⟨by rw [HV.out, HA.out]; rfl, hF1⟩
    · have HA : Hid (enOk i (bl s, bl t) = true) := Lib.hid (by rw [HR.out, hi, hr]; rfl)
      have HV : Hid (enV i (bl s, bl t) = lineS i (bl s, bl t)) := Lib.hid (by rw [enV, HA.out, Int.toNat_natCast]; rfl)
      obtain ⟨s1, t1⟩ := rec_size hr
      have HO := Lib.hid (apOk_text hr hi100)
      have HX := Lib.hid (bl_text i s t)
      obtain ⟨x0, hx0⟩ : ∃ x0 : ByteArray, ba (Lib.decDigits i) = x0 := ⟨_, rfl⟩
      have hnum : ∀ W : World, Calls Tryd.prog 55 #[.int .i64 i] W fun e w' => e = .returned (.string x0) ∧ W = w' := fun W => hx0 ▸ num_any i hi100 W
      have hn : (ba (Lib.decDigits i)).size ≤ 2 := by rw [ba_size]; exact dec_len i 1 (by omega)
      have HAV : Hid (apV (textS i (bl s, bl t)) = sealS (textS i (bl s, bl t))) := Lib.hid (by rw [apV, HO.out]; rfl)
      have hln : (ba (sealS (textS i (bl s, bl t)))).size ≤ 400 := by
        rw [ba_size]; have := (sealS_len (textS i (bl s, bl t))).2; have := textS_len hr hi100; omega
      have HLN : Hid (ba (sealS (textS i (bl s, bl t))) ++ ⟨#[10]⟩ = ba (lineS i (bl s, bl t))) := Lib.hid (ba_eq (by rw [bl_app, bl_ba, lineS]; rfl))
      have hxs : (ba (Lib.decDigits i) ++ ⟨#[32]⟩ ++ s ++ ⟨#[64]⟩ ++ t).size ≤ 9223372036854775807 := by
        simp only [ByteArray.size_append]
        have e1 : (⟨#[32]⟩ : ByteArray).size = 1 := rfl
        have e2 : (⟨#[64]⟩ : ByteArray).size = 1 := rfl
        omega
      have HXS := Lib.hid hxs
      rw [hx0] at hn
      have HX2 := Lib.hid (hx0 ▸ HX.out); have HXS2 := Lib.hid (hx0 ▸ HXS.out)
      clear HX HXS
      have Hnum := Lib.hid hnum
      clear hnum
      clear hr hi hxs hk0 hk1 hx0
      have HAP : Hid (∀ W : World, Env W → Calls Tryd.prog 54 #[.string (x0 ++ ⟨#[32]⟩ ++ s ++ ⟨#[64]⟩ ++ t)] W fun e w' => e = .returned (.tuple #[.string (ba (sealS (textS i (bl s, bl t)))), .bool true]) ∧ Fr W w') := Lib.hid (fun W hW => by
        have h := AppendChecksum_any _ W HXS2.out hW
        rw [HX2.out, HO.out, HAV.out] at h
        exact h)
      have HE3 := Lib.hid (HE2.out.fr (Fr.drewN w1 1))
      have e1 : (⟨#[32]⟩ : ByteArray).size = 1 := rfl
      have e2 : (⟨#[64]⟩ : ByteArray).size = 1 := rfl
      have a1 := fun W => run_string_add_sum (P := Tryd.prog) W (x0) ⟨#[32]⟩ (by omega)
      have a2 := fun W => run_string_add_sum (P := Tryd.prog) W (x0 ++ ⟨#[32]⟩) s (by rw [ByteArray.size_append]; omega)
      have a3 := fun W => run_string_add_sum (P := Tryd.prog) W (x0 ++ ⟨#[32]⟩ ++ s) ⟨#[64]⟩ (by rw [ByteArray.size_append, ByteArray.size_append]; omega)
      have a4 := fun W => run_string_add_sum (P := Tryd.prog) W (x0 ++ ⟨#[32]⟩ ++ s ++ ⟨#[64]⟩) t (by rw [ByteArray.size_append, ByteArray.size_append, ByteArray.size_append]; omega)
      clear e1 e2
      go_wp2
      go_region_held3 (fun w' => w'.cell? ⟨w.heap.size, 0, none⟩ = some (.string s) ∧ w'.cell? ⟨w.heap.size, 1, none⟩ = some (.string t))
        (first
          | go_keep
          | (exact ⟨f5.keep c0, f5.keep c1⟩))
        (first
          | (go_at_call 55; refine (Hnum.out _).mono ?_; rintro e w' ⟨rfl, rfl⟩)
          | (go_at_call 54; refine (HAP.out _ HE3.out).mono ?_; rintro e w5 ⟨rfl, f5⟩))
      clear a1 a2 a3 a4
      go_wp2
      go_ret2
      exact ⟨by rw [HV.out, HA.out, ← HLN.out]; rfl, (hF1.trans (Fr.drewN _ 1)).trans f5⟩

end Go.Proofs.YtolnloeapbplkaaDoor
