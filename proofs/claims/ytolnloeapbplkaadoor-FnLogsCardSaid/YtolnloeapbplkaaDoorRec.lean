import Derived.Test.YtolnloeapbplkaaDoorLogM
import Derived.Test.YtolnloeapbplkaaDoorShelf
/- Contracts of records: isPlain, isCommand, IsValidRecord and the reference's. -/
set_option linter.unusedVariables false
namespace Go.Proofs.YtolnloeapbplkaaDoor
open Go.ChangeShapes Go.WideShapes Go.ChangeAt Go.RowKit

def bl (s : ByteArray) : List UInt8 := s.data.toList
theorem bl_len (s : ByteArray) : (bl s).length = s.size := by rw [bl, Array.length_toList]; rfl
theorem bl_take (s : ByteArray) (k : Nat) (h : k < s.size) : (bl s).take (k + 1) = (bl s).take k ++ [s[k]] := by
  rw [bl, List.take_succ_eq_append_getElem (by simpa using h)]; rfl
theorem bl_all (s : ByteArray) (k : Nat) (h : s.size ≤ k) : (bl s).take k = bl s := List.take_of_length_le (by rw [bl_len]; exact h)
theorem bl_empty (s : ByteArray) : bl s = [] ↔ s.size = 0 := by rw [← List.length_eq_zero_iff, bl_len]
theorem all_snoc (P : UInt8 → Bool) (s : ByteArray) (k : Nat) (h : k < s.size) : ((bl s).take (k + 1)).all P = (((bl s).take k).all P && P s[k]) := by
  rw [bl_take s k h, List.all_append]; simp
theorem all_no (P : UInt8 → Bool) (s : ByteArray) (k : Nat) (h : k < s.size) (hp : P s[k] = false) : (bl s).all P = false := by
  rw [List.all_eq_false]
  exact ⟨s[k], by rw [bl]; exact Array.mem_toList_iff.2 (Array.getElem_mem _), by rw [hp]; simp⟩
theorem containsAny_eq (l ch : List UInt8) : Lib.containsAny l ch = l.any fun x => ch.contains x := by
  induction l with
  | nil => simp [Lib.containsAny, Lib.indexAny]
  | cons x l ih =>
    have hg := Lib.indexAny_ge ch l
    rw [List.any_cons, ← ih, Lib.containsAny, Lib.indexAny, Lib.containsAny]
    cases h : ch.contains x
    · by_cases h2 : Lib.indexAny l ch = -1
      · rw [h2]; simp
      · have h3 : (Lib.indexAny l ch == -1) = false := by simp [h2]
        rw [h3, if_neg (by simp), if_neg (by simp), Bool.false_or]
        congr 1
        simp only [eq_iff_iff]; omega
    · simp
def plainB (l : List UInt8) (most : Int) (oth : List UInt8) : Bool := l.all okB && (decide ((l.length : Int) ≤ most) && !(l.any fun x => oth.contains x))

theorem isPlain_any (s oth : ByteArray) (most : Int) (w : World) (hs : s.size ≤ 9223372036854775807) (hm : most ≤ 4000) (ho : oth.size ≤ 4) (ha : ∀ (j : Nat) b, oth.data.toList[j]? = some b → b.toNat < 128) :
    Calls Tryd.prog 64 #[.string s, .int .i64 most, .string oth] w fun e w' => e = .returned (.bool (plainB (bl s) most (bl oth))) ∧ Fr w w' := by
  have HL := Lib.hid (bl_len s)
  go_enter Tryd.func64, Tryd.ntmps64
  go_wp2
  go_loop [10] (fun i => ∃ k : Nat, k ≤ s.size ∧ i = .int .i64 k ∧ Hid (((bl s).take k).all okB = true)) (fun i => s.size - (intOf i).toNat)
  case atStart => exact ⟨0, Nat.zero_le _, rfl, Lib.hid (by simp)⟩
  case round =>
    obtain ⟨k, hk, rfl, hall⟩ := hrel
    by_cases hlt : k < s.size
    · have HS := Lib.hid (all_snoc okB s k hlt)
      cases hb : okB s[k]
      · have HV : Hid (plainB (bl s) most (bl oth) = false) := Lib.hid (by rw [plainB, all_no okB s k hlt hb]; rfl)
        have hb2 : (s[k].toNat : Int) < 32 ∨ 126 < (s[k].toNat : Int) := by simp only [okB, Bool.and_eq_false_iff, decide_eq_false_iff_not] at hb; omega
        clear hb
        rcases hb2 with h1 | h1
        · go_wp2
          go_ret
          exact ⟨by rw [HV.out]; rfl, Fr.refl _⟩
        · have h2 : ¬ (s[k].toNat : Int) < 32 := by omega
          go_wp2
          go_ret
          exact ⟨by rw [HV.out]; rfl, Fr.refl _⟩
      · have HB := Lib.hid hb
        have hb2 : ¬ (s[k].toNat : Int) < 32 ∧ ¬ 126 < (s[k].toNat : Int) := by simp only [okB, Bool.and_eq_true, decide_eq_true_eq] at hb; omega
        obtain ⟨h1, h2⟩ := hb2
        clear hb
        go_wp2
        go_round
        case rel => exact ⟨k + 1, by omega, by go_num, Lib.hid (by rw [HS.out, hall.out, HB.out]; rfl)⟩
        case measure => simp [intOf]; omega
    · obtain rfl : k = s.size := by omega
      have HA : Hid ((bl s).all okB = true) := Lib.hid (by rw [← bl_all s s.size (Nat.le_refl _)]; exact hall.out)
      by_cases hle : (s.size : Int) ≤ most
      · have HV : Hid (plainB (bl s) most (bl oth) = !(Lib.containsAny (bl s) (bl oth))) := Lib.hid (by
          rw [plainB, HA.out, HL.out, decide_eq_true hle, containsAny_eq]; rfl)
        have has : ∀ (j : Nat) b, s.data.toList[j]? = some b → b.toNat < 128 := fun j b hj => by
          have := List.all_eq_true.1 HA.out b (List.mem_of_getElem? hj)
          simp only [okB, Bool.and_eq_true, decide_eq_true_eq] at this; omega
        have HAS := Lib.hid has
        have HOS := Lib.hid ha
        clear has ha
        go_wp2_with fail
        refine (Tryd.strings_ContainsAny_laid s oth _ (by omega) (by omega) HAS.out HOS.out).mono ?_
        rintro e w1 ⟨rfl, f1⟩
        go_wp2
        go_ret
        exact ⟨by rw [HV.out]; rfl, f1⟩
      · have HV : Hid (plainB (bl s) most (bl oth) = false) := Lib.hid (by
          rw [plainB, HA.out, HL.out, decide_eq_false hle]; rfl)
        go_wp2
        go_ret
        exact ⟨by rw [HV.out]; rfl, Fr.refl _⟩

theorem plainB_cmd (l : List UInt8) : (!l.isEmpty && plainB l 160 [35, 64]) = cmdB l := by
  rw [Bool.eq_iff_iff, cmdB_iff, plainB]
  simp only [Bool.and_eq_true, Bool.not_eq_true', List.isEmpty_eq_false_iff, decide_eq_true_eq, List.all_eq_true, List.any_eq_false, List.contains_eq_mem, List.mem_cons, List.not_mem_nil, or_false, ne_eq, not_or]
  constructor
  · rintro ⟨h1, h2, h3, h4⟩
    exact ⟨h1, by omega, fun x hx => ⟨h2 x hx, h4 x hx⟩⟩
  · rintro ⟨h1, h2, h3⟩
    exact ⟨h1, fun x hx => (h3 x hx).1, by omega, fun x hx => (h3 x hx).2⟩
theorem plainB_rep (l : List UInt8) : plainB l 200 [35] = repB l := by
  rw [Bool.eq_iff_iff, repB_iff, plainB]
  simp only [Bool.and_eq_true, Bool.not_eq_true', decide_eq_true_eq, List.all_eq_true, List.any_eq_false, List.contains_eq_mem, List.mem_cons, List.not_mem_nil, or_false, ne_eq]
  constructor
  · rintro ⟨h2, h3, h4⟩
    exact ⟨by omega, fun x hx => ⟨h2 x hx, h4 x hx⟩⟩
  · rintro ⟨h2, h3⟩
    exact ⟨fun x hx => (h3 x hx).1, by omega, fun x hx => (h3 x hx).2⟩
theorem toList_empty {s : ByteArray} (h : s.size = 0) : s.toList = [] := by
  rw [ByteArray.toList_eq]; exact (bl_empty s).2 h
theorem toList_ne {s : ByteArray} (h : s.size ≠ 0) : s.toList.isEmpty = false := by
  rw [ByteArray.toList_eq, List.isEmpty_eq_false_iff]; exact fun e => h ((bl_empty s).1 e)

theorem isCommand_any (s : ByteArray) (w : World) (hs : s.size ≤ 9223372036854775807) :
    Calls Tryd.prog 63 #[.string s] w fun e w' => e = .returned (.bool (cmdB (bl s))) ∧ Fr w w' := by
  by_cases h0 : s.size = 0
  · have HV : Hid (cmdB (bl s) = false) := Lib.hid (by rw [(bl_empty s).2 h0]; rfl)
    have h1 := toList_empty h0
    have h2 : s.toList.isEmpty = true := by rw [h1]; rfl
    clear h0
    go_enter Tryd.func63, Tryd.ntmps63
    go_wp2
    go_ret
    exact ⟨by rw [HV.out]; rfl, Fr.refl _⟩
  · have HV : Hid (plainB (bl s) 160 (bl ⟨#[35, 64]⟩) = cmdB (bl s)) := Lib.hid (by
      rw [← plainB_cmd, show bl ⟨#[35, 64]⟩ = [35, 64] from rfl]
      rw [show (bl s).isEmpty = false from by rw [List.isEmpty_eq_false_iff]; exact fun e => h0 ((bl_empty s).1 e)]; rfl)
    have h2 := toList_ne h0
    have h3 : ¬ s.toList = [] := fun e => by rw [e] at h2; cases h2
    clear h0
    go_enter Tryd.func63, Tryd.ntmps63
    go_wp2_with fail
    refine (isPlain_any s _ 160 _ hs (by omega) (by decide) (fun j b hj => by
      have hm := List.mem_of_getElem? hj
      revert hm; simp; rintro (rfl | rfl) <;> decide)).mono ?_
    rintro e w1 ⟨rfl, f1⟩
    rw [HV.out]
    go_wp2
    go_ret
    exact ⟨rfl, f1⟩

theorem impl_IsValidRecord_any (s t : ByteArray) (w : World) (hs : s.size ≤ 9223372036854775807) (ht : t.size ≤ 9223372036854775807) :
    Calls Tryd.prog 23 #[.agg #[.string s, .string t]] w fun e w' => e = .returned (.bool (recB (bl s, bl t))) ∧ Fr w w' := by
  have hfr : Fr w (w.alloc (.cells #[.string s, .string t] 25)) := (Fr.refl w).alloc _
  go_enter Tryd.func23, Tryd.ntmps23
  go_wp2_with fail
  refine (isCommand_any s _ hs).mono ?_
  rintro e w1 ⟨rfl, f1⟩
  have c1 := f1.newCell (j := 1) (v := .string t) rfl
  have HR : Hid (recB (bl s, bl t) = (cmdB (bl s) && repB (bl t))) := Lib.hid rfl
  cases hc : cmdB (bl s)
  · have HV : Hid (recB (bl s, bl t) = false) := Lib.hid (by rw [HR.out, hc]; rfl)
    go_wp2
    go_ret
    exact ⟨by rw [HV.out]; rfl, hfr.trans f1⟩
  · have HV : Hid (plainB (bl t) 200 (bl ⟨#[35]⟩) = recB (bl s, bl t)) := Lib.hid (by rw [HR.out, hc, ← plainB_rep]; rfl)
    go_wp2_with fail
    refine (isPlain_any t _ 200 _ ht (by omega) (by decide) (fun j b hj => by
      have hm := List.mem_of_getElem? hj
      revert hm; simp; rintro rfl; decide)).mono ?_
    rintro e w2 ⟨rfl, f2⟩
    rw [HV.out]
    go_wp2
    go_ret
    exact ⟨rfl, (hfr.trans f1).trans f2⟩

def bytB (l : List UInt8) (most : Int) : Bool := (l.all fun x => okB x && x != 35) && decide ((l.length : Int) ≤ most)
theorem bytB_rep (l : List UInt8) : bytB l 200 = repB l := by
  rw [bytB, repB, Bool.and_comm]; congr 1; simp; omega
theorem l12Bytes_any (s : ByteArray) (most : Int) (w : World) (hs : s.size ≤ 9223372036854775807) :
    Calls Tryd.prog 81 #[.string s, .int .i64 most] w fun e w' => e = .returned (.bool (bytB (bl s) most)) ∧ w = w' := by
  have HL := Lib.hid (bl_len s)
  go_enter Tryd.func81, Tryd.ntmps81
  go_wp2
  go_loop [5] (fun i => ∃ k : Nat, k ≤ s.size ∧ i = .int .i64 k ∧ Hid ((((bl s).take k).all fun x => okB x && x != 35) = true)) (fun i => s.size - (intOf i).toNat)
  case atStart => exact ⟨0, Nat.zero_le _, rfl, Lib.hid (by simp)⟩
  case round =>
    obtain ⟨k, hk, rfl, hall⟩ := hrel
    by_cases hlt : k < s.size
    · have HS := Lib.hid (all_snoc (fun x => okB x && x != 35) s k hlt)
      have ho : inB (s[k].toNat : Int) 32 126 = okB s[k] := by
        rw [Bool.eq_iff_iff, inB_iff, okB, Bool.and_eq_true, decide_eq_true_eq, decide_eq_true_eq]; omega
      have HO := Lib.hid ho
      clear ho
      have hb0 : (0 : Int) ≤ (s[k].toNat : Int) := by omega
      have hb1 : (s[k].toNat : Int) ≤ 255 := by have := UInt8.toNat_lt s[k]; omega
      cases hi : inB (s[k].toNat : Int) 32 126 <;> cases h5d : decide (s[k].toNat = 35)
      case true.false =>
        have h5 := of_decide_eq_false h5d
        clear h5d
        have HX : Hid ((okB s[k] && s[k] != 35) = true) := Lib.hid (by
          rw [← HO.out, hi, Bool.true_and, bne_iff_ne]; intro h; rw [h] at h5; exact h5 rfl)
        have h6 : ((s[k].toNat : Int) == 35) = false := by rw [beq_eq_false_iff_ne]; omega
        go_wp2_with (go_at_call 56; refine (l1In_any _ _ _ _).mono ?_; rintro e w' ⟨rfl, rfl⟩)
        clear hi h5 h6
        go_round
        case rel => exact ⟨k + 1, by omega, by go_num, Lib.hid (by rw [HS.out, hall.out, HX.out]; rfl)⟩
        case measure => simp [intOf]; omega
      all_goals
        have HV : Hid (bytB (bl s) most = false) := Lib.hid (by
          have hx : (okB s[k] && s[k] != 35) = false := by
            first
              | (rw [← HO.out, hi]; rfl)
              | (rw [show s[k] = 35 from UInt8.toNat_inj.1 (of_decide_eq_true h5d)]; simp)
          rw [bytB, all_no (fun x => okB x && x != 35) s k hlt hx]; rfl)
        have h6 : ((s[k].toNat : Int) == 35) = decide (s[k].toNat = 35) := by
          rw [Bool.eq_iff_iff, beq_iff_eq, decide_eq_true_eq]; omega
        rw [h5d] at h6
        clear h5d
        go_wp2_with (go_at_call 56; refine (l1In_any _ _ _ _).mono ?_; rintro e w' ⟨rfl, rfl⟩)
        go_ret
        exact ⟨by rw [HV.out]; rfl, rfl⟩
    · obtain rfl : k = s.size := by omega
      have HV : Hid (bytB (bl s) most = decide ((s.size : Int) ≤ most)) := Lib.hid (by
        have h := hall.out
        rw [bl_all s s.size (Nat.le_refl _)] at h
        rw [bytB, h, HL.out]; rfl)
      go_wp2
      go_ret
      exact ⟨by rw [HV.out]; rfl, rfl⟩

theorem l1Stands_any (s : ByteArray) (b : UInt8) (w : World) (hs : s.size ≤ 9223372036854775807) :
    Calls Tryd.prog 82 #[.string s, .int .u8 b.toNat] w fun e w' => e = .returned (.bool (decide (b ∈ bl s))) ∧ w = w' := by
  go_enter Tryd.func82, Tryd.ntmps82
  go_wp2
  go_loop [5] (fun i => ∃ k : Nat, k ≤ s.size ∧ i = .int .i64 k ∧ Hid (((bl s).take k).all (· != b) = true)) (fun i => s.size - (intOf i).toNat)
  case atStart => exact ⟨0, Nat.zero_le _, rfl, Lib.hid (by simp)⟩
  case round =>
    obtain ⟨k, hk, rfl, hall⟩ := hrel
    by_cases hlt : k < s.size
    · have HS := Lib.hid (all_snoc (· != b) s k hlt)
      by_cases he : s[k] = b
      · have HV : Hid (decide (b ∈ bl s) = true) := Lib.hid (by
          rw [decide_eq_true_eq, ← he, bl]; exact Array.mem_toList_iff.2 (Array.getElem_mem _))
        have hb : ((s[k].toNat : Int) == (b.toNat : Int)) = true := by simp [he]
        clear he
        go_wp2
        go_ret
        exact ⟨by rw [HV.out]; rfl, rfl⟩
      · have HX : Hid ((s[k] != b) = true) := Lib.hid (by simp [he])
        have hb : ((s[k].toNat : Int) == (b.toNat : Int)) = false := by
          rw [beq_eq_false_iff_ne]; intro h; exact he (UInt8.toNat_inj.1 (by omega))
        clear he
        go_wp2
        go_round
        case rel => exact ⟨k + 1, by omega, by go_num, Lib.hid (by rw [HS.out, hall.out, HX.out]; rfl)⟩
        case measure => simp [intOf]; omega
    · obtain rfl : k = s.size := by omega
      have HV : Hid (decide (b ∈ bl s) = false) := Lib.hid (by
        have h := hall.out
        rw [bl_all s s.size (Nat.le_refl _), List.all_eq_true] at h
        rw [decide_eq_false_iff_not]; intro hm; have := h b hm; simp at this)
      go_wp2
      go_ret
      exact ⟨by rw [HV.out]; rfl, rfl⟩

end Go.Proofs.YtolnloeapbplkaaDoor
