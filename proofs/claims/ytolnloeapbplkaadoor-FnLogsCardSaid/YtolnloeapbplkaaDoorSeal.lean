import Derived.Test.YtolnloeapbplkaaDoorRec2
/- Contracts of checksums and numbers as texts. -/
set_option linter.unusedVariables false
namespace Go.Proofs.YtolnloeapbplkaaDoor
open Go.ChangeShapes Go.WideShapes Go.ChangeAt Go.RowKit

/-- What the calls of this seat lean on: the library's table and its variable. -/
def Env (w : World) : Prop := Lib.TabIs Tryd.prog w "internal/strconv.uint64pow10" .u64 Lib.pow10Tab ∧ ∃ m : Int, w.cell? ⟨0, 0, none⟩ = some (.int .i64 m)
theorem Env.fr {w w' : World} (h : Env w) (f : Fr w w') : Env w' := by
  obtain ⟨h1, m, h2⟩ := h
  refine ⟨?_, m, f.keep h2⟩
  unfold Lib.TabIs World.var? at h1 ⊢
  cases hg : Tryd.prog.globalNamed "internal/strconv.uint64pow10" with
  | none => rw [hg] at h1; cases h1
  | some g =>
    rw [hg] at h1
    simp only [Option.bind_some] at h1 ⊢
    have hlt : g < w.heap.size := by
      cases hx : w.heap[g]? with
      | none => rw [hx] at h1; cases h1
      | some o => exact (Array.getElem?_eq_some_iff.1 hx).1
    rw [f.block g hlt]; exact h1
theorem fr_grow {w : World} {k : Nat} {os : Array Obj} : Fr w (Go.Sort.grow (w.drewN k) os) :=
  ⟨rfl, rfl, rfl, by simp [Go.Sort.grow, World.drewN], fun i hi => by
    show (w.heap ++ os)[i]? = w.heap[i]?
    exact Array.getElem?_append_left hi⟩

def ba (l : List UInt8) : ByteArray := ⟨l.toArray⟩
theorem bl_ba (l : List UInt8) : bl (ba l) = l := by simp [bl, ba]
theorem ba_bl (s : ByteArray) : ba (bl s) = s := by simp [ba, bl]
theorem ba_size (l : List UInt8) : (ba l).size = l.length := by rw [← bl_len, bl_ba]
theorem ba_eq {s : ByteArray} {l : List UInt8} (h : bl s = l) : s = ba l := by rw [← h, ba_bl]
theorem bl_app (s t : ByteArray) : bl (s ++ t) = bl s ++ bl t := by simp [bl]

theorem checksum_any (s : ByteArray) (w : World) (hs : s.size ≤ 9223372036854775807) :
    Calls Tryd.prog 79 #[.string s] w fun e w' => e = .returned (.int .i64 (ckS (bl s) : Nat)) ∧ w = w' := by
  go_enter Tryd.func79, Tryd.ntmps79
  go_wp2
  go_loop [3, 7] (fun h i => ∃ k : Nat, k ≤ s.size ∧ i = .int .i64 k ∧ h = .int .i64 (ckS ((bl s).take k) : Nat)) (fun _ i => s.size - (intOf i).toNat)
  case atStart => exact ⟨0, Nat.zero_le _, rfl, rfl⟩
  case round =>
    obtain ⟨k, hk, rfl, rfl⟩ := hrel
    by_cases hlt : k < s.size
    · have HS : Hid (((ckS ((bl s).take (k + 1)) : Nat) : Int) = (41 * (ckS ((bl s).take k) : Nat) + (s[k].toNat : Int) + 1) % 999979) := Lib.hid (by
        rw [bl_take s k hlt, ckS_snoc, ckF]; omega)
      have hc := ckS_lt ((bl s).take k)
      have hc0 : (0 : Int) ≤ (ckS ((bl s).take k) : Nat) := by omega
      have hc1 : ((ckS ((bl s).take k) : Nat) : Int) ≤ 999979 := by omega
      have hb0 : (0 : Int) ≤ (s[k].toNat : Int) := by omega
      have hb1 : (s[k].toNat : Int) ≤ 255 := by have := UInt8.toNat_lt s[k]; omega
      clear hc
      go_wp2
      go_round
      case rel => exact ⟨k + 1, by omega, by go_num, by rw [HS.out]⟩
      case measure => simp [intOf]; omega
    · obtain rfl : k = s.size := by omega
      have HV : Hid ((bl s).take s.size = bl s) := Lib.hid (bl_all s s.size (Nat.le_refl _))
      go_wp2
      go_ret
      exact ⟨by rw [HV.out]; rfl, rfl⟩

theorem l1Sum_any (s : ByteArray) (w : World) (hs : s.size ≤ 9223372036854775807) :
    Calls Tryd.prog 104 #[.string s] w fun e w' => e = .returned (.int .i64 (ckS (bl s) : Nat)) ∧ w = w' := by
  go_enter Tryd.func104, Tryd.ntmps104
  go_wp2
  go_loop [3, 4] (fun h i => ∃ k : Nat, k ≤ s.size ∧ i = .int .i64 k ∧ h = .int .i64 (ckS ((bl s).take k) : Nat)) (fun _ i => s.size - (intOf i).toNat)
  case atStart => exact ⟨0, Nat.zero_le _, rfl, rfl⟩
  case round =>
    obtain ⟨k, hk, rfl, rfl⟩ := hrel
    by_cases hlt : k < s.size
    · have HS : Hid (((ckS ((bl s).take (k + 1)) : Nat) : Int) = (41 * (ckS ((bl s).take k) : Nat) + (s[k].toNat : Int) + 1) % 999979) := Lib.hid (by
        rw [bl_take s k hlt, ckS_snoc, ckF]; omega)
      have hc := ckS_lt ((bl s).take k)
      have hc0 : (0 : Int) ≤ (ckS ((bl s).take k) : Nat) := by omega
      have hc1 : ((ckS ((bl s).take k) : Nat) : Int) ≤ 999979 := by omega
      have hb0 : (0 : Int) ≤ (s[k].toNat : Int) := by omega
      have hb1 : (s[k].toNat : Int) ≤ 255 := by have := UInt8.toNat_lt s[k]; omega
      clear hc
      go_wp2
      go_round
      case rel => exact ⟨k + 1, by omega, by go_num, by rw [HS.out]⟩
      case measure => simp [intOf]; omega
    · obtain rfl : k = s.size := by omega
      have HV : Hid ((bl s).take s.size = bl s) := Lib.hid (bl_all s s.size (Nat.le_refl _))
      go_wp2
      go_ret
      exact ⟨by rw [HV.out]; rfl, rfl⟩

theorem index_one (b : UInt8) (l : List UInt8) : Lib.index l [b] = if b ∈ l then ((ahead b l).length : Int) else -1 := by
  induction l with
  | nil => simp [Lib.index]
  | cons x l ih =>
    rw [Lib.index, ih, ahead_cons]
    by_cases h : x = b
    · subst h; simp
    · have h2 : ¬ b = x := fun e => h e.symm
      by_cases hm : b ∈ l
      · simp [h, h2, hm]
      · simp [h2, hm]
theorem cut_one (b : UInt8) (l : List UInt8) : Lib.cut l [b] = (ahead b l, behind b l, decide (b ∈ l)) := by
  rw [Lib.cut, index_one]
  by_cases hm : b ∈ l
  · rw [if_pos hm, if_pos (by omega), decide_eq_true hm, Int.toNat_natCast, behind]
    congr 1
    have := split_at hm
    have e : l.take (ahead b l).length = (ahead b l ++ b :: behind b l).take (ahead b l).length := by rw [← this]
    rw [e, List.take_left]
  · rw [if_neg hm, if_neg (by omega), decide_eq_false hm, ahead_all hm, behind_none hm]
theorem indexByte_mem (b : UInt8) (l : List UInt8) : decide (0 ≤ Lib.indexByte l b) = decide (b ∈ l) := by
  induction l with
  | nil => simp [Lib.indexByte]
  | cons x l ih =>
    have hg := Lib.indexByte_ge l b
    rw [Lib.indexByte]
    by_cases h : x = b
    · subst h; simp
    · have h2 : ¬ b = x := fun e => h e.symm
      by_cases hm : b ∈ l
      · rw [decide_eq_true hm, decide_eq_true_eq] at ih
        simp [h, h2, hm]; split <;> omega
      · rw [decide_eq_false hm, decide_eq_false_iff_not] at ih
        have : Lib.indexByte l b = -1 := by omega
        simp [h, h2, hm, this]
def apOk (t : List UInt8) : Bool := decide (t.length ≤ 4000) && (!decide ((35 : UInt8) ∈ t) && decide ((sealS t).length ≤ 4000))
def apV (t : List UInt8) : List UInt8 := bif apOk t then sealS t else []

set_option maxHeartbeats 400000 in
theorem AppendChecksum_any (s : ByteArray) (w : World) (hs : s.size ≤ 9223372036854775807) (hE : Env w) :
    Calls Tryd.prog 54 #[.string s] w fun e w' => e = .returned (.tuple #[.string (ba (apV (bl s))), .bool (apOk (bl s))]) ∧ Fr w w' := by
  have HL := Lib.hid (bl_len s)
  by_cases h1 : s.size ≤ 4000
  · cases hm : decide ((35 : UInt8) ∈ bl s)
    · have HM := Lib.hid hm
      have hi : decide (0 ≤ Lib.indexByte s.data.toList 35) = false := (indexByte_mem 35 (bl s)).trans hm
      have hd : decide ((4000 : Int) < (s.size : Int)) = false := by simp; omega
      have hck := ckS_lt (bl s)
      have HQ : Hid (Lib.itoa ((ckS (bl s) : Nat) : Int) = Lib.decDigits (ckS (bl s))) := Lib.hid (by rw [Lib.itoa, if_neg (by omega), Int.toNat_natCast])
      have hqs : Hid ((Lib.decDigits (ckS (bl s))).length ≤ 6) := Lib.hid (dec_len _ 5 (by omega))
      clear hm
      go_enter Tryd.func54, Tryd.ntmps54
      go_wp2_with fail
      refine (Tryd.strings_Contains_one s 35 _).mono ?_
      rintro e w1 ⟨rfl, rfl⟩
      go_wp2_with fail
      refine (checksum_any s _ hs).mono ?_
      rintro e w2 ⟨rfl, rfl⟩
      go_wp2_with fail
      refine (Tryd.strconv_Itoa _ (by omega) (by omega) _ hE.1).mono ?_
      rintro e w3 ⟨rfl, k, os, rfl⟩
      generalize hq : (⟨(Lib.itoa ((ckS (bl s) : Nat) : Int)).toArray⟩ : ByteArray) = q
      have hbq : bl q = Lib.decDigits (ckS (bl s)) := by rw [← hq, HQ.out]; exact bl_ba _
      have hq6 : q.size ≤ 6 := by rw [← bl_len, hbq]; exact hqs.out
      have HSL : Hid ((sealS (bl s)).length = s.size + 1 + q.size) := Lib.hid (by rw [sealS, List.length_append, List.length_cons, ← hbq, bl_len, bl_len]; omega)
      have HT : Hid (s ++ ⟨#[35]⟩ ++ q = ba (sealS (bl s))) := Lib.hid (ba_eq (by rw [bl_app, bl_app, hbq, sealS, List.append_assoc]; rfl))
      clear hq hbq
      by_cases h2 : s.size + 1 + q.size ≤ 4000
      · have HA : Hid (apOk (bl s) = true) := Lib.hid (by rw [apOk, HM.out, HSL.out, HL.out, decide_eq_true h1, decide_eq_true h2]; rfl)
        have HV : Hid (apV (bl s) = sealS (bl s)) := Lib.hid (by rw [apV, HA.out]; rfl)
        go_wp2
        go_ret2
        exact ⟨by rw [HV.out, HA.out, ← HT.out]; rfl, fr_grow⟩
      · have HA : Hid (apOk (bl s) = false) := Lib.hid (by rw [apOk, HM.out, HSL.out, HL.out, decide_eq_true h1, decide_eq_false h2]; rfl)
        have HV : Hid (apV (bl s) = []) := Lib.hid (by rw [apV, HA.out]; rfl)
        go_wp2
        go_ret2
        exact ⟨by rw [HV.out, HA.out]; rfl, fr_grow⟩
    · have HM := Lib.hid hm
      have hi : decide (0 ≤ Lib.indexByte s.data.toList 35) = true := (indexByte_mem 35 (bl s)).trans hm
      have hd : decide ((4000 : Int) < (s.size : Int)) = false := by simp; omega
      have HA : Hid (apOk (bl s) = false) := Lib.hid (by rw [apOk, HM.out]; simp)
      have HV : Hid (apV (bl s) = []) := Lib.hid (by rw [apV, HA.out]; rfl)
      clear hm
      go_enter Tryd.func54, Tryd.ntmps54
      go_wp2_with fail
      refine (Tryd.strings_Contains_one s 35 _).mono ?_
      rintro e w1 ⟨rfl, rfl⟩
      go_wp2
      go_ret2
      exact ⟨by rw [HV.out, HA.out]; rfl, Fr.refl _⟩
  · have HA : Hid (apOk (bl s) = false) := Lib.hid (by rw [apOk, HL.out, decide_eq_false h1]; rfl)
    have HV : Hid (apV (bl s) = []) := Lib.hid (by rw [apV, HA.out]; rfl)
    have hd : decide ((4000 : Int) < (s.size : Int)) = true := by simp; omega
    go_enter Tryd.func54, Tryd.ntmps54
    go_wp2
    go_ret2
    exact ⟨by rw [HV.out, HA.out]; rfl, Fr.refl _⟩

/-- The text ahead of its checksum. -/
def veOk (l : List UInt8) : Bool := apOk (ahead 35 l) && (sealS (ahead 35 l) == l)
def veV (l : List UInt8) : List UInt8 := bif veOk l then ahead 35 l else []
theorem str_neq (s t : ByteArray) : (s.toList != t.toList) = !(bl s == bl t) := by
  rw [ByteArray.toList_eq, ByteArray.toList_eq]; rfl

theorem VerifyChecksum_any (s : ByteArray) (w : World) (hs : s.size ≤ 1048576) (hE : Env w) :
    Calls Tryd.prog 88 #[.string s] w fun e w' => e = .returned (.tuple #[.string (ba (veV (bl s))), .bool (veOk (bl s))]) ∧ Fr w w' := by
  obtain ⟨m, hm⟩ := hE.2
  have HC : Hid (Lib.cut s.data.toList [35] = (ahead 35 (bl s), behind 35 (bl s), decide ((35 : UInt8) ∈ bl s))) := Lib.hid (cut_one 35 (bl s))
  go_enter Tryd.func88, Tryd.ntmps88
  go_wp2_with fail
  refine (Tryd.strings_Cut s ⟨#[35]⟩ m _ (by omega) hm).mono ?_
  rintro e w1 ⟨rfl, k, rfl⟩
  change _ at hm
  have HE := Lib.hid (hE.fr (Fr.drewN w k))
  have h35 : (⟨#[35]⟩ : ByteArray).data.toList = [35] := rfl
  rw [h35, HC.out]
  dsimp only
  generalize hq : (⟨(ahead 35 (bl s)).toArray⟩ : ByteArray) = q
  have hbq : bl q = ahead 35 (bl s) := by rw [← hq]; exact bl_ba _
  have hqs : q.size ≤ 9223372036854775807 := by rw [← bl_len, hbq]; have := ahead_le 35 (bl s); rw [bl_len] at this; omega
  have HB := Lib.hid hbq
  have HQ := Lib.hid hq
  clear hq hbq hm h35
  go_wp2_with fail
  refine (AppendChecksum_any q _ hqs HE.out).mono ?_
  rw [HB.out]
  rintro e w2 ⟨rfl, f2⟩
  have hF := (Fr.drewN w k).trans f2
  have HV : Hid (veOk (bl s) = (apOk (ahead 35 (bl s)) && (sealS (ahead 35 (bl s)) == bl s))) := Lib.hid rfl
  cases ha : apOk (ahead 35 (bl s))
  · have H1 : Hid (veOk (bl s) = false) := Lib.hid (by rw [HV.out, ha]; rfl)
    have H2 : Hid (veV (bl s) = []) := Lib.hid (by rw [veV, H1.out]; rfl)
    go_wp2
    go_ret2
    exact ⟨by rw [H2.out, H1.out]; rfl, hF⟩
  · have HP : Hid (apV (ahead 35 (bl s)) = sealS (ahead 35 (bl s))) := Lib.hid (by rw [apV, ha]; rfl)
    rw [HP.out]
    cases hb : (sealS (ahead 35 (bl s)) == bl s)
    · have H1 : Hid (veOk (bl s) = false) := Lib.hid (by rw [HV.out, ha, hb]; rfl)
      have H2 : Hid (veV (bl s) = []) := Lib.hid (by rw [veV, H1.out]; rfl)
      have hn : ((ba (sealS (ahead 35 (bl s)))).toList != s.toList) = true := by rw [str_neq, bl_ba, hb]; rfl
      have hn2 : ((ba (sealS (ahead 35 (bl s)))).toList == s.toList) = false := by simpa [bne] using hn
      go_wp2
      go_ret2
      exact ⟨by rw [H2.out, H1.out]; rfl, hF⟩
    · have H1 : Hid (veOk (bl s) = true) := Lib.hid (by rw [HV.out, ha, hb]; rfl)
      have H2 : Hid (ba (veV (bl s)) = q) := Lib.hid (by rw [veV, H1.out]; exact HQ.out)
      have hn : ((ba (sealS (ahead 35 (bl s)))).toList != s.toList) = false := by rw [str_neq, bl_ba, hb]; rfl
      have hn2 : ((ba (sealS (ahead 35 (bl s)))).toList == s.toList) = true := by simpa [bne] using hn
      go_wp2
      go_ret2
      exact ⟨by rw [H2.out, H1.out]; rfl, hF⟩

end Go.Proofs.YtolnloeapbplkaaDoor
