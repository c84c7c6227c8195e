import Derived.Test.YtolnloeapbplkaaDoorStr
/- The record of a line: plain part, with what the reference's reading needs. -/
set_option linter.unusedVariables false
namespace Go.Proofs.YtolnloeapbplkaaDoor
open Go.ChangeShapes Go.WideShapes Go.ChangeAt Go.RowKit

/-- What stands ahead of a record's text. -/
def headS (k : Nat) : List UInt8 := Lib.decDigits k ++ [32]
theorem decB_text {k : Nat} {s : List UInt8} (h : decB k s = true) : ahead 35 s = textS k (decE s) := by
  obtain ⟨e, h1, h2⟩ := decB_iff.1 h
  rw [decE_of h1 h2, ← h2]
  exact ahead_seal (textS_not h1 35 (.inl rfl))
theorem textS_head (k : Nat) (e : List UInt8 × List UInt8) : textS k e = headS k ++ (e.1 ++ 64 :: e.2) := by simp [textS, headS]
theorem decB_noHead {k : Nat} {s : List UInt8} (h : (ahead 35 s).take (headS k).length ≠ headS k) : decB k s = false := by
  cases hd : decB k s
  · rfl
  · exact absurd (by rw [decB_text hd, textS_head, List.take_left]) h
theorem decB_short {k : Nat} {s : List UInt8} (h : (ahead 35 s).length < (headS k).length) : decB k s = false :=
  decB_noHead fun e => by
    have := congrArg List.length e
    rw [List.length_take] at this; omega
theorem behind_head (k : Nat) (r : List UInt8) : behind 32 (headS k ++ r) = r := by
  have h := @behind_app 32 (Lib.decDigits k) r (dec_not (by decide))
  rw [headS, List.append_assoc]
  exact h
theorem decE_head {k : Nat} {s r : List UInt8} (h : ahead 35 s = headS k ++ r) : decE s = (ahead 64 r, behind 64 r) := by
  rw [decE, h, behind_head]
theorem decB_noAsk {k : Nat} {s r : List UInt8} (h : ahead 35 s = headS k ++ r) (h64 : (64 : UInt8) ∉ r) : decB k s = false := by
  cases hd : decB k s
  · rfl
  · have h1 := decB_text hd
    rw [h, textS_head] at h1
    exact absurd (by rw [List.append_cancel_left h1]; simp) h64
theorem decB_val (k : Nat) (s : List UInt8) : decB k s = (recB (decE s) && (lineS k (decE s) == s ++ [10])) := by
  rw [decB]
  congr 1
  rw [Bool.eq_iff_iff, beq_iff_eq, beq_iff_eq, line_eq]
theorem ahead_len_iff {b : UInt8} {l : List UInt8} : (ahead b l).length = l.length ↔ b ∉ l :=
  ⟨fun h hm => by have := ahead_lt hm; omega, fun h => by rw [ahead_all h]⟩
theorem bl_extract (s : ByteArray) (i j : Nat) (hij : i ≤ j) (hj : j ≤ s.size) : bl (s.extract i j) = ((bl s).take j).drop i := by
  unfold bl
  rw [ByteArray.data_extract, Array.toList_extract]
  simp [List.extract, List.take_drop]
  congr 2
  omega
theorem bl_tail (s : ByteArray) (i : Nat) (hi : i ≤ s.size) : bl (s.extract i s.size) = (bl s).drop i := by
  rw [bl_extract s i s.size hi (Nat.le_refl _), bl_all s s.size (Nat.le_refl _)]
theorem bl_front (s : ByteArray) (i : Nat) (hi : i ≤ s.size) : bl (s.extract 0 i) = (bl s).take i := by
  rw [bl_extract s 0 i (Nat.zero_le _) hi, List.drop_zero]
theorem results_RB {fn : Func} {k r : Nat} (hr : fn.results = #[.cell k 25, .tmp r]) (tmps : Array Value) (w : World) (g : Nat) (v0 v1 bb : Value) (h : tmps[k]?.getD undef = .pointer (some ⟨g, 0, none⟩)) (hb : tmps[r]?.getD undef = bb)
    (h0 : w.cell? ⟨g, 0, none⟩ = some v0) (h1 : w.cell? ⟨g, 1, none⟩ = some v1) : (results fn tmps).run Tryd.prog w = .ok (.tuple #[.agg #[v0, v1], bb]) w := by
  simp [results, hr, go_sem, h, hb, h0, h1]
end Go.Proofs.YtolnloeapbplkaaDoor
