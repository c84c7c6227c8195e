import Derived.Test.YtolnloeapbplkaaDoorCore
import Derived.Lib.ItoaNum
import Derived.Lib.IndexMore
/- Logs as lists of bytes: plain part. -/
set_option linter.unusedVariables false
namespace Go.Proofs.YtolnloeapbplkaaDoor
open Go.ChangeShapes Go.WideShapes Go.ChangeAt Go.RowKit

/-- What stands ahead of the first byte b, and behind it. -/
def ahead (b : UInt8) (l : List UInt8) : List UInt8 := l.takeWhile (· != b)
def behind (b : UInt8) (l : List UInt8) : List UInt8 := l.drop ((ahead b l).length + 1)
theorem ahead_cons (b x : UInt8) (l : List UInt8) : ahead b (x :: l) = if x = b then [] else x :: ahead b l := by
  by_cases h : x = b <;> simp [ahead, h]
theorem ahead_not (b : UInt8) (l : List UInt8) : b ∉ ahead b l := by
  induction l with
  | nil => simp [ahead]
  | cons x l ih =>
    rw [ahead_cons]
    by_cases h : x = b
    · rw [if_pos h]; simp
    · rw [if_neg h, List.mem_cons]; rintro (e | e)
      · exact h e.symm
      · exact ih e
theorem ahead_all {b : UInt8} {l : List UInt8} (h : b ∉ l) : ahead b l = l := by
  induction l with
  | nil => rfl
  | cons x l ih =>
    rw [List.mem_cons, not_or] at h
    rw [ahead_cons, if_neg (Ne.symm h.1), ih h.2]
theorem ahead_app {b : UInt8} {x y : List UInt8} (h : b ∉ x) : ahead b (x ++ b :: y) = x := by
  induction x with
  | nil => simp [ahead]
  | cons z x ih =>
    rw [List.mem_cons, not_or] at h
    rw [List.cons_append, ahead_cons, if_neg (Ne.symm h.1), ih h.2]
theorem behind_app {b : UInt8} {x y : List UInt8} (h : b ∉ x) : behind b (x ++ b :: y) = y := by
  rw [behind, ahead_app h, show x ++ b :: y = (x ++ [b]) ++ y by simp, List.drop_left' (by simp)]
theorem split_at {b : UInt8} {l : List UInt8} (h : b ∈ l) : l = ahead b l ++ b :: behind b l := by
  induction l with
  | nil => simp at h
  | cons x l ih =>
    by_cases e : x = b
    · subst e; simp [behind, ahead]
    · have h2 : b ∈ l := by
        rw [List.mem_cons] at h
        exact h.resolve_left (Ne.symm e)
      have := ih h2
      rw [behind, ahead_cons, if_neg e]
      simp only [List.length_cons, List.drop_succ_cons, List.cons_append, List.cons.injEq, true_and]
      exact this
theorem behind_none {b : UInt8} {l : List UInt8} (h : b ∉ l) : behind b l = [] := by
  rw [behind, ahead_all h]; exact List.drop_eq_nil_of_le (by omega)
theorem ahead_le (b : UInt8) (l : List UInt8) : (ahead b l).length ≤ l.length := by
  exact (List.takeWhile_prefix _).length_le
theorem ahead_lt {b : UInt8} {l : List UInt8} (h : b ∈ l) : (ahead b l).length < l.length := by
  have := congrArg List.length (split_at h)
  rw [List.length_append, List.length_cons] at this; omega

def okB (c : UInt8) : Bool := decide (32 ≤ c.toNat) && decide (c.toNat ≤ 126)
def cmdB (c : List UInt8) : Bool := !c.isEmpty && decide (c.length ≤ 160) && c.all fun x => okB x && x != 35 && x != 64
def repB (r : List UInt8) : Bool := decide (r.length ≤ 200) && r.all fun x => okB x && x != 35
def recB (e : List UInt8 × List UInt8) : Bool := cmdB e.1 && repB e.2
theorem cmdB_iff {c : List UInt8} : cmdB c = true ↔ c ≠ [] ∧ c.length ≤ 160 ∧ ∀ x ∈ c, okB x = true ∧ x ≠ 35 ∧ x ≠ 64 := by
  simp only [cmdB, Bool.and_eq_true, Bool.not_eq_true', List.isEmpty_eq_false_iff, decide_eq_true_eq, List.all_eq_true, bne_iff_ne, ne_eq, and_assoc]
theorem repB_iff {r : List UInt8} : repB r = true ↔ r.length ≤ 200 ∧ ∀ x ∈ r, okB x = true ∧ x ≠ 35 := by
  simp only [repB, Bool.and_eq_true, decide_eq_true_eq, List.all_eq_true, bne_iff_ne, ne_eq]

/-- The checksum. -/
def ckF (h : Nat) (x : UInt8) : Nat := (41 * h + x.toNat + 1) % 999979
def ckS (l : List UInt8) : Nat := l.foldl ckF 7
theorem ckS_snoc (l : List UInt8) (x : UInt8) : ckS (l ++ [x]) = ckF (ckS l) x := by simp [ckS]
theorem ckS_lt (l : List UInt8) : ckS l < 999979 := by
  rcases List.eq_nil_or_concat l with rfl | ⟨a, x, rfl⟩
  · simp [ckS]
  · rw [List.concat_eq_append, ckS_snoc, ckF]; exact Nat.mod_lt _ (by omega)
theorem dec_digit (u : Nat) : ∀ x ∈ Lib.decDigits u, 48 ≤ x.toNat ∧ x.toNat ≤ 57 := by
  induction u using Nat.strongRecOn with
  | _ u ih =>
    intro x hx
    rw [Lib.decDigits] at hx
    split at hx
    · simp only [List.mem_singleton] at hx
      subst hx
      rw [UInt8.toNat_ofNat']; omega
    · rw [List.mem_append] at hx
      rcases hx with hx | hx
      · exact ih _ (by omega) x hx
      · simp only [List.mem_singleton] at hx
        subst hx
        rw [UInt8.toNat_ofNat']; omega
theorem dec_len (u k : Nat) (h : u < 10 ^ (k + 1)) : (Lib.decDigits u).length ≤ k + 1 := by
  induction k generalizing u with
  | zero => rw [Lib.decDigits, dif_pos (by simpa using h)]; simp
  | succ k ih =>
    rw [Lib.decDigits]
    split
    · simp
    · rw [List.length_append, List.length_singleton]
      have := ih (u / 10) (by rw [Nat.pow_succ] at h; omega)
      omega
theorem dec_pos (u : Nat) : 1 ≤ (Lib.decDigits u).length := by
  rw [Lib.decDigits]; split <;> simp
theorem dec_not {u : Nat} {b : UInt8} (h : b.toNat < 48 ∨ 57 < b.toNat) : b ∉ Lib.decDigits u := fun hx => by have := dec_digit u b hx; omega

def sealS (t : List UInt8) : List UInt8 := t ++ 35 :: Lib.decDigits (ckS t)
def textS (k : Nat) (e : List UInt8 × List UInt8) : List UInt8 := Lib.decDigits k ++ 32 :: (e.1 ++ 64 :: e.2)
/-- The line of a record, its newline behind it. -/
def lineS (k : Nat) (e : List UInt8 × List UInt8) : List UInt8 := sealS (textS k e) ++ [10]
theorem textS_not {k : Nat} {e : List UInt8 × List UInt8} (h : recB e = true) (b : UInt8) (hb : b = 35 ∨ b = 10) : b ∉ textS k e := by
  rw [recB, Bool.and_eq_true, cmdB_iff, repB_iff] at h
  obtain ⟨⟨_, _, h1⟩, _, h2⟩ := h
  have hd := @dec_not k b (by rcases hb with rfl | rfl <;> decide)
  have hk : okB b = true → b = 35 := by
    rintro hk
    rcases hb with rfl | rfl
    · rfl
    · revert hk; decide
  intro hm
  simp only [textS, List.mem_append, List.mem_cons] at hm
  rcases hm with hm | rfl | hm | rfl | hm
  · exact hd hm
  · revert hb; decide
  · exact (h1 b hm).2.1 (hk (h1 b hm).1)
  · revert hb; decide
  · exact (h2 b hm).2 (hk (h2 b hm).1)
theorem textS_len {k : Nat} {e : List UInt8 × List UInt8} (h : recB e = true) (hk : k < 100) : (textS k e).length ≤ 364 := by
  rw [recB, Bool.and_eq_true, cmdB_iff, repB_iff] at h
  have := dec_len k 1 (by omega)
  simp only [textS, List.length_append, List.length_cons]; omega
theorem sealS_len (t : List UInt8) : t.length + 2 ≤ (sealS t).length ∧ (sealS t).length ≤ t.length + 7 := by
  have := dec_len (ckS t) 5 (by have := ckS_lt t; omega)
  have := dec_pos (ckS t)
  simp only [sealS, List.length_append, List.length_cons]; omega
theorem sealS_not10 {k : Nat} {e : List UInt8 × List UInt8} (h : recB e = true) : (10 : UInt8) ∉ sealS (textS k e) := by
  have h1 := textS_not (k := k) h 10 (.inr rfl)
  have h2 := @dec_not (ckS (textS k e)) 10 (by decide)
  intro hm
  simp only [sealS, List.mem_append, List.mem_cons] at hm
  rcases hm with hm | hm | hm
  · exact h1 hm
  · revert hm; decide
  · exact h2 hm
theorem ahead_seal {t : List UInt8} (h : (35 : UInt8) ∉ t) : ahead 35 (sealS t) = t := ahead_app h
theorem behind_text (k : Nat) (e : List UInt8 × List UInt8) : behind 32 (textS k e) = e.1 ++ 64 :: e.2 := behind_app (dec_not (by decide))

/-- The record of a line without its newline. -/
def decE (s : List UInt8) : List UInt8 × List UInt8 := (ahead 64 (behind 32 (ahead 35 s)), behind 64 (behind 32 (ahead 35 s)))
def decB (k : Nat) (s : List UInt8) : Bool := recB (decE s) && (sealS (textS k (decE s)) == s)
theorem decE_of {k : Nat} {s : List UInt8} {e : List UInt8 × List UInt8} (h : recB e = true) (hs : sealS (textS k e) = s) : decE s = e := by
  subst hs
  have h35 := textS_not (k := k) h 35 (.inl rfl)
  have h64 : (64 : UInt8) ∉ e.1 := by
    rw [recB, Bool.and_eq_true, cmdB_iff] at h
    intro hm; exact (h.1.2.2 64 hm).2.2 rfl
  rw [decE, ahead_seal h35, behind_text, ahead_app h64, behind_app h64]
theorem decB_iff {k : Nat} {s : List UInt8} : decB k s = true ↔ ∃ e, recB e = true ∧ sealS (textS k e) = s := by
  simp only [decB, Bool.and_eq_true, beq_iff_eq]
  exact ⟨fun ⟨h1, h2⟩ => ⟨_, h1, h2⟩, fun ⟨e, h1, h2⟩ => by rw [decE_of h1 h2]; exact ⟨h1, h2⟩⟩
theorem line_eq {k : Nat} {e : List UInt8 × List UInt8} {s : List UInt8} : (lineS k e = s ++ [10]) ↔ sealS (textS k e) = s := by
  rw [lineS]; exact ⟨fun h => List.append_cancel_right h, fun h => by rw [h]⟩

/-- The records at the beginning of a text: at most f, the first one's number is k. -/
def rdL : Nat → Nat → List UInt8 → List (List UInt8 × List UInt8)
  | 0, _, _ => []
  | f + 1, k, s => if (10 : UInt8) ∈ s ∧ decB k (ahead 10 s) = true then decE (ahead 10 s) :: rdL f (k + 1) (behind 10 s) else []
def rdA (s : List UInt8) : List (List UInt8 × List UInt8) := rdL 60 0 s
/-- The lines of records. -/
def lns : Nat → List (List UInt8 × List UInt8) → List UInt8
  | _, [] => []
  | k, e :: r => lineS k e ++ lns (k + 1) r
theorem rdL_len (f k : Nat) (s : List UInt8) : (rdL f k s).length ≤ f := by
  induction f generalizing k s with
  | zero => simp [rdL]
  | succ f ih =>
    rw [rdL]; split
    · rw [List.length_cons]; have := ih (k + 1) (behind 10 s); omega
    · simp
theorem rdL_nil (f k : Nat) : rdL f k [] = [] := by cases f <;> simp [rdL]
theorem rdL_ok {f k : Nat} {s : List UInt8} : ∀ e ∈ rdL f k s, recB e = true := by
  induction f generalizing k s with
  | zero => simp [rdL]
  | succ f ih =>
    rw [rdL]; split
    · rename_i h
      intro e he
      rw [List.mem_cons] at he
      rcases he with rfl | he
      · have := h.2; rw [decB, Bool.and_eq_true] at this; exact this.1
      · exact ih e he
    · simp
theorem rdL_line {f k : Nat} {e : List UInt8 × List UInt8} {t : List UInt8} (h : recB e = true) : rdL (f + 1) k (lineS k e ++ t) = e :: rdL f (k + 1) t := by
  have h10 := sealS_not10 (k := k) h
  have e1 : lineS k e ++ t = sealS (textS k e) ++ 10 :: t := by simp [lineS]
  rw [rdL, e1, ahead_app h10, behind_app h10, decE_of h rfl, if_pos ⟨by simp, decB_iff.2 ⟨e, h, rfl⟩⟩]
theorem rdL_lns {rs : List (List UInt8 × List UInt8)} (h : ∀ e ∈ rs, recB e = true) (f k : Nat) (t : List UInt8) : rdL (rs.length + f) k (lns k rs ++ t) = rs ++ rdL f (k + rs.length) t := by
  induction rs generalizing k with
  | nil => simp [lns]
  | cons e r ih =>
    have := ih (fun x hx => h x (by simp [hx])) (k + 1)
    rw [List.length_cons, show r.length + 1 + f = (r.length + f) + 1 by omega, lns, List.append_assoc, rdL_line (h e (by simp)), this, List.cons_append, show k + 1 + r.length = k + (r.length + 1) by omega]
theorem rdL_pre (f k : Nat) (s : List UInt8) : ∃ t, s = lns k (rdL f k s) ++ t := by
  induction f generalizing k s with
  | zero => exact ⟨s, by simp [rdL, lns]⟩
  | succ f ih =>
    rw [rdL]; split
    · rename_i h
      obtain ⟨t, ht⟩ := ih (k + 1) (behind 10 s)
      have hd := h.2
      rw [decB, Bool.and_eq_true, beq_iff_eq] at hd
      refine ⟨t, ?_⟩
      rw [lns, List.append_assoc, ← ht, lineS, hd.2, List.append_assoc]
      exact split_at h.1
    · exact ⟨s, by simp [lns]⟩
theorem lns_append (k : Nat) (a b : List (List UInt8 × List UInt8)) : lns k (a ++ b) = lns k a ++ lns (k + a.length) b := by
  induction a generalizing k with
  | nil => simp [lns]
  | cons e r ih => rw [List.cons_append, lns, lns, ih, List.append_assoc, List.length_cons, show k + 1 + r.length = k + (r.length + 1) by omega]
/-- Where the j-th record ends. -/
def endS (rs : List (List UInt8 × List UInt8)) (j : Nat) : Nat := (lns 0 (rs.take j)).length
theorem endS_zero (rs : List (List UInt8 × List UInt8)) : endS rs 0 = 0 := by simp [endS, lns]
def nthR (rs : List (List UInt8 × List UInt8)) (j : Nat) : List UInt8 × List UInt8 := rs[j]?.getD ([], [])
theorem endS_succ {rs : List (List UInt8 × List UInt8)} {j : Nat} (h : j < rs.length) : endS rs (j + 1) = endS rs j + (lineS j (nthR rs j)).length := by
  have : rs.take (j + 1) = rs.take j ++ [nthR rs j] := by
    rw [List.take_succ_eq_append_getElem h]; simp [nthR, h]
  rw [endS, this, lns_append, List.length_append, lns, lns, List.append_nil, List.length_take, Nat.min_eq_left (by omega), Nat.zero_add]; rfl
theorem endS_mono {rs : List (List UInt8 × List UInt8)} {j k : Nat} (h : j ≤ k) : endS rs j ≤ endS rs k := by
  have h1 := List.take_append_drop j (rs.take k)
  rw [List.take_take, Nat.min_eq_left h] at h1
  rw [endS, endS, ← h1, lns_append, List.length_append]
  exact Nat.le_add_right _ _
/-- Reading of a whole log is reading of its parts. -/
theorem rdA_app {rs : List (List UInt8 × List UInt8)} (h : ∀ e ∈ rs, recB e = true) (hl : rs.length ≤ 60) (t : List UInt8) : rdA (lns 0 rs ++ t) = rs ++ rdL (60 - rs.length) rs.length t := by
  have := rdL_lns h (60 - rs.length) 0 t
  rwa [show rs.length + (60 - rs.length) = 60 by omega, Nat.zero_add] at this
theorem rdA_lns {rs : List (List UInt8 × List UInt8)} (h : ∀ e ∈ rs, recB e = true) (hl : rs.length ≤ 60) : rdA (lns 0 rs) = rs := by
  have := rdA_app h hl []
  rwa [List.append_nil, rdL_nil, List.append_nil] at this
/-- A text ends at the end of a record exactly if it is read whole. -/
theorem kept_iff {d p : List UInt8} (hw : (lns 0 (rdA (d ++ p))).length = (d ++ p).length) :
    (∃ j, j ≤ (rdA (d ++ p)).length ∧ endS (rdA (d ++ p)) j = d.length) ↔ (lns 0 (rdA d)).length = d.length := by
  obtain ⟨t, ht⟩ := rdL_pre 60 0 (d ++ p)
  change d ++ p = lns 0 (rdA (d ++ p)) ++ t at ht
  have ht0 : t = [] := by
    have h := congrArg List.length ht
    simp only [List.length_append] at h hw
    exact List.length_eq_zero_iff.1 (by omega)
  subst ht0
  rw [List.append_nil] at ht
  constructor
  · rintro ⟨j, hj, he⟩
    have h1 : d = lns 0 ((rdA (d ++ p)).take j) := by
      have h2 : lns 0 (rdA (d ++ p)) = lns 0 ((rdA (d ++ p)).take j) ++ lns (0 + ((rdA (d ++ p)).take j).length) ((rdA (d ++ p)).drop j) := by
        rw [← lns_append, List.take_append_drop]
      rw [← ht] at h2
      exact (List.append_inj h2 he.symm).1
    have h3 : rdA d = (rdA (d ++ p)).take j := by
      have := rdA_lns (rs := (rdA (d ++ p)).take j) (fun e he => rdL_ok e (List.mem_of_mem_take he)) (by rw [List.length_take]; have := rdL_len 60 0 (d ++ p); unfold rdA; omega)
      rwa [← h1] at this
    rw [h3, ← h1]
  · intro hk
    obtain ⟨t, ht2⟩ := rdL_pre 60 0 d
    change d = lns 0 (rdA d) ++ t at ht2
    have ht0 : t = [] := by
      have h := congrArg List.length ht2
      simp only [List.length_append] at h
      exact List.length_eq_zero_iff.1 (by omega)
    subst ht0
    rw [List.append_nil] at ht2
    have hl : (rdA d).length ≤ 60 := rdL_len 60 0 d
    have h4 := rdA_app (rs := rdA d) (fun e he => rdL_ok e he) hl p
    rw [← ht2] at h4
    refine ⟨(rdA d).length, by rw [h4, List.length_append]; omega, ?_⟩
    rw [endS, h4, List.take_left, ← ht2]
end Go.Proofs.YtolnloeapbplkaaDoor
