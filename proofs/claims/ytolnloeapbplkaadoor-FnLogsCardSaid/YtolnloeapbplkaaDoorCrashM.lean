import Derived.Test.YtolnloeapbplkaaDoorCrash
/- What is read of a log behind a crash: plain part. -/
set_option linter.unusedVariables false
namespace Go.Proofs.YtolnloeapbplkaaDoor

theorem rdL_no10 (f k : Nat) (s : List UInt8) (h : (10 : UInt8) ∉ s) : rdL f k s = [] := by
  cases f with
  | zero => rfl
  | succ f => rw [rdL, if_neg (fun h2 => h h2.1)]
theorem cutL (all : List (List UInt8 × List UInt8)) : ∀ (k m : Nat), (∀ e ∈ all, recB e = true) → m ≤ (lns k all).length →
    ∃ (i : Nat) (r : List UInt8), i ≤ all.length ∧ (lns k all).take m = lns k (all.take i) ++ r ∧ (10 : UInt8) ∉ r ∧ ∀ j, j ≤ all.length → (lns k (all.take j)).length ≤ m → j ≤ i := by
  induction all with
  | nil => intro k m _ _; exact ⟨0, [], Nat.le_refl _, by simp [lns], by simp, fun j hj _ => hj⟩
  | cons e t ih =>
    intro k m hr hm
    have hl : lineS k e = sealS (textS k e) ++ [10] := rfl
    have hLl : (lineS k e).length = (sealS (textS k e)).length + 1 := by rw [hl, List.length_append]; rfl
    by_cases hlt : m < (lineS k e).length
    · refine ⟨0, (lineS k e).take m, Nat.zero_le _, ?_, ?_, ?_⟩
      · rw [lns, List.take_append_of_le_length (by omega)]; simp [lns]
      · rw [hl, List.take_append_of_le_length (by omega)]
        exact fun h => sealS_not10 (hr e (by simp)) (List.mem_of_mem_take h)
      · intro j hj h
        cases j with
        | zero => exact Nat.le_refl _
        | succ j => rw [List.take_succ_cons, lns, List.length_append] at h; omega
    · rw [lns, List.length_append] at hm
      obtain ⟨i, r, h1, h2, h3, h4⟩ := ih (k + 1) (m - (lineS k e).length) (fun x hx => hr x (by simp [hx])) (by omega)
      refine ⟨i + 1, r, by simpa using h1, ?_, h3, ?_⟩
      · rw [lns, List.take_succ_cons, lns, List.append_assoc, ← h2, List.take_append, List.take_of_length_le (by omega)]
      · intro j hj h
        cases j with
        | zero => omega
        | succ j =>
          rw [List.take_succ_cons, lns, List.length_append] at h
          have := h4 j (by simpa using hj) (by omega)
          omega
theorem sealS_small {k : Nat} {e : List UInt8 × List UInt8} (h : recB e = true) : ∀ b ∈ sealS (textS k e), b.toNat ≤ 126 := by
  rw [recB, Bool.and_eq_true] at h
  have h1 := (cmdB_iff.1 h.1).2.2
  have h2 := (repB_iff.1 h.2).2
  intro b hb
  rw [sealS, List.mem_append, List.mem_cons] at hb
  rcases hb with hb | rfl | hb
  · rw [textS, List.mem_append, List.mem_cons, List.mem_append, List.mem_cons] at hb
    rcases hb with hb | rfl | hb | rfl | hb
    · have := dec_digit _ b hb; omega
    · decide
    · have := (h1 b hb).1; simp [okB] at this; omega
    · decide
    · have := (h2 b hb).1; simp [okB] at this; omega
  · decide
  · have := dec_digit _ b hb; omega
theorem lns_small (rs : List (List UInt8 × List UInt8)) : ∀ k, (∀ e ∈ rs, recB e = true) → ∀ b ∈ lns k rs, b.toNat ≤ 126 := by
  induction rs with
  | nil => intro k _ b hb; simp [lns] at hb
  | cons e t ih =>
    intro k hr b hb
    rw [lns, List.mem_append, lineS, List.mem_append, List.mem_singleton] at hb
    rcases hb with (hb | rfl) | hb
    · exact sealS_small (hr e (by simp)) b hb
    · decide
    · exact ih (k + 1) (fun x hx => hr x (by simp [hx])) b hb
theorem flip_ne (b : UInt8) (h : b.toNat ≤ 126) : (255 - b) ≠ 10 := by
  intro e
  have h2 := congrArg UInt8.toNat e
  have h3 : (255 - b).toNat = 255 - b.toNat := by
    rw [UInt8.toNat_sub_of_le]
    · rfl
    · rw [UInt8.le_iff_toNat_le]; have := UInt8.toNat_lt b; change b.toNat ≤ 255; omega
  rw [h3] at h2
  change 255 - b.toNat = 10 at h2
  omega
theorem lns_rdA {s : List UInt8} (h : (lns 0 (rdA s)).length = s.length) : lns 0 (rdA s) = s := by
  obtain ⟨t, ht⟩ := rdL_pre 60 0 s
  have h2 : s = lns 0 (rdA s) ++ t := ht
  have h3 := congrArg List.length h2
  rw [List.length_append] at h3
  have : t = [] := List.length_eq_zero_iff.1 (by omega)
  rw [this, List.append_nil] at h2
  exact h2.symm
/-- Behind a crash a beginning of the records is read, all durable ones among them; all if nothing is torn or lost. -/
theorem crash_read {d p : List UInt8} {c : Int} {k : Nat} (torn : Bool) (h : logB d p c = true) (hk : k ≤ p.length) :
    ∃ i, i ≤ (rdA (d ++ p)).length ∧ rdA (d ++ crL (p.take k) torn) = (rdA (d ++ p)).take i ∧ d.length ≤ (lns 0 ((rdA (d ++ p)).take i)).length ∧ (torn = false → k = p.length → i = (rdA (d ++ p)).length) := by
  obtain ⟨h1, h2, h3, h4⟩ := logB_iff.1 h
  have hall : lns 0 (rdA (d ++ p)) = d ++ p := lns_rdA (by rw [h2, List.length_append])
  have hr : ∀ e ∈ rdA (d ++ p), recB e = true := rdL_ok
  have h60 : (rdA (d ++ p)).length ≤ 60 := rdL_len 60 0 _
  obtain ⟨j, hj, hjd⟩ := (kept_iff (d := d) (p := p) (by rw [h2, List.length_append])).2 h3
  have htake : (d ++ p).take (d.length + k) = d ++ p.take k := List.take_length_add_append k
  -- an untorn beginning
  have key : ∀ (m : Nat) (x : List UInt8), d.length ≤ m → m ≤ d.length + p.length → (10 : UInt8) ∉ x → ∃ i, i ≤ (rdA (d ++ p)).length ∧ rdA ((d ++ p).take m ++ x) = (rdA (d ++ p)).take i ∧ d.length ≤ (lns 0 ((rdA (d ++ p)).take i)).length ∧ (m = d.length + p.length → i = (rdA (d ++ p)).length) := by
    intro m x hm1 hm2 hx
    obtain ⟨i, r, e1, e2, e3, e4⟩ := cutL (rdA (d ++ p)) 0 m hr (by rw [hall, List.length_append]; exact hm2)
    rw [hall] at e2
    refine ⟨i, e1, ?_, ?_, ?_⟩
    · rw [e2, List.append_assoc, rdA_app (fun e he => hr e (List.mem_of_mem_take he)) (by rw [List.length_take]; omega), rdL_no10 _ _ _ (by
        rw [List.mem_append]; rintro (h | h)
        · exact e3 h
        · exact hx h), List.append_nil]
    · have hji := e4 j (by omega) (by rw [show (lns 0 ((rdA (d ++ p)).take j)).length = endS (rdA (d ++ p)) j from rfl]; omega)
      have := endS_mono (rs := rdA (d ++ p)) hji
      rw [show (lns 0 ((rdA (d ++ p)).take i)).length = endS (rdA (d ++ p)) i from rfl]; omega
    · intro hm
      have := e4 (rdA (d ++ p)).length (Nat.le_refl _) (by rw [List.take_length, h2]; omega)
      omega
  by_cases ht : torn = true ∧ 0 < k
  · obtain ⟨rfl, hk0⟩ := ht
    have hpk : (p.take k).length = k := by rw [List.length_take]; omega
    have hcr : crL (p.take k) true = p.take (k - 1) ++ [255 - (p.take k).getD (k - 1) 0] := by
      show tornL (p.take k) = _
      rw [tornL, hpk]
      have e1 : p.take k = p.take (k - 1) ++ [(p.take k).getD (k - 1) 0] := by
        have e2 : p.take k = p.take (k - 1 + 1) := by congr 1; omega
        have hlt : k - 1 < p.length := by omega
        rw [e2, List.take_succ_eq_append_getElem hlt]
        congr 1
        simp [hlt]
      have e3 : (p.take (k - 1)).length = k - 1 := by rw [List.length_take]; omega
      generalize hv : (p.take k).getD (k - 1) 0 = v at e1 ⊢
      rw [e1, List.set_append_right _ _ (by omega), e3, Nat.sub_self]; rfl
    have hmem : (p.take k).getD (k - 1) 0 ∈ lns 0 (rdA (d ++ p)) := by
      rw [hall, List.mem_append]
      right
      have hlt : k - 1 < (p.take k).length := by omega
      rw [List.getD_eq_getElem?_getD, List.getElem?_eq_getElem hlt]
      exact List.mem_of_mem_take (List.getElem_mem hlt)
    obtain ⟨i, e1, e2, e3, e4⟩ := key (d.length + (k - 1)) [255 - (p.take k).getD (k - 1) 0] (by omega) (by omega) (by
      rw [List.mem_singleton]; exact fun e => flip_ne _ (lns_small _ 0 hr _ hmem) e.symm)
    refine ⟨i, e1, ?_, e3, fun h => by cases h⟩
    rw [hcr, ← List.append_assoc, ← e2, List.take_length_add_append]
  · have hcr : crL (p.take k) torn = p.take k := by
      cases torn with
      | false => rfl
      | true =>
        have hk0 : k = 0 := by
          rcases Nat.eq_zero_or_pos k with h | h
          · exact h
          · exact absurd ⟨rfl, h⟩ ht
        subst hk0; rfl
    obtain ⟨i, e1, e2, e3, e4⟩ := key (d.length + k) [] (by omega) (by omega) (by simp)
    refine ⟨i, e1, ?_, e3, fun _ hk2 => e4 (by omega)⟩
    rw [hcr, ← htake, ← e2, List.append_nil]
/-- What is recovered is a valid log. -/
theorem rec_valid {s : List UInt8} (h : s.length ≤ 30000) : logB (lns 0 (rdA s)) [] (rdA s).length = true ∧ rdA (lns 0 (rdA s)) = rdA s := by
  have hr : ∀ e ∈ rdA s, recB e = true := rdL_ok
  have h1 := rdA_lns hr (rdL_len 60 0 s)
  have h2 := rdA_end s
  refine ⟨logB_iff.2 ⟨?_, ?_, ?_, ?_⟩, h1⟩
  · simp; omega
  · rw [List.append_nil, h1]; rfl
  · rw [h1]
  · rw [List.append_nil, h1]
theorem take_rdA (s : List UInt8) : s.take (lns 0 (rdA s)).length = lns 0 (rdA s) := by
  obtain ⟨t, ht⟩ := rdL_pre 60 0 s
  have h2 : s = lns 0 (rdA s) ++ t := ht
  have h3 : s.take (lns 0 (rdA s)).length = (lns 0 (rdA s) ++ t).take (lns 0 (rdA s)).length := by rw [← h2]
  rw [h3, List.take_left]
end Go.Proofs.YtolnloeapbplkaaDoor
