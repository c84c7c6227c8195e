import Derived.Test.YtboekndojgbkfaaTable
/- Contracts of the laws' functions on tables, and of copies by append. -/
set_option linter.unusedVariables false
namespace Go.Proofs.Ytboekndojgbkfaa
open Go.ChangeShapes Go.WideShapes Go.ChangeAt Go.RowKit

theorem copied_any (w : World) (a : Option Addr) (n cap : Nat) (xs : List Int) (h : SL w a n cap xs) (hn : n ≤ 1048576) :
    Calls Try.prog 92 #[.slice a n cap] w (RetS xs w) := by
  have hl := h.len
  obtain ⟨i0, hi, hz0, hz1, hz2⟩ := info_parts infoInt
  have hmade := Own.made0 (B := w.heap.size) w (Nat.le_refl _)
  have hfr := (Fr.refl w).alloc (.cells #[] 3)
  have hR := h.rng
  have h' := h.fr hfr
  have hnil := h.nil
  have hcells := h'.cells
  clear h h'
  cases a with
  | none =>
    obtain ⟨rfl, rfl⟩ := hnil rfl
    have hx : xs = [] := List.length_eq_zero_iff.1 hl
    subst hx
    clear hcells hnil
    go_enter Try.func92, Try.ntmps92
    go_wp2_with (at_builtin; refine wpList_append_own_none rfl _ _ 22 rfl w.heap.size 3 i0 1 Try.underlying22 hi _ 0 [] rfl hmade.row rfl ?_)
    go_ret
    exact ⟨_, _, _, rfl, hmade, hfr, by omega⟩
  | some x =>
    clear hnil
    have hlen : n = xs.length := hl.symm
    have hc0 : ∀ j u, (xs.map (Value.int .i64))[j]? = some u → (w.alloc (.cells #[] 3)).cell? (x.add j) = some u := by
      intro j u hu
      have hj : j < xs.length := by
        rcases Nat.lt_or_ge j xs.length with hlt | hge
        · exact hlt
        · simp [hge] at hu
      obtain ⟨b, off, hb, hc⟩ := hcells.resolve_left (by omega)
      obtain rfl : x = ⟨b, off, none⟩ := by simpa using hb
      rw [addr_add, hc j (by omega), nth_eq hj]
      simpa [hj] using hu
    have Hc := Lib.hid hc0
    have Hl := Lib.hid hlen
    clear hcells hc0 hlen hl
    go_enter Try.func92, Try.ntmps92
    go_wp2_with (at_builtin; (refine wpList_append_own _ rfl _ _ 22 rfl w.heap.size 3 i0 (.int .i64 0) 1 8 Try.underlying22 hi hz0 hz1 hz2 rfl (by decide) _ 0 [] rfl hmade.row x n cap (xs.map (Value.int .i64)) rfl (by have := Hl.out; rw [List.length_map]; omega) Hc.out ?_ (by unfold maxLen; omega) (by omega) (by simp) ?_))
    · intro u hu
      obtain ⟨y, _, rfl⟩ := List.mem_map.1 hu
      rfl
    · intro v' w' hown hg _
      try simp only [Nat.zero_add, List.nil_append] at hown
      have hF : Fr w w' := hfr.grown hg (fun k hk => by simp [Value.ownBlock] at hk; omega)
      rcases hown.2 with ⟨rfl, h0⟩ | ⟨g, cap', cur, rfl, _⟩
      · go_wp2
        go_ret
        have hx : xs = [] := List.length_eq_zero_iff.1 (by have := Hl.out; omega)
        subst hx; subst h0
        exact ⟨none, 0, 0, rfl, ⟨by simpa using hown, by simp⟩, hF, by omega⟩
      · go_wp2
        go_ret
        exact ⟨_, _, _, rfl, ⟨hown, hR⟩, hF, by omega⟩

theorem l1Own_any (w : World) (a : Option Addr) (n cap : Nat) (xs : List Int) (h : SL w a n cap xs) (hn : n ≤ 1048576) :
    Calls Try.prog 107 #[.slice a n cap] w (RetS xs w) := by
  have hl := h.len
  obtain ⟨i0, hi, hz0, hz1, hz2⟩ := info_parts infoInt
  have hmade := Own.made0 (B := w.heap.size) w (Nat.le_refl _)
  have hfr := (Fr.refl w).alloc (.cells #[] 3)
  have hR := h.rng
  have h' := h.fr hfr
  have hnil := h.nil
  have hcells := h'.cells
  clear h h'
  cases a with
  | none =>
    obtain ⟨rfl, rfl⟩ := hnil rfl
    have hx : xs = [] := List.length_eq_zero_iff.1 hl
    subst hx
    clear hcells hnil
    go_enter Try.func107, Try.ntmps107
    go_wp2_with (at_builtin; refine wpList_append_own_none rfl _ _ 22 rfl w.heap.size 3 i0 1 Try.underlying22 hi _ 0 [] rfl hmade.row rfl ?_)
    go_ret
    exact ⟨_, _, _, rfl, hmade, hfr, by omega⟩
  | some x =>
    clear hnil
    have hlen : n = xs.length := hl.symm
    have hc0 : ∀ j u, (xs.map (Value.int .i64))[j]? = some u → (w.alloc (.cells #[] 3)).cell? (x.add j) = some u := by
      intro j u hu
      have hj : j < xs.length := by
        rcases Nat.lt_or_ge j xs.length with hlt | hge
        · exact hlt
        · simp [hge] at hu
      obtain ⟨b, off, hb, hc⟩ := hcells.resolve_left (by omega)
      obtain rfl : x = ⟨b, off, none⟩ := by simpa using hb
      rw [addr_add, hc j (by omega), nth_eq hj]
      simpa [hj] using hu
    have Hc := Lib.hid hc0
    have Hl := Lib.hid hlen
    clear hcells hc0 hlen hl
    go_enter Try.func107, Try.ntmps107
    go_wp2_with (at_builtin; (refine wpList_append_own _ rfl _ _ 22 rfl w.heap.size 3 i0 (.int .i64 0) 1 8 Try.underlying22 hi hz0 hz1 hz2 rfl (by decide) _ 0 [] rfl hmade.row x n cap (xs.map (Value.int .i64)) rfl (by have := Hl.out; rw [List.length_map]; omega) Hc.out ?_ (by unfold maxLen; omega) (by omega) (by simp) ?_))
    · intro u hu
      obtain ⟨y, _, rfl⟩ := List.mem_map.1 hu
      rfl
    · intro v' w' hown hg _
      try simp only [Nat.zero_add, List.nil_append] at hown
      have hF : Fr w w' := hfr.grown hg (fun k hk => by simp [Value.ownBlock] at hk; omega)
      rcases hown.2 with ⟨rfl, h0⟩ | ⟨g, cap', cur, rfl, _⟩
      · go_wp2
        go_ret
        have hx : xs = [] := List.length_eq_zero_iff.1 (by have := Hl.out; omega)
        subst hx; subst h0
        exact ⟨none, 0, 0, rfl, ⟨by simpa using hown, by simp⟩, hF, by omega⟩
      · go_wp2
        go_ret
        exact ⟨_, _, _, rfl, ⟨hown, hR⟩, hF, by omega⟩

def sameRows (xs ys : List (List Int)) (k : Nat) : Prop := ∀ i, i < k → nthL xs i = nthL ys i
theorem sameRows_all {xs ys : List (List Int)} (hl : xs.length = ys.length) (h : sameRows xs ys xs.length) : xs = ys := by
  apply List.ext_getElem hl
  intro i h1 h2
  have := h i h1
  rwa [nthL_eq h1, nthL_eq h2] at this

theorem eqIntSS_qt (w : World) (a b : Option Addr) (n c m d : Nat) (xs ys : List (List Int)) (h : SS w a n c xs) (k : SS w b m d ys) :
    Calls Try.prog 24 #[.slice a n c, .slice b m d] w fun e w' => e = .returned (.bool (decide (xs = ys))) ∧ Qt w w' := by
  have Hx := h; have Hy := k
  have Hxl := Lib.hid h.len; have Hyl := Lib.hid k.len
  have hxm : n ≤ 9223372036854775807 := by have := h.le; have := h.mx; omega
  have hym : m ≤ 9223372036854775807 := by have := k.le; have := k.mx; omega
  clear h k
  by_cases hne : n = m
  · subst hne
    go_enter Try.func24, Try.ntmps24
    go_wp2
    go_loopw [5] (fun i wr => ∃ k : Nat, k ≤ n ∧ i = .int .i64 k ∧ Hid (sameRows xs ys k) ∧ Qt w wr) (fun i _ => n - (intOf i).toNat)
    case atStart => exact ⟨0, Nat.zero_le _, rfl, Lib.hid (fun i hi => by omega), Qt.refl _⟩
    case round =>
      obtain ⟨k, hk, rfl, hs, hf⟩ := hrel
      by_cases hlt : k < n
      · obtain ⟨b1, o1, rfl, hc1⟩ := (Hx.qt hf).rows.resolve_left (by omega)
        obtain ⟨b2, o2, rfl, hc2⟩ := (Hy.qt hf).rows.resolve_left (by omega)
        obtain ⟨p1, m1, c1, hd1, s1⟩ := hc1 k hlt
        obtain ⟨p2, m2, c2, hd2, s2⟩ := hc2 k hlt
        clear hc1 hc2
        have hi1 : (0 : Int) ≤ (k : Int) := by omega
        have hi2 : (k : Int) < (n : Int) := by omega
        by_cases he : nthL xs k = nthL ys k
        rotate_left
        · have HE := Lib.hid he
          have hb : (!decide (nthL xs k = nthL ys k)) = true := by simp [he]
          clear he
          go_wp2
          go_quiet ((go_at_call 19; exact qof (eqIntS_qt _ _ _ _ _ _ _ _ _ (s1.drewN _) (s2.drewN _))))
          go_wp2
          go_ret
          exact ⟨ret_bool (by symm; rw [decide_eq_false_iff_not]; intro e; exact HE.out (by rw [e])), hf.drewN _⟩
        · have HE := Lib.hid he
          have hb : (!decide (nthL xs k = nthL ys k)) = false := by simp [he]
          clear he
          go_wp2
          go_quiet ((go_at_call 19; exact qof (eqIntS_qt _ _ _ _ _ _ _ _ _ (s1.drewN _) (s2.drewN _))))
          go_wp2
          go_roundw
          case rel => exact ⟨k + 1, by omega, by go_num, Lib.hid (fun i hi => by by_cases e : i = k; (· subst e; exact HE.out); (· exact hs.out i (by omega))), hf.drewN _⟩
          case measure => simp [intOf]; omega
      · go_wp2
        go_ret
        have : k = n := by omega
        subst this
        exact ⟨ret_bool (by symm; rw [decide_eq_true_eq]; exact sameRows_all (by rw [Hxl.out, Hyl.out]) (by rw [Hxl.out]; exact hs.out)), hf⟩
  · have hb : ((n : Int) != (m : Int)) = true := by simp; omega
    have HN := Lib.hid hne
    clear hne
    go_enter Try.func24, Try.ntmps24
    go_wp2
    go_ret
    exact ⟨ret_bool (by symm; rw [decide_eq_false_iff_not]; intro e; exact HN.out (by rw [← Hxl.out, ← Hyl.out, e])), Qt.refl _⟩

theorem eqIntSS_any (w : World) (a b : Option Addr) (n c m d : Nat) (xs ys : List (List Int)) (h : SS w a n c xs) (k : SS w b m d ys) :
    Calls Try.prog 24 #[.slice a n c, .slice b m d] w fun e w' => e = .returned (.bool (decide (xs = ys))) ∧ Fr w w' := toFrQ (eqIntSS_qt w a b n c m d xs ys h k)

/-- Rows of marks in a row, from k on. -/
def marksSS (k : Int) : List Nat → List (List Int)
  | [] => []
  | l :: r => marks k l :: marksSS (k + l) r
def sumN (ls : List Nat) (i : Nat) : Nat := (ls.take i).sum
theorem sumN_succ (ls : List Nat) (i : Nat) (h : i < ls.length) : sumN ls (i + 1) = sumN ls i + ls[i]?.getD 0 := by
  unfold sumN
  rw [List.take_succ_eq_append_getElem h, List.sum_append]
  simp [h]
theorem sumN_le (ls : List Nat) (i : Nat) : sumN ls i ≤ ls.sum := by
  induction ls generalizing i with
  | nil => simp [sumN]
  | cons l r ih =>
    cases i with
    | zero => simp [sumN]
    | succ i => have := ih i; simp only [sumN, List.take_succ_cons, List.sum_cons] at this ⊢; omega
theorem marksSS_len (k : Int) (ls : List Nat) : (marksSS k ls).length = ls.length := by
  induction ls generalizing k with
  | nil => rfl
  | cons l r ih => simp [marksSS, ih]
theorem marksSS_at (k : Int) (ls : List Nat) (i : Nat) (h : i < ls.length) : nthL (marksSS k ls) i = marks (k + sumN ls i) (ls[i]?.getD 0) := by
  induction ls generalizing k i with
  | nil => simp at h
  | cons l r ih =>
    cases i with
    | zero => simp [marksSS, nthL, sumN]
    | succ i =>
      have h2 := ih (k + l) i (by simpa using h)
      have h3 : nthL (marksSS k (l :: r)) (i + 1) = nthL (marksSS (k + l) r) i := by simp [marksSS, nthL]
      have h4 : k + (sumN (l :: r) (i + 1) : Nat) = k + l + (sumN r i : Nat) := by simp [sumN]; omega
      rw [h3, h2, h4]; simp

/-- The table in the middle of the marking: the first i rows are marked. -/
def midSS (k : Int) (xss : List (List Int)) (i : Nat) : List (List Int) := (marksSS k (xss.map List.length)).take i ++ xss.drop i
theorem midSS_zero (k : Int) (xss : List (List Int)) : midSS k xss 0 = xss := by simp [midSS]
theorem midSS_all (k : Int) (xss : List (List Int)) : midSS k xss xss.length = marksSS k (xss.map List.length) := by
  rw [midSS, List.drop_length, List.append_nil, List.take_of_length_le]; rw [marksSS_len]; simp
theorem midSS_at (k : Int) (xss : List (List Int)) (i : Nat) (h : i < xss.length) : nthL (midSS k xss i) i = nthL xss i := by
  have hl : ((marksSS k (xss.map List.length)).take i).length = i := by simp [marksSS_len]; omega
  simp only [nthL, midSS]
  rw [List.getElem?_append_right (by omega), hl, Nat.sub_self]
  simp
theorem midSS_succ (k : Int) (xss : List (List Int)) (i : Nat) (h : i < xss.length) : (midSS k xss i).set i (marks (k + sumN (xss.map List.length) i) (nthL xss i).length) = midSS k xss (i + 1) := by
  have hl : ((marksSS k (xss.map List.length)).take i).length = i := by simp [marksSS_len]; omega
  have hm := marksSS_at k (xss.map List.length) i (by simpa using h)
  have hL : (xss.map List.length)[i]?.getD 0 = (nthL xss i).length := by simp [nthL, h]
  rw [hL] at hm
  rw [midSS, List.set_append_right _ _ (by omega), hl, Nat.sub_self, List.drop_eq_getElem_cons h, List.set_cons_zero, midSS]
  rw [List.take_succ_eq_append_getElem (by rw [marksSS_len]; simpa using h), List.append_assoc, ← hm, nthL_eq (by rw [marksSS_len]; simpa using h)]
  rfl

theorem markIntSS_any (B H : Nat) (w : World) (a : Option Addr) (n c : Nat) (xss : List (List Int)) (k : Int) (ho : OwnSS B H w a n c xss) (h0 : 0 ≤ k) (h1 : k ≤ 1000000) (h2 : tot xss ≤ 1048576) (h3 : n ≤ 1048576) :
    Calls Try.prog 34 #[.slice a n c, .int .i64 k] w fun e w' => e = .returned (.int .i64 (k + (tot xss : Nat))) ∧ OwnSS B H w' a n c (marksSS k (xss.map List.length)) ∧ GrownIn B H w w' := by
  have Hl := Lib.hid ho.len
  have hb : ∀ i, sumN (xss.map List.length) i ≤ 1048576 := fun i => Nat.le_trans (sumN_le _ _) h2
  have HB := Lib.hid hb
  clear hb
  go_enter Try.func34, Try.ntmps34
  go_wp2
  go_loopw [1, 5] (fun q i wr => ∃ j : Nat, j ≤ n ∧ i = .int .i64 j ∧ q = .int .i64 (k + (sumN (xss.map List.length) j : Nat)) ∧ OwnSS B H wr a n c (midSS k xss j) ∧ GrownIn B H w wr) (fun _ i _ => n - (intOf i).toNat)
  case atStart => exact ⟨0, Nat.zero_le _, rfl, by simp [sumN], by rw [midSS_zero]; exact ho, GrownIn.refl _ _ _⟩
  case round =>
    clear ho
    obtain ⟨j, hj, rfl, rfl, ho, hg⟩ := hrel
    by_cases hlt : j < n
    · obtain ⟨g, p, m, c', rfl, hcell, hr, hw, hBg, hgH⟩ := ho.rowAt hlt
      rw [midSS_at k xss j (by rw [Hl.out]; exact hlt)] at hr
      have hs := HB.out j
      have hs2 := HB.out (j + 1)
      have hrl := hr.len
      have hsucc : sumN (xss.map List.length) (j + 1) = sumN (xss.map List.length) j + m := by
        rw [sumN_succ _ _ (by simp [Hl.out, hlt]), ← hrl]; simp [nthL, Hl.out, hlt]
      have HS := Lib.hid hsucc
      have HR := Lib.hid hrl
      have hmb : m ≤ 1048576 := by omega
      clear hsucc hrl
      go_wp2_with fail
      refine (markIntS_any B _ _ _ _ _ _ hr (by omega) (by omega) (by omega)).mono ?_
      rintro e w1 ⟨rfl, hr1, hg1⟩
      go_wp2
      go_roundw
      case rel =>
        refine ⟨j + 1, by omega, by go_num, by rw [HS.out]; go_num, ?_, hg.trans (GrownIn.of hg1 hw)⟩
        rw [← midSS_succ k xss j (by rw [Hl.out]; exact hlt), HR.out]
        exact ho.setRow hlt rfl hcell hr1 hg1
      case measure => simp [intOf]; omega
    · go_wp2
      go_ret
      have : j = n := by omega
      subst this
      have hj : j = xss.length := Hl.out.symm
      subst hj
      rw [midSS_all] at ho
      refine ⟨ret_int ?_, ho, hg⟩
      rw [sumN, List.take_of_length_le (by simp)]; rfl

theorem heldIntSS_any (w : World) (a : Option Addr) (n c : Nat) (ls : List Nat) (k : Int) (h : SS w a n c (marksSS k ls)) (h0 : 0 ≤ k) (h1 : k ≤ 1000000) (h2 : ls.sum ≤ 1048576) :
    Calls Try.prog 35 #[.slice a n c, .int .i64 k] w fun e w' => e = .returned (.int .i64 (k + (ls.sum : Nat))) ∧ w = w' := by
  have Hl : Hid (ls.length = n) := Lib.hid (by rw [← h.len, marksSS_len])
  have hn : n ≤ 9223372036854775807 := by have := h.le; have := h.mx; omega
  have hb : ∀ i, sumN ls i ≤ 1048576 := fun i => Nat.le_trans (sumN_le _ _) h2
  have HB := Lib.hid hb
  clear hb
  go_enter Try.func35, Try.ntmps35
  go_wp2
  go_loop [1, 5] (fun q i => ∃ j : Nat, j ≤ n ∧ i = .int .i64 j ∧ q = .int .i64 (k + (sumN ls j : Nat))) (fun _ i => n - (intOf i).toNat)
  case atStart => exact ⟨0, Nat.zero_le _, rfl, by simp [sumN]⟩
  case round =>
    obtain ⟨j, hj, rfl, rfl⟩ := hrel
    by_cases hlt : j < n
    · obtain ⟨b, off, rfl, hc0⟩ := h.rows.resolve_left (by omega)
      obtain ⟨p, m, c', hcell, hr⟩ := hc0 j hlt
      clear hc0
      rw [marksSS_at k ls j (by rw [Hl.out]; exact hlt)] at hr
      have hm : ls[j]?.getD 0 = m := by have := hr.len; rwa [marks_len] at this
      rw [hm] at hr
      have hs := HB.out j
      have hs2 := HB.out (j + 1)
      have hsucc : sumN ls (j + 1) = sumN ls j + m := by rw [sumN_succ _ _ (by rw [Hl.out]; exact hlt), hm]
      have HS := Lib.hid hsucc
      have hmb : m ≤ 1048576 := by omega
      clear hsucc hm
      go_wp2_with (go_at_call 87; refine (heldIntS_any _ _ _ _ _ hr (by omega) (by omega) (by omega)).mono ?_; rintro e w1 ⟨rfl, rfl⟩)
      go_round
      case rel => exact ⟨j + 1, by omega, by go_num, by rw [HS.out]; go_num⟩
      case measure => simp [intOf]; omega
    · go_wp2
      go_ret
      have : j = n := by omega
      subst this
      exact ⟨ret_int (by rw [← Hl.out]; simp [sumN]), rfl⟩

theorem heldIntSS_of (w : World) (a : Option Addr) (n c : Nat) (xss : List (List Int)) (k : Int) (h : SS w a n c (marksSS k (xss.map List.length))) (h0 : 0 ≤ k) (h1 : k ≤ 1000000) (h2 : tot xss ≤ 1048576) :
    Calls Try.prog 35 #[.slice a n c, .int .i64 k] w fun e w' => e = .returned (.int .i64 (k + (tot xss : Nat))) ∧ w = w' := heldIntSS_any w a n c _ k h h0 h1 h2

end Go.Proofs.Ytboekndojgbkfaa
