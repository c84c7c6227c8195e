import Derived.Test.YtojipjjfndgbhaaCore
import Derived.Deep.LoopGhost
import Derived.Laws.OwnMore
/- Contracts of the laws' own list functions: a copy, the comparison, the marking and its check. -/
set_option linter.unusedVariables false
namespace Go.Proofs.Ytojipjjfndgbhaa
open Go.ChangeShapes Go.WideShapes Go.ChangeAt Go.RowKit

theorem copy_step (xs : List Int) (n k : Nat) (hn : xs.length = n) (hk : k < n) :
    (xs.take k ++ List.replicate (n - k) (0 : Int)).set k (nth xs k) = xs.take (k + 1) ++ List.replicate (n - (k + 1)) 0 := by
  have h1 : (xs.take k).length = k := by simp; omega
  rw [take_snoc xs k (by omega), List.set_append_right _ _ (by omega), h1, Nat.sub_self]
  rw [show n - k = (n - (k+1)) + 1 by omega, List.replicate_succ]
  simp

theorem copy_cell (xs : List Int) (n k : Nat) (w : World) (g : Nat) (B cap : Nat) (hn : xs.length = n) (hk : k < n)
    (ho : Own B w (some ⟨g, 0, none⟩) n cap (xs.take k ++ List.replicate (n - k) (0 : Int))) : ∃ u, w.cell? ⟨g, k, none⟩ = some u := ⟨_, ho.cellAt rfl hk⟩

theorem toIntS_any (w : World) (a : Option Addr) (n cap : Nat) (xs : List Int) (h : SL w a n cap xs) (hm : n ≤ 1048576) :
    Calls Try.prog 23 #[.slice a n cap] w (RetS xs w) := by
  have H := h
  obtain ⟨hlen, hle, hmx, hrng, _, hcells⟩ := h
  have Hlen := Lib.hid hlen; clear hlen
  have hmk := run_make_row' 22 3 (.int .i64 0) 8 Try.underlying22 infoInt rfl .i64 .i64 n (by omega) (by omega)
  go_enter Try.func23, Try.ntmps23
  go_wp2
  clear hmk
  have hmade := Own.made w n (Nat.le_refl _) (by unfold maxLen; omega)
  have hfr := (Fr.refl w).alloc (.cells (madeCells #[.int .i64 0] n) 3)
  go_loopw [4] (fun i wr => ∃ k : Nat, k ≤ n ∧ i = .int .i64 k ∧ Own w.heap.size wr (some ⟨w.heap.size, 0, none⟩) n n (xs.take k ++ List.replicate (n - k) 0) ∧ Fr w wr) (fun i _ => n - (intOf i).toNat)
  case atStart => exact ⟨0, Nat.zero_le _, rfl, by simpa using hmade, hfr⟩
  case round =>
    clear hmade hfr
    obtain ⟨k, hk, rfl, ho, hf⟩ := hrel
    by_cases hlt : k < n
    · obtain ⟨b, off, rfl, hc⟩ := (H.fr hf).cells.resolve_left (by omega)
      have hc := hc k hlt
      obtain ⟨g, hg, hB, hlt2, hcell, hfro⟩ := ho.op (by omega)
      obtain ⟨rfl⟩ : w.heap.size = g := by simpa using hg
      have hcell := hcell k hlt
      have hfro := hfro k
      have hI := H.rngAt k
      go_wp2
      go_roundw
      case rel =>
        refine ⟨k + 1, by omega, by go_num, ?_, hf.setCell (Nat.le_refl _) _⟩
        rw [← copy_step xs n k Hlen.out hlt]
        exact ho.set rfl hlt hI
      case measure => simp [intOf]; omega
    · go_wp2
      go_ret
      have : k = n := by omega
      subst this
      rw [Nat.sub_self, List.replicate_zero, List.append_nil, List.take_of_length_le (by rw [Hlen.out]; omega)] at ho
      exact ⟨_, _, _, rfl, ho, hf, hm⟩

/-- Two lists are the same up to k. -/
def sameTo (xs ys : List Int) (k : Nat) : Prop := ∀ i, i < k → nth xs i = nth ys i
theorem sameTo_all {xs ys : List Int} (hl : xs.length = ys.length) (h : sameTo xs ys xs.length) : xs = ys := by
  apply List.ext_getElem hl
  intro i h1 h2
  have := h i h1
  rwa [nth_eq h1, nth_eq h2] at this

theorem eqIntS_qt (w : World) (a b : Option Addr) (n c m d : Nat) (xs ys : List Int) (h : SL w a n c xs) (k : SL w b m d ys) :
    Calls Try.prog 26 #[.slice a n c, .slice b m d] w fun e w' => e = .returned (.bool (decide (xs = ys))) ∧ Qt w w' := by
  have Hx := h; have Hy := k
  have Hxl := Lib.hid h.len; have Hyl := Lib.hid k.len
  have hxm : n ≤ 9223372036854775807 := by have := h.le; have := h.mx; omega
  have hym : m ≤ 9223372036854775807 := by have := k.le; have := k.mx; omega
  clear h k
  by_cases hne : n = m
  · subst hne
    go_enter Try.func26, Try.ntmps26
    go_wp2
    go_loopw [5] (fun i wr => ∃ k : Nat, k ≤ n ∧ i = .int .i64 k ∧ Hid (sameTo xs ys k) ∧ Qt w wr) (fun i _ => n - (intOf i).toNat)
    case atStart => exact ⟨0, Nat.zero_le _, rfl, Lib.hid (fun i hi => by omega), Qt.refl _⟩
    case round =>
      obtain ⟨k, hk, rfl, hs, hf⟩ := hrel
      by_cases hlt : k < n
      · obtain ⟨b1, o1, rfl, hc1⟩ := (Hx.qt hf).cells.resolve_left (by omega)
        obtain ⟨b2, o2, rfl, hc2⟩ := (Hy.qt hf).cells.resolve_left (by omega)
        have hc1 := hc1 k hlt
        have hc2 := hc2 k hlt
        have hi1 : (0 : Int) ≤ (k : Int) := by omega
        have hi2 : (k : Int) < (n : Int) := by omega
        by_cases he : nth xs k = nth ys k
        · have HE := Lib.hid he
          have hb : (nth xs k != nth ys k) = false := by simp [he]
          clear he
          go_wp2
          go_quiet (fail)
          go_wp2
          go_roundw
          case rel => exact ⟨k + 1, by omega, by go_num, Lib.hid (fun i hi => by by_cases e : i = k; (· subst e; exact HE.out); (· exact hs.out i (by omega))), hf.drewN _⟩
          case measure => simp [intOf]; omega
        · have HE := Lib.hid he
          have hb : (nth xs k != nth ys k) = true := by simp [he]
          clear he
          go_wp2
          go_quiet (fail)
          go_wp2
          go_ret
          exact ⟨ret_bool (by symm; rw [decide_eq_false_iff_not]; intro e; exact HE.out (by rw [e])), hf.drewN _⟩
      · go_wp2
        go_ret
        have : k = n := by omega
        subst this
        exact ⟨ret_bool (by symm; rw [decide_eq_true_eq]; exact sameTo_all (by rw [Hxl.out, Hyl.out]) (by rw [Hxl.out]; exact hs.out)), hf⟩
  · have hb : ((n : Int) != (m : Int)) = true := by simp; omega
    have HN := Lib.hid hne
    clear hne
    go_enter Try.func26, Try.ntmps26
    go_wp2
    go_ret
    exact ⟨ret_bool (by symm; rw [decide_eq_false_iff_not]; intro e; exact HN.out (by rw [← Hxl.out, ← Hyl.out, e])), Qt.refl _⟩

theorem eqIntS_any (w : World) (a b : Option Addr) (n c m d : Nat) (xs ys : List Int) (h : SL w a n c xs) (k : SL w b m d ys) :
    Calls Try.prog 26 #[.slice a n c, .slice b m d] w fun e w' => e = .returned (.bool (decide (xs = ys))) ∧ Fr w w' := toFrQ (eqIntS_qt w a b n c m d xs ys h k)

/-- k, k + 1, ..: n numbers. -/
def marks (k : Int) (n : Nat) : List Int := (List.range n).map fun i : Nat => k + (i : Int)
theorem marks_len (k : Int) (n : Nat) : (marks k n).length = n := by simp [marks]
theorem marks_nth (k : Int) (n i : Nat) (h : i < n) : nth (marks k n) i = k + i := by simp [nth, marks, h]
theorem marks_snoc (k : Int) (n : Nat) : marks k (n+1) = marks k n ++ [k + (n : Int)] := by simp [marks, List.range_succ]
theorem mark_step (xs : List Int) (k : Int) (n j : Nat) (hn : xs.length = n) (hj : j < n) :
    (marks k j ++ xs.drop j).set j (k + j) = marks k (j + 1) ++ xs.drop (j + 1) := by
  rw [List.set_append_right _ _ (by simp [marks_len]), marks_len, Nat.sub_self, marks_snoc, List.drop_eq_getElem_cons (by omega)]
  rw [List.set_cons_zero, List.append_assoc]; rfl

theorem markIntS_any (B : Nat) (w : World) (a : Option Addr) (n c : Nat) (xs : List Int) (k : Int) (ho : Own B w a n c xs) (h0 : 0 ≤ k) (h1 : k ≤ 1000000000000) (h2 : n ≤ 1000000000000) :
    Calls Try.prog 28 #[.slice a n c, .int .i64 k] w fun e w' => e = .returned (.int .i64 (k + n)) ∧ Own B w' a n c (marks k n) ∧ w.grownBy w' (blkOf a) := by
  have Hl := Lib.hid ho.len
  go_enter Try.func28, Try.ntmps28
  go_wp2
  go_loopw [1, 5] (fun q i wr => ∃ j : Nat, j ≤ n ∧ i = .int .i64 j ∧ q = .int .i64 (k + j) ∧ Own B wr a n c (marks k j ++ xs.drop j) ∧ w.grownBy wr (blkOf a)) (fun _ i _ => n - (intOf i).toNat)
  case atStart => exact ⟨0, Nat.zero_le _, rfl, by simp, by simpa [marks] using ho, grownBy_refl _ _⟩
  case round =>
    clear ho
    obtain ⟨j, hj, rfl, rfl, ho, hg⟩ := hrel
    by_cases hlt : j < n
    · obtain ⟨g, rfl, hB, hlt2, hcell, hfro⟩ := ho.op (by omega)
      have hcell := hcell j hlt
      have hfro := hfro j
      go_wp2
      go_roundw
      case rel =>
        refine ⟨j + 1, by omega, by go_num, by go_num, ?_, grownBy_setCell hg (p := ⟨g, j, none⟩) rfl _⟩
        rw [← mark_step xs k n j Hl.out hlt]
        exact ho.set rfl hlt (by unfold I64; omega)
      case measure => simp [intOf]; omega
    · go_wp2
      go_ret
      have : j = n := by omega
      subst this
      rw [List.drop_eq_nil_of_le (by rw [Hl.out]; omega), List.append_nil] at ho
      exact ⟨rfl, ho, hg⟩

/-- What heldIntS answers of marks that stand. -/
theorem heldIntS_any (w : World) (a : Option Addr) (n c : Nat) (k : Int) (h : SL w a n c (marks k n)) (h0 : 0 ≤ k) (h1 : k ≤ 1000000000000) (h2 : n ≤ 1000000000000) :
    Calls Try.prog 77 #[.slice a n c, .int .i64 k] w fun e w' => e = .returned (.int .i64 (k + n)) ∧ w = w' := by
  go_enter Try.func77, Try.ntmps77
  go_wp2
  go_loop [1, 5] (fun q i => ∃ j : Nat, j ≤ n ∧ i = .int .i64 j ∧ q = .int .i64 (k + j)) (fun _ i => n - (intOf i).toNat)
  case atStart => exact ⟨0, Nat.zero_le _, rfl, by simp⟩
  case round =>
    obtain ⟨j, hj, rfl, rfl⟩ := hrel
    by_cases hlt : j < n
    · obtain ⟨b, off, rfl, hc0⟩ := h.cells.resolve_left (by omega)
      have hc := hc0 j hlt
      clear hc0
      rw [marks_nth k n j hlt] at hc
      go_wp2
      go_round
      case rel => exact ⟨j + 1, by omega, by go_num, by go_num⟩
      case measure => simp [intOf]; omega
    · go_wp2
      go_ret
      have : j = n := by omega
      subst this
      exact ⟨rfl, rfl⟩

end Go.Proofs.Ytojipjjfndgbhaa
