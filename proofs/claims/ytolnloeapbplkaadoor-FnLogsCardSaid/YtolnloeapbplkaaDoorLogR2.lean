import Derived.Test.YtolnloeapbplkaaDoorLogR
import Derived.StillTailTactics
import Derived.Deep.RegionHeld3
/- Contracts of LogRecords and of the laws' helpers for slices of records. -/
set_option linter.unusedVariables false
namespace Go.Proofs.YtolnloeapbplkaaDoor
open Go.ChangeShapes Go.WideShapes Go.ChangeAt Go.RowKit

theorem rcells_set0 (xs : List (ByteArray × ByteArray)) (i : Nat) (y : ByteArray) (h : i < xs.length) : (rcells xs).set (i * 2) (.string y) = rcells (xs.set i (y, (nthRB xs i).2)) := by
  induction xs generalizing i with
  | nil => simp at h
  | cons x r ih =>
    cases i with
    | zero => simp [rcells, nthRB]
    | succ i =>
      have h2 := ih i (by simpa using h)
      have e1 : (i + 1) * 2 = i * 2 + 2 := by omega
      have h3 : nthRB (x :: r) (i + 1) = nthRB r i := by simp [nthRB]
      rw [e1, h3]
      simpa [rcells] using h2
theorem rcells_set1 (xs : List (ByteArray × ByteArray)) (i : Nat) (y : ByteArray) (h : i < xs.length) : (rcells xs).set (i * 2 + 1) (.string y) = rcells (xs.set i ((nthRB xs i).1, y)) := by
  induction xs generalizing i with
  | nil => simp at h
  | cons x r ih =>
    cases i with
    | zero => simp [rcells, nthRB]
    | succ i =>
      have h2 := ih i (by simpa using h)
      have e1 : (i + 1) * 2 + 1 = i * 2 + 1 + 2 := by omega
      have h3 : nthRB (x :: r) (i + 1) = nthRB r i := by simp [nthRB]
      rw [e1, h3]
      simpa [rcells] using h2
theorem OwnR.frz {B : Nat} {w : World} {g n cap : Nat} {xs : List (ByteArray × ByteArray)} (h : OwnR B w (some ⟨g, 0, none⟩) n cap xs) (i : Nat) : w.frozen? ⟨g, i, none⟩ = false := by
  rcases h.row.2 with ⟨h2, _⟩ | ⟨g', cap', cur, h2, h3, h4, h5⟩
  · cases h2
  · simp only [Value.slice.injEq, Option.some.injEq, Addr.mk.injEq, and_true] at h2
    obtain ⟨rfl, _⟩ := h2
    unfold World.frozen?; rw [h4]; rfl
theorem OwnR.set0 {B : Nat} {w : World} {g n cap : Nat} {xs : List (ByteArray × ByteArray)} (h : OwnR B w (some ⟨g, 0, none⟩) n cap xs) {i : Nat} (hi : i < n) (y : ByteArray) :
    OwnR B (w.setCell ⟨g, i * 2, none⟩ (.string y)) (some ⟨g, 0, none⟩) n cap (xs.set i (y, (nthRB xs i).2)) := by
  have hl := h.len
  rcases h.row.2 with ⟨h2, _⟩ | ⟨g', cap', cur, h2, h3, h4, h5, h6, h7, h8⟩
  · cases h2
  · have h2' := h2
    simp only [Value.slice.injEq, Option.some.injEq, Addr.mk.injEq, and_true, true_and] at h2'
    obtain ⟨rfl, rfl⟩ := h2'
    refine ⟨⟨by rw [rcells_len, List.length_set, hl], .inr ⟨g, cap, cur.setIfInBounds (i * 2) (.string y), rfl, h3, ?_, h5, h6, by simpa using h7, ?_⟩⟩⟩
    · simp [World.setCell, Array.getElem?_modify, h4]
    · rw [Array.toList_setIfInBounds, ← rcells_set0 _ _ _ (by omega), ← h8, List.take_set]
theorem OwnR.set1 {B : Nat} {w : World} {g n cap : Nat} {xs : List (ByteArray × ByteArray)} (h : OwnR B w (some ⟨g, 0, none⟩) n cap xs) {i : Nat} (hi : i < n) (y : ByteArray) :
    OwnR B (w.setCell ⟨g, i * 2 + 1, none⟩ (.string y)) (some ⟨g, 0, none⟩) n cap (xs.set i ((nthRB xs i).1, y)) := by
  have hl := h.len
  rcases h.row.2 with ⟨h2, _⟩ | ⟨g', cap', cur, h2, h3, h4, h5, h6, h7, h8⟩
  · cases h2
  · have h2' := h2
    simp only [Value.slice.injEq, Option.some.injEq, Addr.mk.injEq, and_true, true_and] at h2'
    obtain ⟨rfl, rfl⟩ := h2'
    refine ⟨⟨by rw [rcells_len, List.length_set, hl], .inr ⟨g, cap, cur.setIfInBounds (i * 2 + 1) (.string y), rfl, h3, ?_, h5, h6, by simpa using h7, ?_⟩⟩⟩
    · simp [World.setCell, Array.getElem?_modify, h4]
    · rw [Array.toList_setIfInBounds, ← rcells_set1 _ _ _ (by omega), ← h8, List.take_set]
theorem set_set (xs : List (ByteArray × ByteArray)) (i : Nat) (y z : ByteArray) (h : i < xs.length) : (xs.set i (y, (nthRB xs i).2)).set i ((nthRB (xs.set i (y, (nthRB xs i).2)) i).1, z) = xs.set i (y, z) := by
  rw [List.set_set]
  congr 1
  simp [nthRB, h]
theorem OwnR.nil (B : Nat) (w : World) : OwnR B w none 0 0 [] := ⟨⟨by simp [rcells], .inl ⟨rfl, rfl⟩⟩⟩
/-- Marked records. -/
def mkR (k n : Nat) : List (ByteArray × ByteArray) := (List.range n).map fun i => (mtS (k + 2 * i), mtS (k + 2 * i + 1))
theorem mkR_len (k n : Nat) : (mkR k n).length = n := by simp [mkR]
theorem mkR_nth {k n i : Nat} (h : i < n) : nthRB (mkR k n) i = (mtS (k + 2 * i), mtS (k + 2 * i + 1)) := by simp [nthRB, mkR, h]
theorem mkR_step (xs : List (ByteArray × ByteArray)) (k n j : Nat) (hl : xs.length = n) (h : j < n) : (mkR k j ++ xs.drop j).set j (mtS (k + 2 * j), mtS (k + 2 * j + 1)) = mkR k (j + 1) ++ xs.drop (j + 1) := by
  rw [List.set_append_right _ _ (by rw [mkR_len]; exact Nat.le_refl _), mkR_len, Nat.sub_self, List.drop_eq_getElem_cons (by omega), List.set_cons_zero]
  have e : mkR k (j + 1) = mkR k j ++ [(mtS (k + 2 * j), mtS (k + 2 * j + 1))] := by simp [mkR, List.range_succ]
  rw [e, List.append_assoc]; rfl

theorem eqLogRecord_same (s t : ByteArray) (w : World) :
    Calls Tryd.prog 75 #[.agg #[.string s, .string t], .agg #[.string s, .string t]] w fun e w' => e = .returned (.bool true) ∧ Fr w w' := by
  have hfr : Fr w ((w.alloc (.cells #[.string s, .string t] 25)).alloc (.cells #[.string s, .string t] 25)) := ((Fr.refl w).alloc _).alloc _
  have hb : (s.toList != s.toList) = false := by rw [bne, str_eq]; simp
  have hb2 : (t.toList != t.toList) = false := by rw [bne, str_eq]; simp
  have hc : (s.toList == s.toList) = true := by rw [str_eq]; simp
  have hc2 : (t.toList == t.toList) = true := by rw [str_eq]; simp
  go_enter Tryd.func75, Tryd.ntmps75
  go_wp2
  go_ret
  exact ⟨rfl, hfr⟩
set_option maxRecDepth 100000 in
theorem eqLogRecordS_same (w : World) (B B' : Nat) (a b : Option Addr) (n c d : Nat) (xs : List (ByteArray × ByteArray)) (h : OwnR B w a n c xs) (k : OwnR B' w b n d xs) :
    Calls Tryd.prog 48 #[.slice a n c, .slice b n d] w fun e w' => e = .returned (.bool true) ∧ Fr w w' := by
  have HA := Lib.hid h; have HB := Lib.hid k
  have hn : n ≤ 9223372036854775807 := by
    rcases h.row.2 with ⟨h2, h3⟩ | ⟨g', cap', cur, h2, h3, h4, h5, h6, h7, h8⟩
    · omega
    · unfold maxLen at h6; omega
  clear h k
  go_enter Tryd.func48, Tryd.ntmps48
  go_wp2
  go_loopw [5] (fun i wr => ∃ j : Nat, j ≤ n ∧ i = .int .i64 j ∧ Fr w wr) (fun i _ => n - (intOf i).toNat)
  case atStart => exact ⟨0, Nat.zero_le _, rfl, Fr.refl _⟩
  case round =>
    obtain ⟨j, hj, rfl, hF⟩ := hrel
    by_cases hlt : j < n
    · obtain ⟨g, rfl, _, _, _, hc⟩ := (HA.out.fr hF).op (by omega)
      obtain ⟨g', rfl, _, _, _, hd⟩ := (HB.out.fr hF).op (by omega)
      obtain ⟨c0, c1⟩ := hc j hlt
      obtain ⟨d0, d1⟩ := hd j hlt
      rw [Nat.mul_comm 2 j] at c0 c1 d0 d1
      clear hc hd
      generalize (nthRB xs j).1 = y at c0 d0
      generalize (nthRB xs j).2 = z at c1 d1
      have i1 : (j : Int) < (n : Int) := by omega
      have i0 : (0 : Int) ≤ (j : Int) := by omega
      go_upto_region 6 with fail
      refine wp_region_still_tail 8 (by kernel_rfl) (by kernel_rfl) ?_
      simp only [List.take_succ_cons, List.take_zero, List.drop_succ_cons, List.drop_zero]
      repeat still_step
      refine wpStill_nil ?_
      change wpList _ _ _ _ _ wr.drew
      have hF1 := hF.drew' 1
      clear c0 c1 d0 d1
      go_wp2_with fail
      refine (eqLogRecord_same y z _).mono ?_
      rintro e w2 ⟨rfl, f2⟩
      go_wp2
      go_roundw
      case rel => exact ⟨j + 1, by omega, by go_num, hF1.trans f2⟩
      case measure => simp [intOf]; omega
    · go_wp2
      go_ret
      exact ⟨rfl, hF⟩
set_option maxRecDepth 100000 in
theorem markLogRecordS_any (B : Nat) (w : World) (a : Option Addr) (n c : Nat) (xs : List (ByteArray × ByteArray)) (k : Nat) (ho : OwnR B w a n c xs) (h1 : k ≤ 1000) (h2 : n ≤ 1000) :
    Calls Tryd.prog 49 #[.slice a n c, .int .i64 k] w fun e w' => e = .returned (.int .i64 ((k + 2 * n : Nat) : Int)) ∧ OwnR B w' a n c (mkR k n) ∧ w.grownBy w' (blkOf a) := by
  have Hl := Lib.hid ho.len
  go_enter Tryd.func49, Tryd.ntmps49
  go_wp2
  go_loopw [1, 5] (fun q i wr => ∃ j : Nat, j ≤ n ∧ i = .int .i64 j ∧ q = .int .i64 ((k + 2 * j : Nat) : Int) ∧ OwnR B wr a n c (mkR k j ++ xs.drop j) ∧ w.grownBy wr (blkOf a)) (fun _ i _ => n - (intOf i).toNat)
  case atStart => exact ⟨0, Nat.zero_le _, rfl, by simp, by simpa [mkR] using ho, grownBy_refl _ _⟩
  case round =>
    clear ho
    obtain ⟨j, hj, rfl, rfl, ho, hg⟩ := hrel
    by_cases hlt : j < n
    · obtain ⟨g, rfl, hBg, hlt2, _, hc⟩ := ho.op (by omega)
      obtain ⟨c0, c1⟩ := hc j hlt
      rw [Nat.mul_comm 2 j] at c0 c1
      have HO := Lib.hid ho
      clear hc ho
      have HM0 : Hid (∀ W : World, Calls Tryd.prog 76 #[.int .i64 ((k : Int) + 2 * (j : Int))] W fun e w' => e = .returned (.string (mtS (k + 2 * j))) ∧ Fr W w') := Lib.hid (fun W => markText_any (k + 2 * j) W (by omega))
      have HM1 : Hid (∀ W : World, Calls Tryd.prog 76 #[.int .i64 ((k : Int) + 2 * (j : Int) + 1)] W fun e w' => e = .returned (.string (mtS (k + 2 * j + 1))) ∧ Fr W w') := Lib.hid (fun W => markText_any (k + 2 * j + 1) W (by omega))
      have i1 : (j : Int) < (n : Int) := by omega
      have i0 : (0 : Int) ≤ (j : Int) := by omega
      go_wp2_with fail
      refine (HM0.out _).mono ?_
      rintro e w1 ⟨rfl, f1⟩
      have d0 := f1.keep c0
      have z0 := (HO.out.fr f1).frz (j * 2)
      have O1 := Lib.hid ((HO.out.fr f1).set0 hlt (mtS (k + 2 * j)))
      have g1 := Lib.hid (grownBy_setCell (grownBy_trans hg (f1.grownBy _)) (p := ⟨g, j * 2, none⟩) rfl (.string (mtS (k + 2 * j))))
      clear c0 c1 f1
      go_wp2_with fail
      refine (HM1.out _).mono ?_
      rintro e w2 ⟨rfl, f2⟩
      have O2 := Lib.hid (O1.out.fr f2)
      have g2 := Lib.hid (grownBy_trans g1.out (f2.grownBy _))
      obtain ⟨g', e', _, _, _, hc⟩ := O2.out.op (by omega)
      obtain rfl : g = g' := by simpa using e'
      have d1 := (hc j hlt).2
      rw [Nat.mul_comm 2 j] at d1
      have z1 := O2.out.frz (j * 2 + 1)
      clear d0 z0 f2 hc e'
      go_wp2
      go_roundw
      case rel =>
        refine ⟨j + 1, by omega, by go_num, by go_num, ?_, grownBy_setCell g2.out (p := ⟨g, j * 2 + 1, none⟩) rfl _⟩
        have h := O2.out.set1 hlt (mtS (k + 2 * j + 1))
        rw [set_set _ _ _ _ (by rw [List.length_append, mkR_len, List.length_drop, Hl.out]; omega), mkR_step xs k n j Hl.out hlt] at h
        exact h
      case measure => simp [intOf]; omega
    · go_wp2
      go_ret
      have : j = n := by omega
      subst this
      rw [List.drop_eq_nil_of_le (by rw [Hl.out]; omega), List.append_nil] at ho
      exact ⟨rfl, ho, hg⟩
set_option maxRecDepth 100000 in
theorem heldLogRecordS_any (B : Nat) (w : World) (a : Option Addr) (n c : Nat) (k : Nat) (ho : OwnR B w a n c (mkR k n)) (h1 : k ≤ 1000) (h2 : n ≤ 1000) :
    Calls Tryd.prog 50 #[.slice a n c, .int .i64 k] w fun e w' => e = .returned (.int .i64 ((k + 2 * n : Nat) : Int)) ∧ Fr w w' := by
  have HO := Lib.hid ho
  clear ho
  go_enter Tryd.func50, Tryd.ntmps50
  go_wp2
  go_loopw [1, 5] (fun q i wr => ∃ j : Nat, j ≤ n ∧ i = .int .i64 j ∧ q = .int .i64 ((k + 2 * j : Nat) : Int) ∧ Fr w wr) (fun _ i _ => n - (intOf i).toNat)
  case atStart => exact ⟨0, Nat.zero_le _, rfl, by simp, Fr.refl _⟩
  case round =>
    obtain ⟨j, hj, rfl, rfl, hF⟩ := hrel
    by_cases hlt : j < n
    · obtain ⟨g, rfl, hBg, hlt2, _, hc⟩ := (HO.out.fr hF).op (by omega)
      obtain ⟨c0, c1⟩ := hc j hlt
      rw [Nat.mul_comm 2 j, mkR_nth hlt] at c0 c1
      dsimp only at c0 c1
      clear hc
      have HM0 : Hid (∀ W : World, Calls Tryd.prog 76 #[.int .i64 ((k : Int) + 2 * (j : Int))] W fun e w' => e = .returned (.string (mtS (k + 2 * j))) ∧ Fr W w') := Lib.hid (fun W => markText_any (k + 2 * j) W (by omega))
      have HM1 : Hid (∀ W : World, Calls Tryd.prog 76 #[.int .i64 ((k : Int) + 2 * (j : Int) + 1)] W fun e w' => e = .returned (.string (mtS (k + 2 * j + 1))) ∧ Fr W w') := Lib.hid (fun W => markText_any (k + 2 * j + 1) W (by omega))
      generalize mtS (k + 2 * j) = y at c0 HM0
      generalize mtS (k + 2 * j + 1) = z at c1 HM1
      have hb : (y.toList != y.toList) = false := by rw [bne, str_eq]; simp
      have hb2 : (z.toList != z.toList) = false := by rw [bne, str_eq]; simp
      have hc : (y.toList == y.toList) = true := by rw [str_eq]; simp
      have hc2 : (z.toList == z.toList) = true := by rw [str_eq]; simp
      have i1 : (j : Int) < (n : Int) := by omega
      have i0 : (0 : Int) ≤ (j : Int) := by omega
      go_upto_region 4 with fail
      go_region_held3 (fun w' => w'.cell? ⟨g, j * 2, none⟩ = some (.string y))
        (first | (with_reducible exact f1.keep c0) | go_keep)
        (first | (go_at_call 76; refine (HM0.out _).mono ?_; rintro e w1 ⟨rfl, g1⟩; have f1 : Fr wr w1 := (by first | exact g1 | exact ((Fr.refl wr).drew' 1).trans g1)) | fail)
      replace c1 := f1.keep c1
      clear c0 HM0
      go_upto_region 7 with fail
      go_region_held3 (fun w' => w'.cell? ⟨g, j * 2 + 1, none⟩ = some (.string z))
        (first | (with_reducible exact f2.keep c1) | go_keep)
        (first | (go_at_call 76; refine (HM1.out _).mono ?_; rintro e w2 ⟨rfl, g2⟩; have f2 : Fr w1 w2 := (by first | exact g2 | exact ((Fr.refl w1).drew' 1).trans g2)) | fail)
      clear c1 HM1
      have hF2 := (hF.trans f1).trans f2
      go_wp2
      go_roundw
      case rel => exact ⟨j + 1, by omega, by go_num, by go_num, hF2⟩
      case measure => simp [intOf]; omega
    · go_wp2
      go_ret
      have : j = n := by omega
      subst this
      exact ⟨rfl, hF⟩
end Go.Proofs.YtolnloeapbplkaaDoor
