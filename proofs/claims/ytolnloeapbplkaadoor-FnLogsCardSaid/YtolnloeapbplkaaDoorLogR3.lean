import Derived.Test.YtolnloeapbplkaaDoorLogR2
/- LogRecords: contracts, and the law FnExactLogRecords. -/
set_option linter.unusedVariables false
namespace Go.Proofs.YtolnloeapbplkaaDoor
open Go.ChangeShapes Go.WideShapes Go.ChangeAt Go.RowKit

/-- A new slice of the records of a text, or of none. -/
def RetRs (b : Bool) (s : List UInt8) (w : World) (e : Ending) (w' : World) : Prop :=
  ∃ (a : Option Addr) (n cap : Nat) (xs : List (ByteArray × ByteArray)), e = .returned (.tuple #[.slice a n cap, .bool b]) ∧ OwnR w.heap.size w' a n cap xs ∧ blR xs = (if b = true then rdA s else []) ∧ Fr w w'
theorem Box.grown {w w' : World} {g : Nat} {cs : Array Value} {t : TypeId} {row : Option Nat} (h : Box w g cs t) (hg : w.grownBy w' row) (hr : row ≠ some g) : Box w' g cs t := by
  unfold Box; rw [hg.block g h.lt (Ne.symm hr)]; exact h
set_option maxRecDepth 100000 in
theorem impl_LogRecords_any (d p : ByteArray) (c : Int) (w : World) (hs : d.size + p.size ≤ 1048576) (hE : Env w) :
    Calls Tryd.prog 29 #[.agg #[.string d, .string p, .int .i64 c]] w fun e w' => RetRs (logB (bl d) (bl p) c) (bl d ++ bl p) w e w' := by
  have hfr : Fr w (w.alloc (.cells #[.string d, .string p, .int .i64 c] 33)) := (Fr.refl w).alloc _
  have G0 := Box.new w #[.string d, .string p, .int .i64 c] 33
  have ad := fun (W : World) => run_string_add_sum (P := Tryd.prog) W d p (by omega)
  go_enter Tryd.func29, Tryd.ntmps29
  go_wp2_with fail
  refine (IsValidLog_any d p c _ hs (hE.fr hfr)).mono ?_
  rintro e w1 ⟨rfl, f1⟩
  have c0 := (G0.fr f1).cell (j := 0) (v := .string d) rfl
  have c1 := (G0.fr f1).cell (j := 1) (v := .string p) rfl
  have F1 := hfr.trans f1
  clear G0 f1 hfr
  cases h : logB (bl d) (bl p) c
  · have HB := Lib.hid h
    clear h
    go_wp2
    go_ret2
    exact ⟨none, 0, 0, [], by rw [HB.out]; rfl, OwnR.nil _ _, by rw [HB.out]; rfl, F1⟩
  · have HB := Lib.hid h
    clear h
    go_wp2_with fail
    refine (readRecords_any (d ++ p) _ (by rw [ByteArray.size_append]; omega) (hE.fr F1)).mono ?_
    rintro e w2 ⟨a, n, cap, xs, b, q, rfl, o1, hx, o2, f2⟩
    rw [bl_app] at hx
    go_wp2
    go_ret2
    exact ⟨a, n, cap, xs, by rw [HB.out]; rfl, o1.mono F1.size, by rw [HB.out, if_pos rfl]; exact hx, F1.trans f2⟩
set_option maxRecDepth 100000 in
theorem spec_LogRecords_any (d p : ByteArray) (c : Int) (w : World) (hs : d.size + p.size ≤ 1048576) :
    Calls Tryd.prog 30 #[.agg #[.string d, .string p, .int .i64 c]] w fun e w' => RetRs (logB (bl d) (bl p) c) (bl d ++ bl p) w e w' := by
  have hfr : Fr w (w.alloc (.cells #[.string d, .string p, .int .i64 c] 33)) := (Fr.refl w).alloc _
  have G0 := Box.new w #[.string d, .string p, .int .i64 c] 33
  have ad := fun (W : World) => run_string_add_sum (P := Tryd.prog) W d p (by omega)
  go_enter Tryd.func30, Tryd.ntmps30
  go_wp2_with fail
  refine (l12Valid_any d p c _ hs).mono ?_
  rintro e w1 ⟨rfl, f1⟩
  have c0 := (G0.fr f1).cell (j := 0) (v := .string d) rfl
  have c1 := (G0.fr f1).cell (j := 1) (v := .string p) rfl
  have F1 := hfr.trans f1
  clear G0 f1 hfr
  cases h : logB (bl d) (bl p) c
  · have HB := Lib.hid h
    clear h
    go_wp2
    go_ret2
    exact ⟨_, 0, 0, [], by rw [HB.out]; rfl, OwnR.made0 _ F1.size, by rw [HB.out]; rfl, F1.alloc _⟩
  · have HB := Lib.hid h
    clear h
    go_wp2_with fail
    refine (l12Open_any (d ++ p) _ (by rw [ByteArray.size_append]; omega)).mono ?_
    rintro e w2 ⟨a, n, cap, xs, rfl, o1, hx, f2⟩
    rw [bl_app] at hx
    go_wp2
    go_ret2
    exact ⟨a, n, cap, xs, by rw [HB.out]; rfl, o1.mono F1.size, by rw [HB.out, if_pos rfl]; exact hx, F1.trans f2⟩
set_option maxRecDepth 100000 in
theorem walk_FnExactLogRecords (s t : ByteArray) (k : Int) (w : World) (hE : Env w) (hs : s.size ≤ maxLen) (ht : t.size ≤ maxLen) (hk : I64 k) :
    Calls Tryd.prog 12 #[.agg #[.string s, .string t, .int .i64 k]] w fun e w' => e = .returned (.bool true) ∧ Fr w w' := by
  unfold maxLen at hs ht
  have hfr : Fr w (w.alloc (.cells #[.string s, .string t, .int .i64 k] 57)) := (Fr.refl w).alloc _
  have B0 := Box.new w #[.string s, .string t, .int .i64 k] 57
  by_cases hz : szR s.size t.size 1048576 < 0
  · go_enter Tryd.func12, Tryd.ntmps12
    go_wp2_with fail
    refine (szLog_any s t k _ _ (by omega) (by omega) (by omega) (by omega)).mono ?_
    rintro e w1 ⟨rfl, f1⟩
    go_wp2
    go_ret
    exact ⟨rfl, hfr.trans f1⟩
  · obtain ⟨z1, z2, _⟩ := szR_fit hz
    have z3 : s.size + t.size ≤ 1048576 := by omega
    go_enter Tryd.func12, Tryd.ntmps12
    go_wp2_with fail
    refine (szLog_any s t k _ _ (by omega) (by omega) (by omega) (by omega)).mono ?_
    rintro e w1 ⟨rfl, f1⟩
    generalize szR s.size t.size 1048576 = zz at hz ⊢
    replace B0 := B0.fr f1
    have F := hfr.trans f1
    clear f1 hfr z1 z2
    have c0 := B0.cell (j := 0) (v := .string s) rfl; have c1 := B0.cell (j := 1) (v := .string t) rfl; have c2 := B0.cell (j := 2) (v := .int .i64 k) rfl
    go_wp2_with fail
    refine (toLog_any s t k _).mono ?_
    rintro e w2 ⟨rfl, f2⟩
    have SP := Lib.hid (fun W => spec_LogRecords_any s t k W z3)
    have IM := Lib.hid (fun W h => impl_LogRecords_any s t k W z3 h)
    have hlen : Hid (∀ xs : List (ByteArray × ByteArray), blR xs = (if logB (bl s) (bl t) k = true then rdA (bl s ++ bl t) else []) → xs.length ≤ 60) := Lib.hid (fun xs hx => by
      rw [← blR_len, hx]
      split
      · exact rdL_len 60 0 _
      · simp)
    generalize logB (bl s) (bl t) k = V at SP IM hlen
    generalize bl s ++ bl t = ST at SP IM hlen
    go_wp2_with fail
    refine (SP.out _).mono ?_
    rintro e w3 ⟨a, n, cap, xs, rfl, o1, hx, f3⟩
    have hn := hlen.out xs hx
    rw [o1.len] at hn
    have hb1 := o1.blk
    replace B0 := (B0.fr f2).fr f3
    have nz := F.size
    have nz2 := f2.size
    have nz3 := B0.lt
    replace F := (F.trans f2).trans f3
    clear c0 c1 c2 SP f2 f3
    have c0 := B0.cell (j := 0) (v := .string s) rfl; have c1 := B0.cell (j := 1) (v := .string t) rfl; have c2 := B0.cell (j := 2) (v := .int .i64 k) rfl
    go_wp2_with fail
    refine (toLog_any s t k _).mono ?_
    rintro e w4 ⟨rfl, f4⟩
    go_wp2_with fail
    refine (IM.out _ (hE.fr (F.trans f4))).mono ?_
    rintro e w5 ⟨a', n', cap', ys, rfl, o2, hy, f5⟩
    obtain rfl : xs = ys := blR_inj (hx.trans hy.symm)
    obtain rfl : n = n' := by rw [← o1.len, ← o2.len]
    have z5 := f4.size
    have hb2 := o2.blk
    have hd1 : blkOf a = none ∨ blkOf a ≠ blkOf a' := by
      cases e : blkOf a with
      | none => exact .inl rfl
      | some q => exact .inr (fun e2 => by have := hb1 q e; have := hb2 q e2.symm; omega)
    have hd0 : blkOf a' ≠ some w.heap.size := fun e2 => by have := hb2 _ e2; omega
    have hd2 : ∀ q, blkOf a' = some q → w.heap.size ≤ q := fun q e2 => by have := hb2 _ e2; omega
    replace B0 := (B0.fr f4).fr f5
    replace o1 := (o1.fr f4).fr f5
    replace F := (F.trans f4).trans f5
    clear c0 c1 c2 f4 f5 hb1 hb2 nz nz2 nz3 z5
    go_wp2_with fail
    refine (eqLogRecordS_same _ _ _ _ _ _ _ _ _ o2 o1).mono ?_
    rintro e w6 ⟨rfl, f6⟩
    go_wp2_with fail
    refine (markLogRecordS_any _ _ _ _ _ _ 1 (o2.fr f6) (by omega) (by omega)).mono ?_
    rintro e w7 ⟨rfl, o3, g7⟩
    replace B0 := (B0.fr f6).grown g7 hd0
    replace o1 := (o1.fr f6).grown g7 hd1
    replace F := (F.trans f6).grown g7 hd2
    clear o2 f6 g7 hd0 hd1 hd2
    go_wp2_with fail
    refine (heldLogRecordS_any _ _ _ _ _ 1 o3 (by omega) (by omega)).mono ?_
    rintro e w8 ⟨rfl, f8⟩
    replace B0 := B0.fr f8
    replace o1 := o1.fr f8
    replace o3 := o3.fr f8
    replace F := F.trans f8
    clear f8
    have c0 := B0.cell (j := 0) (v := .string s) rfl; have c1 := B0.cell (j := 1) (v := .string t) rfl; have c2 := B0.cell (j := 2) (v := .int .i64 k) rfl
    obtain ⟨m, hm⟩ : ∃ m : Int, ((1 + 2 * n : Nat) : Int) = m := ⟨_, rfl⟩
    have hm0 : ¬ m < 0 := by omega
    rw [hm]
    go_wp2_with fail
    refine (toLog_any s t k _).mono ?_
    rintro e w9 ⟨rfl, f9⟩
    go_wp2_with fail
    refine (IM.out _ (hE.fr (F.trans f9))).mono ?_
    rintro e w10 ⟨a2, n2, cap2, ys, rfl, o4, hy2, f10⟩
    obtain rfl : xs = ys := blR_inj (hx.trans hy2.symm)
    obtain rfl : n = n2 := by rw [← o1.len, ← o4.len]
    replace o1 := (o1.fr f9).fr f10
    replace o3 := (o3.fr f9).fr f10
    replace F := (F.trans f9).trans f10
    clear c0 c1 c2 f9 f10 B0
    go_wp2_with fail
    refine (eqLogRecordS_same _ _ _ _ _ _ _ _ _ o4 o1).mono ?_
    rintro e w11 ⟨rfl, f11⟩
    go_wp2_with fail
    refine (heldLogRecordS_any _ _ _ _ _ 1 (o3.fr f11) (by omega) (by omega)).mono ?_
    rintro e w12 ⟨rfl, f12⟩
    rw [hm]
    go_wp2
    go_ret
    exact ⟨rfl, (F.trans f11).trans f12⟩
end Go.Proofs.YtolnloeapbplkaaDoor
