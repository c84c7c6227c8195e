import Derived.Test.YtolnloeapbplkaaDoorLog
/- SyncLog and RecoverLog. -/
set_option linter.unusedVariables false
namespace Go.Proofs.YtolnloeapbplkaaDoor
open Go.ChangeShapes Go.WideShapes Go.ChangeAt Go.RowKit

theorem results_LB {fn : Func} {k r : Nat} (hr : fn.results = #[.cell k 33, .tmp r]) (tmps : Array Value) (w : World) (g : Nat) (v0 v1 v2 b : Value) (h : tmps[k]?.getD undef = .pointer (some ⟨g, 0, none⟩)) (hb : tmps[r]?.getD undef = b)
    (hB : Box w g #[v0, v1, v2] 33) : (results fn tmps).run Tryd.prog w = .ok (.tuple #[.agg #[v0, v1, v2], b]) w := by
  have h0 := hB.cell (j := 0) (v := v0) rfl
  have h1 := hB.cell (j := 1) (v := v1) rfl
  have h2 := hB.cell (j := 2) (v := v2) rfl
  simp [results, hr, go_sem, h, hb, h0, h1, h2]
theorem results_LIB {fn : Func} {k r q : Nat} (hr : fn.results = #[.cell k 33, .tmp r, .tmp q]) (tmps : Array Value) (w : World) (g : Nat) (v0 v1 v2 b c : Value) (h : tmps[k]?.getD undef = .pointer (some ⟨g, 0, none⟩)) (hb : tmps[r]?.getD undef = b) (hc : tmps[q]?.getD undef = c)
    (hB : Box w g #[v0, v1, v2] 33) : (results fn tmps).run Tryd.prog w = .ok (.tuple #[.agg #[v0, v1, v2], b, c]) w := by
  have h0 := hB.cell (j := 0) (v := v0) rfl
  have h1 := hB.cell (j := 1) (v := v1) rfl
  have h2 := hB.cell (j := 2) (v := v2) rfl
  simp [results, hr, go_sem, h, hb, hc, h0, h1, h2]
/-- A log as a value. -/
def lgV (d p : ByteArray) (c : Int) : Value := .agg #[.string d, .string p, .int .i64 c]
def e0 : ByteArray := ⟨#[]⟩
/-- What SyncLog returns. -/
def syncV (d p : ByteArray) (c : Int) : ByteArray × Int := if logB (bl d) (bl p) c = true then (d ++ p, c) else (e0, 0)
set_option maxRecDepth 100000 in
theorem impl_SyncLog_any (d p : ByteArray) (c : Int) (w : World) (hs : d.size + p.size ≤ 1048576) (hE : Env w) :
    Calls Tryd.prog 27 #[.agg #[.string d, .string p, .int .i64 c]] w fun e w' => e = .returned (.tuple #[.agg #[.string (syncV d p c).1, .string e0, .int .i64 (syncV d p c).2], .bool (logB (bl d) (bl p) c)]) ∧ Fr w w' := by
  have hfr : Fr w ((w.alloc (.cells #[.string d, .string p, .int .i64 c] 33)).alloc (.cells #[.string e0, .string e0, .int .i64 0] 33)) := ((Fr.refl w).alloc _).alloc _
  have G0 := (Box.new w #[.string d, .string p, .int .i64 c] 33).fr ((Fr.refl _).alloc (.cells #[.string e0, .string e0, .int .i64 0] 33))
  have G1 := Box.new (w.alloc (.cells #[.string d, .string p, .int .i64 c] 33)) #[.string e0, .string e0, .int .i64 0] 33
  rw [show (w.alloc (.cells #[.string d, .string p, .int .i64 c] 33)).heap.size = w.heap.size + 1 by simp] at G1
  have c0 := G0.cell (j := 0) (v := .string d) rfl
  have c1 := G0.cell (j := 1) (v := .string p) rfl
  have c2 := G0.cell (j := 2) (v := .int .i64 c) rfl
  have HE := Lib.hid (hE.fr hfr)
  have hap := apply_size d p
  go_enter Tryd.func27, Tryd.ntmps27
  go_wp2_with fail
  first
    | refine (IsValidLog_any d p c _ hs HE.out).mono ?_
    | refine (l12Valid_any d p c _ hs).mono ?_
  rintro e w1 ⟨rfl, f1⟩
  replace G1 := G1.fr f1
  replace c0 := f1.keep c0; replace c1 := f1.keep c1; replace c2 := f1.keep c2
  have i0 := G1.free 0; have i1 := G1.free 1; have i2 := G1.free 2
  have j0 := G1.cell (j := 0) (v := .string e0) rfl; have j1 := G1.cell (j := 1) (v := .string e0) rfl; have j2 := G1.cell (j := 2) (v := .int .i64 0) rfl
  have HG := Lib.hid G1
  have HF := Lib.hid (hfr.trans f1)
  have a1 := fun W => run_string_add_sum (P := Tryd.prog) W d p (by omega)
  clear G0 G1 hE f1 hfr
  unfold e0 at j0 j1
  cases hb : logB (bl d) (bl p) c
  · have HV : Hid (syncV d p c = (e0, 0)) := Lib.hid (by rw [syncV, hb]; rfl)
    have HB := Lib.hid hb
    clear hb
    go_wp2
    refine bodyPost_ret (results_LB Tryd.results27 _ _ (w.heap.size + 1) _ _ _ _ rfl rfl (HG.out.set3 _ _ _)) rfl ?_
    exact ⟨by rw [HV.out, HB.out]; rfl, HF.out.set3 (Nat.le_succ _) _ _ _⟩
  · have HV : Hid (syncV d p c = (d ++ p, c)) := Lib.hid (by rw [syncV, hb]; rfl)
    have HB := Lib.hid hb
    clear hb
    go_wp2
    refine bodyPost_ret (results_LB Tryd.results27 _ _ (w.heap.size + 1) _ _ _ _ rfl rfl (HG.out.set3 _ _ _)) rfl ?_
    exact ⟨by rw [HV.out, HB.out]; rfl, HF.out.set3 (Nat.le_succ _) _ _ _⟩

set_option maxRecDepth 100000 in
theorem spec_SyncLog_any (d p : ByteArray) (c : Int) (w : World) (hs : d.size + p.size ≤ 1048576) (hE : Env w) :
    Calls Tryd.prog 28 #[.agg #[.string d, .string p, .int .i64 c]] w fun e w' => e = .returned (.tuple #[.agg #[.string (syncV d p c).1, .string e0, .int .i64 (syncV d p c).2], .bool (logB (bl d) (bl p) c)]) ∧ Fr w w' := by
  have hfr : Fr w ((w.alloc (.cells #[.string d, .string p, .int .i64 c] 33)).alloc (.cells #[.string e0, .string e0, .int .i64 0] 33)) := ((Fr.refl w).alloc _).alloc _
  have G0 := (Box.new w #[.string d, .string p, .int .i64 c] 33).fr ((Fr.refl _).alloc (.cells #[.string e0, .string e0, .int .i64 0] 33))
  have G1 := Box.new (w.alloc (.cells #[.string d, .string p, .int .i64 c] 33)) #[.string e0, .string e0, .int .i64 0] 33
  rw [show (w.alloc (.cells #[.string d, .string p, .int .i64 c] 33)).heap.size = w.heap.size + 1 by simp] at G1
  have c0 := G0.cell (j := 0) (v := .string d) rfl
  have c1 := G0.cell (j := 1) (v := .string p) rfl
  have c2 := G0.cell (j := 2) (v := .int .i64 c) rfl
  have HE := Lib.hid (hE.fr hfr)
  have hap := apply_size d p
  go_enter Tryd.func28, Tryd.ntmps28
  go_wp2_with fail
  first
    | refine (IsValidLog_any d p c _ hs HE.out).mono ?_
    | refine (l12Valid_any d p c _ hs).mono ?_
  rintro e w1 ⟨rfl, f1⟩
  replace G1 := G1.fr f1
  replace c0 := f1.keep c0; replace c1 := f1.keep c1; replace c2 := f1.keep c2
  have i0 := G1.free 0; have i1 := G1.free 1; have i2 := G1.free 2
  have j0 := G1.cell (j := 0) (v := .string e0) rfl; have j1 := G1.cell (j := 1) (v := .string e0) rfl; have j2 := G1.cell (j := 2) (v := .int .i64 0) rfl
  have HG := Lib.hid G1
  have HF := Lib.hid (hfr.trans f1)
  have a1 := fun W => run_string_add_sum (P := Tryd.prog) W d p (by omega)
  clear G0 G1 hE f1 hfr
  unfold e0 at j0 j1
  cases hb : logB (bl d) (bl p) c
  · have HV : Hid (syncV d p c = (e0, 0)) := Lib.hid (by rw [syncV, hb]; rfl)
    have HB := Lib.hid hb
    clear hb
    go_wp2
    refine bodyPost_ret (results_LB Tryd.results28 _ _ (w.heap.size + 1) _ _ _ _ rfl rfl (HG.out.set3 _ _ _)) rfl ?_
    exact ⟨by rw [HV.out, HB.out]; rfl, HF.out.set3 (Nat.le_succ _) _ _ _⟩
  · have HV : Hid (syncV d p c = (d ++ p, c)) := Lib.hid (by rw [syncV, hb]; rfl)
    have HB := Lib.hid hb
    clear hb
    go_wp2
    refine bodyPost_ret (results_LB Tryd.results28 _ _ (w.heap.size + 1) _ _ _ _ rfl rfl (HG.out.set3 _ _ _)) rfl ?_
    exact ⟨by rw [HV.out, HB.out]; rfl, HF.out.set3 (Nat.le_succ _) _ _ _⟩

theorem rdA_end (s : List UInt8) : (lns 0 (rdA s)).length ≤ s.length := by
  obtain ⟨t, ht⟩ := rdL_pre 60 0 s
  have := congrArg List.length ht
  rw [List.length_append] at this
  unfold rdA; omega
/-- What RecoverLog returns. -/
def recN (s : List UInt8) : Nat := if s.length ≤ 30000 then (lns 0 (rdA s)).length else 0
def recC (s : List UInt8) : Nat := if s.length ≤ 30000 then (rdA s).length else 0
def recL (s : ByteArray) : ByteArray := if s.size ≤ 30000 then s.extract 0 (lns 0 (rdA (bl s))).length else e0
def RetRec (s : ByteArray) (w : World) (e : Ending) (w' : World) : Prop :=
  e = .returned (.tuple #[.agg #[.string (recL s), .string e0, .int .i64 (recC (bl s) : Nat)], .int .i64 (recN (bl s) : Nat), .bool (decide (s.size ≤ 30000))]) ∧ Fr w w'
set_option maxRecDepth 100000 in
theorem impl_RecoverLog_any (s : ByteArray) (w : World) (hs : s.size ≤ 9223372036854775807) (hE : Env w) :
    Calls Tryd.prog 36 #[.string s] w fun e w' => RetRec s w e w' := by
  have hfr : Fr w (w.alloc (.cells #[.string e0, .string e0, .int .i64 0] 33)) := (Fr.refl w).alloc _
  have G0 := Box.new w #[.string e0, .string e0, .int .i64 0] 33
  have HE := Lib.hid (hE.fr hfr)
  have hl := bl_len s
  by_cases hz : s.size ≤ 30000
  · have hzi : ¬ (30000 : Int) < (s.size : Int) := by omega
    have HN : Hid (recN (bl s) = (lns 0 (rdA (bl s))).length) := Lib.hid (by rw [recN, hl, if_pos hz])
    have HC : Hid (recC (bl s) = (rdA (bl s)).length) := Lib.hid (by rw [recC, hl, if_pos hz])
    have HL : Hid (recL s = s.extract 0 (lns 0 (rdA (bl s))).length) := Lib.hid (by rw [recL, if_pos hz])
    have HD : Hid (decide (s.size ≤ 30000) = true) := Lib.hid (decide_eq_true hz)
    have hend : (lns 0 (rdA (bl s))).length ≤ s.size := by rw [← hl]; exact rdA_end _
    clear hl
    go_enter Tryd.func36, Tryd.ntmps36
    go_wp2_with fail
    refine (readRecords_any s _ (by omega) HE.out).mono ?_
    rintro e w1 ⟨a1, n1, p1, xs, b1, d1, rfl, ho, hx, hb, f1⟩
    have hn : n1 = (rdA (bl s)).length := by rw [← hx, blR_len, ho.len]
    obtain ⟨g, rfl, hg, hgl, hcs, _⟩ := hb.op (by omega)
    have hlast := hcs n1 (by omega)
    have hne : nth (endsL (rdA (bl s))) n1 = ((lns 0 (rdA (bl s))).length : Nat) := by rw [hn, endsL_last]
    rw [hne] at hlast
    rw [← hn] at HC
    have hnn : n1 ≤ 60 := by rw [hn]; exact rdL_len 60 0 _
    have hidx : (n1 : Int) < ((n1 + 1 : Nat) : Int) := by omega
    replace G0 := G0.fr f1
    have HG := Lib.hid G0
    have HF := Lib.hid (hfr.trans f1)
    have i0 := G0.free 0; have i1 := G0.free 1; have i2 := G0.free 2
    have j0 := G0.cell (j := 0) (v := .string e0) rfl; have j1 := G0.cell (j := 1) (v := .string e0) rfl; have j2 := G0.cell (j := 2) (v := .int .i64 0) rfl
    unfold e0 at j0 j1
    clear hn hx ho hb hcs hne G0 hfr f1 hE
    generalize (lns 0 (rdA (bl s))).length = E1 at *
    go_wp2
    refine bodyPost_ret (results_LIB Tryd.results36 _ _ w.heap.size _ _ _ _ _ rfl rfl rfl (HG.out.set3 _ _ _)) rfl ?_
    exact ⟨by rw [HN.out, HC.out, HL.out, HD.out]; rfl, HF.out.set3 (Nat.le_refl _) _ _ _⟩
  · have hzi : (30000 : Int) < (s.size : Int) := by omega
    have HN : Hid (recN (bl s) = 0) := Lib.hid (by rw [recN, hl, if_neg hz])
    have HC : Hid (recC (bl s) = 0) := Lib.hid (by rw [recC, hl, if_neg hz])
    have HL : Hid (recL s = e0) := Lib.hid (by rw [recL, if_neg hz])
    have HD : Hid (decide (s.size ≤ 30000) = false) := Lib.hid (decide_eq_false hz)
    have HG := Lib.hid G0
    have HF := Lib.hid hfr
    have i0 := G0.free 0; have i1 := G0.free 1; have i2 := G0.free 2
    clear hl G0 hfr hE
    go_enter Tryd.func36, Tryd.ntmps36
    go_wp2
    refine bodyPost_ret (results_LIB Tryd.results36 _ _ w.heap.size _ _ _ _ _ rfl rfl rfl HG.out) rfl ?_
    exact ⟨by rw [HN.out, HC.out, HL.out, HD.out]; rfl, HF.out⟩

set_option maxRecDepth 100000 in
theorem spec_RecoverLog_any (s : ByteArray) (w : World) (hs : s.size ≤ 9223372036854775807) :
    Calls Tryd.prog 37 #[.string s] w fun e w' => RetRec s w e w' := by
  have hfr : Fr w (w.alloc (.cells #[.string e0, .string e0, .int .i64 0] 33)) := (Fr.refl w).alloc _
  have G0 := Box.new w #[.string e0, .string e0, .int .i64 0] 33
  have hl := bl_len s
  by_cases hz : s.size ≤ 30000
  · have hzi : ¬ (30000 : Int) < (s.size : Int) := by omega
    have HN : Hid (recN (bl s) = (lns 0 (rdA (bl s))).length) := Lib.hid (by rw [recN, hl, if_pos hz])
    have HC : Hid (recC (bl s) = (rdA (bl s)).length) := Lib.hid (by rw [recC, hl, if_pos hz])
    have HL : Hid (recL s = s.extract 0 (lns 0 (rdA (bl s))).length) := Lib.hid (by rw [recL, if_pos hz])
    have HD : Hid (decide (s.size ≤ 30000) = true) := Lib.hid (decide_eq_true hz)
    have hend : (lns 0 (rdA (bl s))).length ≤ s.size := by rw [← hl]; exact rdA_end _
    clear hl
    go_enter Tryd.func37, Tryd.ntmps37
    go_wp2_with fail
    refine (l12Open_any s _ (by omega)).mono ?_
    rintro e w1 ⟨a1, n1, p1, xs, rfl, ho, hx, f1⟩
    have hn : n1 = (rdA (bl s)).length := by rw [← hx, blR_len, ho.len]
    rw [← hn] at HC
    replace G0 := G0.fr f1
    have HG := Lib.hid G0
    have HF := Lib.hid (hfr.trans f1)
    have i0 := G0.free 0; have i1 := G0.free 1; have i2 := G0.free 2
    have j0 := G0.cell (j := 0) (v := .string e0) rfl; have j1 := G0.cell (j := 1) (v := .string e0) rfl; have j2 := G0.cell (j := 2) (v := .int .i64 0) rfl
    unfold e0 at j0 j1
    clear hn hx ho G0 hfr f1
    generalize (lns 0 (rdA (bl s))).length = E1 at *
    go_wp2
    refine bodyPost_ret (results_LIB Tryd.results37 _ _ w.heap.size _ _ _ _ _ rfl rfl rfl (HG.out.set3 _ _ _)) rfl ?_
    exact ⟨by rw [HN.out, HC.out, HL.out, HD.out]; rfl, HF.out.set3 (Nat.le_refl _) _ _ _⟩
  · have hzi : (30000 : Int) < (s.size : Int) := by omega
    have HN : Hid (recN (bl s) = 0) := Lib.hid (by rw [recN, hl, if_neg hz])
    have HC : Hid (recC (bl s) = 0) := Lib.hid (by rw [recC, hl, if_neg hz])
    have HL : Hid (recL s = e0) := Lib.hid (by rw [recL, if_neg hz])
    have HD : Hid (decide (s.size ≤ 30000) = false) := Lib.hid (decide_eq_false hz)
    have HG := Lib.hid G0
    have HF := Lib.hid hfr
    clear hl G0 hfr
    go_enter Tryd.func37, Tryd.ntmps37
    go_wp2
    refine bodyPost_ret (results_LIB Tryd.results37 _ _ w.heap.size _ _ _ _ _ rfl rfl rfl HG.out) rfl ?_
    exact ⟨by rw [HN.out, HC.out, HL.out, HD.out]; rfl, HF.out⟩

end Go.Proofs.YtolnloeapbplkaaDoor
