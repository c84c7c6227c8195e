import Derived.Test.YtolnloeapbplkaaDoorLog3
import Derived.Deep.DeepCutAuto
import Derived.Deep.RegionWith
/- AppendRecord. -/
set_option linter.unusedVariables false
namespace Go.Proofs.YtolnloeapbplkaaDoor
open Go.ChangeShapes Go.WideShapes Go.ChangeAt Go.RowKit

/-- What AppendRecord makes of the pending text and of the count, and its word. -/
def apdV (d p : ByteArray) (c : Int) (s t : ByteArray) : ByteArray × Int × Int :=
  if (logB (bl d) (bl p) c && recB (bl s, bl t)) = true then
    if c = 60 then (p, c, 2) else (p ++ ba (lineS c.toNat (bl s, bl t)), c + 1, 0)
  else (p, c, 1)
theorem logB_cnt {d p : List UInt8} {c : Int} (h : logB d p c = true) : 0 ≤ c ∧ c ≤ 60 := by
  have h1 := (logB_iff.1 h).2.2.2
  have h2 : (rdA (d ++ p)).length ≤ 60 := rdL_len 60 0 _
  omega
theorem results_LI {fn : Func} {k r : Nat} (hr : fn.results = #[.cell k 33, .tmp r]) (tmps : Array Value) (w : World) (g : Nat) (v0 v1 v2 b : Value) (h : tmps[k]?.getD undef = .pointer (some ⟨g, 0, none⟩)) (hb : tmps[r]?.getD undef = b)
    (hB : Box w g #[v0, v1, v2] 33) : (results fn tmps).run Tryd.prog w = .ok (.tuple #[.agg #[v0, v1, v2], b]) w := results_LB hr tmps w g v0 v1 v2 b h hb hB
theorem lineS_len {k : Nat} {e : List UInt8 × List UInt8} (h : recB e = true) (hk : k < 100) : (lineS k e).length ≤ 400 := by
  rw [lineS, List.length_append, List.length_singleton]
  have := textS_len h hk
  have := (sealS_len (textS k e)).2
  omega
theorem fr2 (w : World) (x y z : Obj) : Fr w (((w.alloc x).alloc y).alloc z) := (((Fr.refl w).alloc _).alloc _).alloc _
theorem Box.other {w : World} {g g' : Nat} {cs : Array Value} {t : TypeId} (h : Box w g cs t) (hne : g ≠ g') (j : Nat) (v : Value) : Box (w.setCell ⟨g', j, none⟩ v) g cs t := by
  unfold Box; rw [Below.heap_setCell _ _ _ _ hne]; exact h
set_option maxRecDepth 100000 in
theorem impl_AppendRecord_any (d p : ByteArray) (c : Int) (s t : ByteArray) (w : World) (hs : d.size + p.size ≤ 1048576) (hs2 : s.size + t.size ≤ 1048576) (hE : Env w) :
    Calls Tryd.prog 21 #[.agg #[.string d, .string p, .int .i64 c], .agg #[.string s, .string t]] w fun e w' => e = .returned (.tuple #[.agg #[.string d, .string (apdV d p c s t).1, .int .i64 (apdV d p c s t).2.1], .int .i64 (apdV d p c s t).2.2]) ∧ Fr w w' := by
  have hfr : Fr w (((w.alloc (.cells #[.string d, .string p, .int .i64 c] 33)).alloc (.cells #[.string s, .string t] 25)).alloc (.cells #[.string e0, .string e0, .int .i64 0] 33)) := fr2 _ _ _ _
  have f1 : Fr (w.alloc (.cells #[.string d, .string p, .int .i64 c] 33)) (((w.alloc (.cells #[.string d, .string p, .int .i64 c] 33)).alloc (.cells #[.string s, .string t] 25)).alloc (.cells #[.string e0, .string e0, .int .i64 0] 33)) := ((Fr.refl _).alloc _).alloc _
  have G0 := (Box.new w #[.string d, .string p, .int .i64 c] 33).fr f1
  have G1 := (Box.new (w.alloc (.cells #[.string d, .string p, .int .i64 c] 33)) #[.string s, .string t] 25).fr ((Fr.refl _).alloc (.cells #[.string e0, .string e0, .int .i64 0] 33))
  have G2 := Box.new ((w.alloc (.cells #[.string d, .string p, .int .i64 c] 33)).alloc (.cells #[.string s, .string t] 25)) #[.string e0, .string e0, .int .i64 0] 33
  simp only [World.size_alloc] at G1 G2
  have HR : Hid (apdV d p c s t = if (logB (bl d) (bl p) c && recB (bl s, bl t)) = true then if c = 60 then (p, c, 2) else (p ++ ba (lineS c.toNat (bl s, bl t)), c + 1, 0) else (p, c, 1)) := Lib.hid rfl
  have HE := Lib.hid (hE.fr hfr)
  have c0 := G0.cell (j := 0) (v := .string d) rfl
  have c1 := G0.cell (j := 1) (v := .string p) rfl
  have c2 := G0.cell (j := 2) (v := .int .i64 c) rfl
  have r0 := G1.cell (j := 0) (v := .string s) rfl
  have r1 := G1.cell (j := 1) (v := .string t) rfl
  clear f1 G0 G1
  go_enter Tryd.func21, Tryd.ntmps21
  go_wp2_with fail
  refine (IsValidLog_any d p c _ hs HE.out).mono ?_
  rintro e w1 ⟨rfl, f1⟩
  replace c0 := f1.keep c0; replace c1 := f1.keep c1; replace c2 := f1.keep c2; replace r0 := f1.keep r0; replace r1 := f1.keep r1
  have HF := Lib.hid (hfr.trans f1)
  have HE1 := Lib.hid (HE.out.fr f1)
  have HG := Lib.hid (G2.fr f1)
  clear G2 hfr f1 hE HE
  cases hb : logB (bl d) (bl p) c
  · have HV : Hid (apdV d p c s t = (p, c, 1)) := Lib.hid (by rw [HR.out, hb]; rfl)
    have i0 := HG.out.free 0; have i1 := HG.out.free 1; have i2 := HG.out.free 2
    have j0 := HG.out.cell (j := 0) (v := .string e0) rfl; have j1 := HG.out.cell (j := 1) (v := .string e0) rfl; have j2 := HG.out.cell (j := 2) (v := .int .i64 0) rfl
    unfold e0 at j0 j1
    clear hb
    go_wp2
    refine bodyPost_ret (results_LI Tryd.results21 _ _ (w.heap.size + 1 + 1) _ _ _ _ rfl rfl (HG.out.set3 _ _ _)) rfl ?_
    exact ⟨by rw [HV.out]; rfl, HF.out.set3 (by omega) _ _ _⟩
  · have HB := Lib.hid hb
    obtain ⟨hc0, hc1⟩ := logB_cnt hb
    obtain ⟨n, rfl⟩ := Int.eq_ofNat_of_zero_le hc0
    have hls := (logB_iff.1 hb).1
    rw [bl_len, bl_len] at hls
    clear hb
    go_wp2_with fail
    refine (impl_IsValidRecord_any s t _ (by omega) (by omega)).mono ?_
    rintro e w2 ⟨rfl, f2⟩
    replace c0 := f2.keep c0; replace c1 := f2.keep c1; replace c2 := f2.keep c2; replace r0 := f2.keep r0; replace r1 := f2.keep r1
    replace HF := Lib.hid (HF.out.trans f2)
    replace HE1 := Lib.hid (HE1.out.fr f2)
    replace HG := Lib.hid (HG.out.fr f2)
    clear f2
    cases hr : recB (bl s, bl t)
    · have HV : Hid (apdV d p n s t = (p, (n : Int), 1)) := Lib.hid (by rw [HR.out, HB.out, hr]; rfl)
      have i0 := HG.out.free 0; have i1 := HG.out.free 1; have i2 := HG.out.free 2
      have j0 := HG.out.cell (j := 0) (v := .string e0) rfl; have j1 := HG.out.cell (j := 1) (v := .string e0) rfl; have j2 := HG.out.cell (j := 2) (v := .int .i64 0) rfl
      unfold e0 at j0 j1
      clear hr
      go_wp2
      refine bodyPost_ret (results_LI Tryd.results21 _ _ (w.heap.size + 1 + 1) _ _ _ _ rfl rfl (HG.out.set3 _ _ _)) rfl ?_
      exact ⟨by rw [HV.out]; rfl, HF.out.set3 (by omega) _ _ _⟩
    · have HRR := Lib.hid hr
      go_wp2_with fail
      refine (EncodeRecord_any n s t _ (by omega) (by omega) HE1.out).mono ?_
      rintro e w3 ⟨rfl, f3⟩
      replace c0 := f3.keep c0; replace c1 := f3.keep c1; replace c2 := f3.keep c2
      replace HF := Lib.hid (HF.out.trans f3)
      replace HG := Lib.hid (HG.out.fr f3)
      have i0 := HG.out.free 0; have i1 := HG.out.free 1; have i2 := HG.out.free 2
      have j0 := HG.out.cell (j := 0) (v := .string e0) rfl; have j1 := HG.out.cell (j := 1) (v := .string e0) rfl; have j2 := HG.out.cell (j := 2) (v := .int .i64 0) rfl
      unfold e0 at j0 j1
      clear f3 r0 r1 HE1
      by_cases h60 : n = 60
      · have HK : Hid (enOk (n : Int) (bl s, bl t) = false) := Lib.hid (by
          rw [enOk]
          have : inB (n : Int) 0 59 = false := by rw [Bool.eq_false_iff]; intro h; have := (inB_iff.1 h).2; omega
          rw [this]; rfl)
        have HV : Hid (apdV d p n s t = (p, (n : Int), 2)) := Lib.hid (by rw [HR.out, HB.out, HRR.out, if_pos (show (n : Int) = 60 by omega)]; rfl)
        rw [HK.out]
        generalize ba (enV (n : Int) (bl s, bl t)) = g
        clear hr h60
        go_wp2
        refine bodyPost_ret (results_LI Tryd.results21 _ _ (w.heap.size + 1 + 1) _ _ _ _ rfl rfl (HG.out.set3 _ _ _)) rfl ?_
        exact ⟨by rw [HV.out]; rfl, HF.out.set3 (by omega) _ _ _⟩
      · have HK : Hid (enOk (n : Int) (bl s, bl t) = true) := Lib.hid (by
          rw [enOk, hr, inB_iff.2 ⟨by omega, by omega⟩]; rfl)
        have hev : enV (n : Int) (bl s, bl t) = lineS n (bl s, bl t) := by rw [enV, HK.out, Int.toNat_natCast]; rfl
        have hlen : (ba (lineS n (bl s, bl t))).size ≤ 400 := by rw [ba_size]; exact lineS_len hr (by omega)
        have HV : Hid (apdV d p n s t = (p ++ ba (lineS n (bl s, bl t)), (n : Int) + 1, 0)) := Lib.hid (by rw [HR.out, HB.out, HRR.out, if_neg (show ¬ (n : Int) = 60 by omega), Int.toNat_natCast]; rfl)
        rw [HK.out, hev]
        generalize ba (lineS n (bl s, bl t)) = g at hlen HV ⊢
        have ad := fun (W : World) => run_string_add_sum (P := Tryd.prog) W p g (by omega)
        have e1 : IntKind.i64.wrap ((n : Int) + 1) = (n : Int) + 1 := IntWalk.i64_in _ (by omega)
        clear hr h60 hev
        go_wp2
        refine bodyPost_ret (results_LI Tryd.results21 _ _ (w.heap.size + 1 + 1) _ _ _ _ rfl rfl (HG.out.set3 _ _ _)) rfl ?_
        exact ⟨by rw [HV.out]; rfl, HF.out.set3 (by omega) _ _ _⟩

set_option maxRecDepth 100000 in
set_option maxHeartbeats 4000000 in
theorem spec_AppendRecord_any (d p : ByteArray) (c : Int) (s t : ByteArray) (w : World) (hs : d.size + p.size ≤ 1048576) (hs2 : s.size + t.size ≤ 1048576) :
    Calls Tryd.prog 22 #[.agg #[.string d, .string p, .int .i64 c], .agg #[.string s, .string t]] w fun e w' => e = .returned (.tuple #[.agg #[.string d, .string (apdV d p c s t).1, .int .i64 (apdV d p c s t).2.1], .int .i64 (apdV d p c s t).2.2]) ∧ Fr w w' := by
  have hfr : Fr w (((w.alloc (.cells #[.string d, .string p, .int .i64 c] 33)).alloc (.cells #[.string s, .string t] 25)).alloc (.cells #[.string e0, .string e0, .int .i64 0] 33)) := fr2 _ _ _ _
  have f1 : Fr (w.alloc (.cells #[.string d, .string p, .int .i64 c] 33)) (((w.alloc (.cells #[.string d, .string p, .int .i64 c] 33)).alloc (.cells #[.string s, .string t] 25)).alloc (.cells #[.string e0, .string e0, .int .i64 0] 33)) := ((Fr.refl _).alloc _).alloc _
  have G0 := (Box.new w #[.string d, .string p, .int .i64 c] 33).fr f1
  have G1 := (Box.new (w.alloc (.cells #[.string d, .string p, .int .i64 c] 33)) #[.string s, .string t] 25).fr ((Fr.refl _).alloc (.cells #[.string e0, .string e0, .int .i64 0] 33))
  have G2 := Box.new ((w.alloc (.cells #[.string d, .string p, .int .i64 c] 33)).alloc (.cells #[.string s, .string t] 25)) #[.string e0, .string e0, .int .i64 0] 33
  simp only [World.size_alloc] at G1 G2
  have HR : Hid (apdV d p c s t = if (logB (bl d) (bl p) c && recB (bl s, bl t)) = true then if c = 60 then (p, c, 2) else (p ++ ba (lineS c.toNat (bl s, bl t)), c + 1, 0) else (p, c, 1)) := Lib.hid rfl
  have c0 := G0.cell (j := 0) (v := .string d) rfl
  have c1 := G0.cell (j := 1) (v := .string p) rfl
  have c2 := G0.cell (j := 2) (v := .int .i64 c) rfl
  have r0 := G1.cell (j := 0) (v := .string s) rfl
  have r1 := G1.cell (j := 1) (v := .string t) rfl
  clear f1 G1
  go_enter Tryd.func22, Tryd.ntmps22
  go_wp2_with fail
  refine (l12Valid_any d p c _ hs).mono ?_
  rintro e w1 ⟨rfl, f1⟩
  replace c0 := f1.keep c0; replace c1 := f1.keep c1; replace c2 := f1.keep c2; replace r0 := f1.keep r0; replace r1 := f1.keep r1
  have HF := Lib.hid (hfr.trans f1)
  have HG := Lib.hid (G2.fr f1)
  have HL := Lib.hid (G0.fr f1)
  clear G2 G0 hfr f1
  cases hb : logB (bl d) (bl p) c
  · have HV : Hid (apdV d p c s t = (p, c, 1)) := Lib.hid (by rw [HR.out, hb]; rfl)
    have i0 := HG.out.free 0; have i1 := HG.out.free 1; have i2 := HG.out.free 2
    have j0 := HG.out.cell (j := 0) (v := .string e0) rfl; have j1 := HG.out.cell (j := 1) (v := .string e0) rfl; have j2 := HG.out.cell (j := 2) (v := .int .i64 0) rfl
    unfold e0 at j0 j1
    clear hb
    go_wp2
    refine bodyPost_ret (results_LI Tryd.results22 _ _ (w.heap.size + 1 + 1) _ _ _ _ rfl rfl (HG.out.set3 _ _ _)) rfl ?_
    exact ⟨by rw [HV.out]; rfl, HF.out.set3 (by omega) _ _ _⟩
  · have HB := Lib.hid hb
    obtain ⟨hc0, hc1⟩ := logB_cnt hb
    obtain ⟨n, rfl⟩ := Int.eq_ofNat_of_zero_le hc0
    have hls := (logB_iff.1 hb).1
    rw [bl_len, bl_len] at hls
    clear hb
    go_wp2_with fail
    refine (l12Record_any s t _ (by omega) (by omega)).mono ?_
    rintro e w2 ⟨rfl, f2⟩
    replace c0 := f2.keep c0; replace c1 := f2.keep c1; replace c2 := f2.keep c2; replace r0 := f2.keep r0; replace r1 := f2.keep r1
    replace HF := Lib.hid (HF.out.trans f2)
    replace HG := Lib.hid (HG.out.fr f2)
    replace HL := Lib.hid (HL.out.fr f2)
    clear f2
    cases hr : recB (bl s, bl t)
    · have HV : Hid (apdV d p n s t = (p, (n : Int), 1)) := Lib.hid (by rw [HR.out, HB.out, hr]; rfl)
      have i0 := HG.out.free 0; have i1 := HG.out.free 1; have i2 := HG.out.free 2
      have j0 := HG.out.cell (j := 0) (v := .string e0) rfl; have j1 := HG.out.cell (j := 1) (v := .string e0) rfl; have j2 := HG.out.cell (j := 2) (v := .int .i64 0) rfl
      unfold e0 at j0 j1
      clear hr
      go_wp2
      refine bodyPost_ret (results_LI Tryd.results22 _ _ (w.heap.size + 1 + 1) _ _ _ _ rfl rfl (HG.out.set3 _ _ _)) rfl ?_
      exact ⟨by rw [HV.out]; rfl, HF.out.set3 (by omega) _ _ _⟩
    · have HRR := Lib.hid hr
      have i0 := HG.out.free 0; have i1 := HG.out.free 1; have i2 := HG.out.free 2
      have j0 := HG.out.cell (j := 0) (v := .string e0) rfl; have j1 := HG.out.cell (j := 1) (v := .string e0) rfl; have j2 := HG.out.cell (j := 2) (v := .int .i64 0) rfl
      unfold e0 at j0 j1
      by_cases h60 : n = 60
      · have HV : Hid (apdV d p n s t = (p, (n : Int), 2)) := Lib.hid (by rw [HR.out, HB.out, HRR.out, if_pos (show (n : Int) = 60 by omega)]; rfl)
        have h60i : ((n : Int) == 60) = true := by rw [beq_iff_eq]; omega
        clear hr h60
        go_wp2
        refine bodyPost_ret (results_LI Tryd.results22 _ _ (w.heap.size + 1 + 1) _ _ _ _ rfl rfl (HG.out.set3 _ _ _)) rfl ?_
        exact ⟨by rw [HV.out]; rfl, HF.out.set3 (by omega) _ _ _⟩
      · have hlen : (ba (lineS n (bl s, bl t))).size ≤ 400 := by rw [ba_size]; exact lineS_len hr (by omega)
        have HV : Hid (apdV d p n s t = (p ++ ba (lineS n (bl s, bl t)), (n : Int) + 1, 0)) := Lib.hid (by rw [HR.out, HB.out, HRR.out, if_neg (show ¬ (n : Int) = 60 by omega), Int.toNat_natCast]; rfl)
        have HLN : Hid (∀ W : World, Calls Tryd.prog 58 #[.int .i64 n, .agg #[.string s, .string t]] W fun e w' => e = .returned (.string (ba (lineS n (bl s, bl t)))) ∧ Fr W w') := Lib.hid (fun W => l12Line_any n s t W (by omega) (by omega) (by omega))
        generalize ba (lineS n (bl s, bl t)) = g at hlen HV HLN
        have ad := fun (W : World) => run_string_add_sum (P := Tryd.prog) W p g (by omega)
        have e1 : IntKind.i64.wrap ((n : Int) + 1) = (n : Int) + 1 := IntWalk.i64_in _ (by omega)
        have h60i : ((n : Int) == 60) = false := by rw [beq_eq_false_iff_ne]; omega
        clear hr h60
        go_upto_region 5 with fail
        go_region_with (go_at_call 58; refine (HLN.out _).mono ?_; rintro e w5 ⟨rfl, f5⟩; have q1 := f5.keep c1; have q0 := f5.keep c0; have q2 := f5.keep c2; have p1 : w5.frozen? ⟨w.heap.size, 1, none⟩ = false := (by first | exact (HL.out.fr f5).free 1 | exact ((HL.out.fr (Fr.drewN _ 1)).fr f5).free 1))
        all_goals
          have F5 : Fr w2 w5 := by first | exact ((Fr.refl w2).drew' 1).trans f5 | exact f5
          have p2 : w5.frozen? ⟨w.heap.size, 2, none⟩ = false := (HL.out.fr F5).free 2
          have I0 := (HG.out.fr F5).free 0; have I1 := (HG.out.fr F5).free 1; have I2 := (HG.out.fr F5).free 2
          have J0 := F5.keep j0; have J1 := F5.keep j1; have J2 := F5.keep j2
          have HG5 := Lib.hid (((HG.out.fr F5).other (g' := w.heap.size) (by omega) 1 (.string (p ++ g))).other (g' := w.heap.size) (by omega) 2 (.int .i64 ((n : Int) + 1)))
          have HF5 := Lib.hid (((HF.out.trans F5).setCell (p := ⟨w.heap.size, 1, none⟩) (Nat.le_refl _) (.string (p ++ g))).setCell (p := ⟨w.heap.size, 2, none⟩) (Nat.le_refl _) (.int .i64 ((n : Int) + 1)))
          clear f5 F5
          go_wp2
          refine bodyPost_ret (results_LI Tryd.results22 _ _ (w.heap.size + 1 + 1) _ _ _ _ rfl rfl (HG5.out.set3 _ _ _)) rfl ?_
          exact ⟨by rw [HV.out]; rfl, HF5.out.set3 (by omega) _ _ _⟩
end Go.Proofs.YtolnloeapbplkaaDoor
