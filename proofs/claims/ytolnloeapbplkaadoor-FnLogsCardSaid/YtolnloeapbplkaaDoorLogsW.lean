import Derived.Test.YtolnloeapbplkaaDoorDraw5
/- The law FnLogs. -/
set_option linter.unusedVariables false
namespace Go.Proofs.YtolnloeapbplkaaDoor
open Go.ChangeShapes Go.WideShapes Go.ChangeAt Go.RowKit

theorem lns_len (rs : List (List UInt8 × List UInt8)) : ∀ k, (∀ e ∈ rs, recB e = true) → k + rs.length ≤ 100 → (lns k rs).length ≤ 400 * rs.length := by
  induction rs with
  | nil => intro k _ _; simp [lns]
  | cons e t ih =>
    intro k hr hk
    rw [List.length_cons] at hk
    have h1 := lineS_len (k := k) (hr e (by simp)) (by omega)
    have h2 := ih (k + 1) (fun x hx => hr x (by simp [hx])) (by omega)
    rw [lns, List.length_append, List.length_cons]
    omega
/-- A record that is appended is the last one read. -/
theorem append_ok {d p : List UInt8} {n : Nat} {g : List UInt8 × List UInt8} (h : logB d p n = true) (hg : recB g = true) (hn : n ≠ 60) :
    logB d (p ++ lineS n g) ((n : Int) + 1) = true ∧ rdA (d ++ (p ++ lineS n g)) = rdA (d ++ p) ++ [g] := by
  obtain ⟨h1, h2, h3, h4⟩ := logB_iff.1 h
  have hall : lns 0 (rdA (d ++ p)) = d ++ p := lns_rdA (by rw [h2, List.length_append])
  have hr : ∀ e ∈ rdA (d ++ p), recB e = true := rdL_ok
  have h60 : (rdA (d ++ p)).length ≤ 60 := rdL_len 60 0 _
  have hlen : (rdA (d ++ p)).length = n := by omega
  have hr2 : ∀ e ∈ rdA (d ++ p) ++ [g], recB e = true := fun e he => by
    rcases List.mem_append.1 he with he | he
    · exact hr e he
    · simp at he; subst he; exact hg
  have hl2 : (rdA (d ++ p) ++ [g]).length = n + 1 := by rw [List.length_append, hlen]; rfl
  have e1 : d ++ (p ++ lineS n g) = lns 0 (rdA (d ++ p) ++ [g]) := by
    rw [lns_append, hall, hlen, lns, lns, List.append_nil, Nat.zero_add, List.append_assoc]
  have e2 : rdA (d ++ (p ++ lineS n g)) = rdA (d ++ p) ++ [g] := by rw [e1]; exact rdA_lns hr2 (by omega)
  have hL := lns_len (rdA (d ++ p) ++ [g]) 0 hr2 (by omega)
  have e3 := congrArg List.length e1
  rw [List.length_append] at e3
  refine ⟨logB_iff.2 ⟨by omega, ?_, h3, ?_⟩, e2⟩
  · rw [e2, ← e1, List.length_append]
  · rw [e2, hl2]; omega
theorem sync_ok {d p : List UInt8} {c : Int} (h : logB d p c = true) : logB (d ++ p) [] c = true := by
  obtain ⟨h1, h2, h3, h4⟩ := logB_iff.1 h
  refine logB_iff.2 ⟨by rw [List.length_append]; simp; omega, ?_, ?_, ?_⟩
  · rw [List.append_nil, h2, List.length_append]; rfl
  · rw [h2, List.length_append]
  · rw [List.append_nil]; exact h4
/-- What AppendRecord does. -/
theorem apd_cases (d p : ByteArray) (c : Int) (s t : ByteArray) : ((apdV d p c s t).2.2 ≠ 0 ∧ (apdV d p c s t).1 = p ∧ (apdV d p c s t).2.1 = c) ∨
    ((apdV d p c s t).2.2 = 0 ∧ logB (bl d) (bl (apdV d p c s t).1) (apdV d p c s t).2.1 = true ∧ logB (bl d) (bl p) c = true ∧ rdA (bl d ++ bl (apdV d p c s t).1) = rdA (bl d ++ bl p) ++ [(bl s, bl t)]) := by
  unfold apdV
  by_cases h : (logB (bl d) (bl p) c && recB (bl s, bl t)) = true
  · rw [if_pos h]
    rw [Bool.and_eq_true] at h
    by_cases h6 : c = 60
    · rw [if_pos h6]; exact .inl ⟨by dsimp only; omega, rfl, rfl⟩
    · rw [if_neg h6]
      right
      obtain ⟨hc0, hc1⟩ := logB_cnt h.1
      obtain ⟨n, rfl⟩ := Int.eq_ofNat_of_zero_le hc0
      obtain ⟨h1, h2⟩ := append_ok (n := n) h.1 h.2 (by omega)
      dsimp only
      rw [bl_app, bl_ba, Int.toNat_natCast]
      exact ⟨rfl, h1, h.1, h2⟩
  · rw [if_neg h]; exact .inl ⟨by dsimp only; omega, rfl, rfl⟩

theorem apdV_rng2 (d p : ByteArray) (c : Int) (s t : ByteArray) (h0 : 0 ≤ c) (h1 : c ≤ 62) (hs : d.size + p.size ≤ 30000) : (0 ≤ (apdV d p c s t).2.1 ∧ (apdV d p c s t).2.1 ≤ 62) ∧ d.size + (apdV d p c s t).1.size ≤ 30400 := by
  by_cases h : c = 62
  · subst h
    have hn : logB (bl d) (bl p) 62 = false := by
      rw [Bool.eq_false_iff]; intro h; have := logB_cnt h; omega
    unfold apdV; rw [hn]; exact ⟨⟨by simp, by simp⟩, by simp; omega⟩
  · have := apdV_rng (d := d) (p := p) (s := s) (t := t) h0 (by omega)
    omega
set_option maxRecDepth 100000 in
set_option maxHeartbeats 4000000 in
theorem walk_FnLogs (a : Option Addr) (n cap : Nat) (zs : List Int) (w : World) (hE : Env w) (h : SLB w a n cap zs) :
    Calls Tryd.prog 3 #[.slice a n cap] w fun e w' => e = .returned (.bool true) ∧ Fr w w' := by
  have hle := h.le; have hmx := h.mx
  have HV := Lib.hid (vBig_any w a n cap (by omega))
  by_cases hbig : 65536 < n
  · have hd : decide (65536 < n) = true := decide_eq_true hbig
    rw [hd] at HV
    go_enter Tryd.func3, Tryd.ntmps3
    go_wp2_with fail
    refine HV.out.mono ?_
    rintro e w' ⟨rfl, rfl⟩
    go_wp2
    go_ret
    exact ⟨rfl, Fr.refl _⟩
  · have hd : decide (65536 < n) = false := decide_eq_false hbig
    rw [hd] at HV
    have H := Lib.hid h
    clear h
    go_enter Tryd.func3, Tryd.ntmps3
    go_wp2_with fail
    refine HV.out.mono ?_
    rintro e w' ⟨rfl, rfl⟩
    clear HV hd
    -- a record
    go_wp2_with fail
    refine (DrawIsValidRecord_any w a n cap zs H.out).mono ?_
    rintro e w1 ⟨es, et, rfl, hes, het, f1⟩
    have B3 := Box.new w1 #[.string es, .string et] 25
    have F := f1.alloc (.cells #[.string es, .string et] 25)
    clear f1
    -- an encoding
    go_wp2_with fail
    refine (vCut_any _ a n cap zs (H.out.fr F) (by omega) 1 (by omega)).mono ?_
    rintro e w2 ⟨p2, n2, cap2, ys2, rfl, h2, -, hn2, f2⟩
    replace B3 := B3.fr f2; replace F := F.trans f2
    clear f2
    go_wp2_with fail
    refine (DrawEncodeRecord_any _ p2 n2 cap2 ys2 h2).mono ?_
    rintro e w3 ⟨k, fs, ft, rfl, hk, hfs, hft, f3⟩
    have B5 := Box.new w3 #[.string fs, .string ft] 25
    have fa := f3.alloc (.cells #[.string fs, .string ft] 25)
    replace B3 := B3.fr fa; replace F := F.trans fa
    clear fa f3 h2 hn2
    have c0 := B5.cell (j := 0) (v := .string fs) rfl; have c1 := B5.cell (j := 1) (v := .string ft) rfl
    have SPE := Lib.hid (fun W => spec_EncodeRecord_any k fs ft W (by omega) (by omega))
    have IME := Lib.hid (fun W h => EncodeRecord_any k fs ft W (by omega) (by omega) h)
    generalize ba (enV k (bl fs, bl ft)) = s at SPE IME
    generalize enOk k (bl fs, bl ft) = ok at SPE IME
    go_wp2_with fail
    refine (IME.out _ (hE.fr F)).mono ?_
    rintro e w4 ⟨rfl, f4⟩
    replace B3 := B3.fr f4; replace F := F.trans f4
    replace c0 := f4.keep c0; replace c1 := f4.keep c1
    clear f4 IME B5
    go_wp2_with fail
    refine (SPE.out _).mono ?_
    rintro e w5 ⟨rfl, f5⟩
    replace B3 := B3.fr f5; replace F := F.trans f5
    clear f5 SPE c0 c1
    -- a log
    go_wp2_with fail
    refine (vCut_any _ a n cap zs (H.out.fr F) (by omega) 2 (by omega)).mono ?_
    rintro e w6 ⟨p6, n6, cap6, ys6, rfl, h6, -, hn6, f6⟩
    replace B3 := B3.fr f6; replace F := F.trans f6
    clear f6
    go_wp2_with fail
    refine (DrawIsValidLog_any _ (hE.fr F) p6 n6 cap6 ys6 h6).mono ?_
    rintro e w7 ⟨ld, lp, lc, rfl, hls, hlc0, hlc1, f7⟩
    have B10 := Box.new w7 #[.string ld, .string lp, .int .i64 lc] 33
    have fa := f7.alloc (.cells #[.string ld, .string lp, .int .i64 lc] 33)
    replace B3 := B3.fr fa; replace F := F.trans fa
    clear fa f7 h6 hn6
    -- a log and a record
    go_wp2_with fail
    refine (vCut_any _ a n cap zs (H.out.fr F) (by omega) 3 (by omega)).mono ?_
    rintro e w8 ⟨p8, n8, cap8, ys8, rfl, h8, -, hn8, f8⟩
    replace B3 := B3.fr f8; replace B10 := B10.fr f8; replace F := F.trans f8
    clear f8
    go_wp2_with fail
    refine (DrawAppendRecord_any _ (hE.fr F) p8 n8 cap8 ys8 h8).mono ?_
    rintro e w9 ⟨md, mp, mc, gs, gt, rfl, hms, hmc0, hmc1, hgs, hgt, f9⟩
    have fa := f9.alloc (.cells #[.string md, .string mp, .int .i64 mc] 33)
    have fb := fa.alloc (.cells #[.string gs, .string gt] 25)
    have B11 := (Box.new w9 #[.string md, .string mp, .int .i64 mc] 33).fr ((Fr.refl _).alloc (.cells #[.string gs, .string gt] 25))
    have B12 := Box.new (w9.alloc (.cells #[.string md, .string mp, .int .i64 mc] 33)) #[.string gs, .string gt] 25
    rw [World.size_alloc] at B12
    replace B3 := B3.fr fb; replace B10 := B10.fr fb; replace F := F.trans fb
    clear fa fb f9 h8 hn8 H
    have hVs := apdV_rng2 md mp mc gs gt (by omega) (by omega) (by omega)
    have HC := Lib.hid (apd_cases md mp mc gs gt)
    have SPA := Lib.hid (fun W => spec_AppendRecord_any md mp mc gs gt W (by omega) (by omega))
    have IMA := Lib.hid (fun W h => impl_AppendRecord_any md mp mc gs gt W (by omega) (by omega) h)
    generalize apdV md mp mc gs gt = V at hVs HC SPA IMA
    have m0 := B11.cell (j := 0) (v := .string md) rfl; have m1 := B11.cell (j := 1) (v := .string mp) rfl; have m2 := B11.cell (j := 2) (v := .int .i64 mc) rfl
    have g0 := B12.cell (j := 0) (v := .string gs) rfl; have g1 := B12.cell (j := 1) (v := .string gt) rfl
    go_wp2_with fail
    refine (IMA.out _ (hE.fr F)).mono ?_
    rintro e w10 ⟨rfl, f10⟩
    have fa := f10.alloc (.cells #[.string md, .string V.1, .int .i64 V.2.1] 33)
    have B13 := Box.new w10 #[.string md, .string V.1, .int .i64 V.2.1] 33
    replace B3 := B3.fr fa; replace B10 := B10.fr fa; replace B11 := B11.fr fa; replace B12 := B12.fr fa; replace F := F.trans fa
    replace m0 := fa.keep m0; replace m1 := fa.keep m1; replace m2 := fa.keep m2; replace g0 := fa.keep g0; replace g1 := fa.keep g1
    clear fa f10 IMA
    go_wp2_with fail
    refine (SPA.out _).mono ?_
    rintro e w11 ⟨rfl, f11⟩
    have fa := f11.alloc (.cells #[.string md, .string V.1, .int .i64 V.2.1] 33)
    have B15 := Box.new w11 #[.string md, .string V.1, .int .i64 V.2.1] 33
    replace B3 := B3.fr fa; replace B10 := B10.fr fa; replace B11 := B11.fr fa; replace B12 := B12.fr fa; replace B13 := B13.fr fa; replace F := F.trans fa
    have F11 := F
    clear fa f11 SPA m0 m1 m2 g0 g1
    have hsq : (s.toList != s.toList) = false := by rw [bne, str_eq]; simp
    have hsq2 : (s.toList == s.toList) = true := by rw [str_eq]; simp
    have c0 := B3.cell (j := 0) (v := .string es) rfl; have c1 := B3.cell (j := 1) (v := .string et) rfl
    have l0 := B10.cell (j := 0) (v := .string ld) rfl; have l1 := B10.cell (j := 1) (v := .string lp) rfl; have l2 := B10.cell (j := 2) (v := .int .i64 lc) rfl
    have u0 := B13.cell (j := 0) (v := .string md) rfl; have u1 := B13.cell (j := 1) (v := .string V.1) rfl; have u2 := B13.cell (j := 2) (v := .int .i64 V.2.1) rfl
    have v0 := B15.cell (j := 0) (v := .string md) rfl; have v1 := B15.cell (j := 1) (v := .string V.1) rfl; have v2 := B15.cell (j := 2) (v := .int .i64 V.2.1) rfl
    have QA := Lib.hid (fun W => impl_IsValidRecord_any es et W (by omega) (by omega))
    have QB := Lib.hid (fun W => spec_IsValidRecord_any es et W (by omega) (by omega))
    have QC := Lib.hid (fun W h => IsValidLog_any ld lp lc W (by omega) h)
    have QD := Lib.hid (fun W => spec_IsValidLog_any ld lp lc W (by omega))
    generalize recB (bl es, bl et) = r1 at QA QB
    generalize logB (bl ld) (bl lp) lc = r2 at QC QD
    go_upto_region 11 with fail
    obtain ⟨W0, HW0⟩ : ∃ W0, W0 = w11.alloc (.cells #[.string md, .string V.1, .int .i64 V.2.1] 33) := ⟨_, rfl⟩
    rw [← HW0] at c0 c1 l0 l1 l2 u0 u1 u2 v0 v1 v2 F F11 B3 B10 B11 B12 B13 B15 ⊢
    clear HW0
    first
      | (go_region_held3 (fun w' => w'.cell? ⟨w1.heap.size, 0, none⟩ = some (.string es) ∧ w'.cell? ⟨w1.heap.size, 1, none⟩ = some (.string et) ∧ w'.cell? ⟨w7.heap.size, 0, none⟩ = some (.string ld) ∧ w'.cell? ⟨w7.heap.size, 1, none⟩ = some (.string lp) ∧ w'.cell? ⟨w7.heap.size, 2, none⟩ = some (.int .i64 lc) ∧ w'.cell? ⟨w10.heap.size, 0, none⟩ = some (.string md) ∧ w'.cell? ⟨w10.heap.size, 1, none⟩ = some (.string V.1) ∧ w'.cell? ⟨w10.heap.size, 2, none⟩ = some (.int .i64 V.2.1) ∧ w'.cell? ⟨w11.heap.size, 0, none⟩ = some (.string md) ∧ w'.cell? ⟨w11.heap.size, 1, none⟩ = some (.string V.1) ∧ w'.cell? ⟨w11.heap.size, 2, none⟩ = some (.int .i64 V.2.1))
        (first | (with_reducible exact ⟨FD.keep c0, FD.keep c1, FD.keep l0, FD.keep l1, FD.keep l2, FD.keep u0, FD.keep u1, FD.keep u2, FD.keep v0, FD.keep v1, FD.keep v2⟩) | (with_reducible exact ⟨FC.keep c0, FC.keep c1, FC.keep l0, FC.keep l1, FC.keep l2, FC.keep u0, FC.keep u1, FC.keep u2, FC.keep v0, FC.keep v1, FC.keep v2⟩) | (with_reducible exact ⟨FB.keep c0, FB.keep c1, FB.keep l0, FB.keep l1, FB.keep l2, FB.keep u0, FB.keep u1, FB.keep u2, FB.keep v0, FB.keep v1, FB.keep v2⟩) | (with_reducible exact ⟨FA.keep c0, FA.keep c1, FA.keep l0, FA.keep l1, FA.keep l2, FA.keep u0, FA.keep u1, FA.keep u2, FA.keep v0, FA.keep v1, FA.keep v2⟩) | go_keep)
        (first
          | (go_at_call 23; refine (QA.out _).mono ?_; rintro e wA ⟨rfl, fA⟩; have FA : Fr W0 wA := (by first | exact fA | exact ((Fr.refl W0).drew' 1).trans fA))
          | (go_at_call 24; refine (QB.out _).mono ?_; rintro e wB ⟨rfl, fB⟩; have FB : Fr W0 wB := FA.trans fB)
          | (go_at_call 25; refine (QC.out _ (hE.fr (F.trans FB))).mono ?_; rintro e wC ⟨rfl, fC⟩; have FC : Fr W0 wC := FB.trans fC)
          | (go_at_call 26; refine (QD.out _).mono ?_; rintro e wD ⟨rfl, fD⟩; have FD : Fr W0 wD := FC.trans fD)))
      | fail
    replace B11 := B11.fr FD; replace B12 := B12.fr FD; replace B13 := B13.fr FD; replace F := F.trans FD
    clear c0 c1 l0 l1 l2 u0 u1 u2 v0 v1 v2 QA QB QC QD fA fB fC fD FA FB FC FD B3 B10 B15 F11 hsq hsq2
    generalize hfv : recB (bl es, bl et) = r1' at *
    clear hfv
    -- SyncLog
    have m0 := B11.cell (j := 0) (v := .string md) rfl; have m1 := B11.cell (j := 1) (v := .string mp) rfl; have m2 := B11.cell (j := 2) (v := .int .i64 mc) rfl
    have IMS := Lib.hid (fun W h => impl_SyncLog_any md mp mc W (by omega) h)
    have SPS := Lib.hid (fun W h => spec_SyncLog_any md mp mc W (by omega) h)
    have IML := Lib.hid (fun W h => impl_LogRecords_any md mp mc W (by omega) h)
    have SPL := Lib.hid (fun W => spec_LogRecords_any md mp mc W (by omega))
    have HSV : Hid (logB (bl md) (bl mp) mc = true → syncV md mp mc = (md ++ mp, mc)) := Lib.hid (fun h => by rw [syncV, if_pos h])
    have HSN : Hid ((syncV md mp mc).1.size ≤ 30000) := Lib.hid (by
      unfold syncV; split
      · dsimp only; rw [ByteArray.size_append]; exact hms
      · exact Nat.zero_le _)
    have hsn := HSN.out
    generalize hsy : syncV md mp mc = Y at IMS SPS HSV hsn
    clear HSN hsy
    go_wp2_with fail
    refine (IMS.out _ (hE.fr F)).mono ?_
    rintro e x1 ⟨rfl, f1⟩
    have fa := f1.alloc (.cells #[.string Y.1, .string e0, .int .i64 Y.2] 33)
    have B17 := Box.new x1 #[.string Y.1, .string e0, .int .i64 Y.2] 33
    replace B11 := B11.fr fa; replace B12 := B12.fr fa; replace B13 := B13.fr fa; replace F := F.trans fa
    replace m0 := fa.keep m0; replace m1 := fa.keep m1; replace m2 := fa.keep m2
    clear fa f1 IMS
    go_wp2_with fail
    refine (SPS.out _ (hE.fr F)).mono ?_
    rintro e x2 ⟨rfl, f2⟩
    have fa := f2.alloc (.cells #[.string Y.1, .string e0, .int .i64 Y.2] 33)
    have B19 := Box.new x2 #[.string Y.1, .string e0, .int .i64 Y.2] 33
    replace B11 := B11.fr fa; replace B12 := B12.fr fa; replace B13 := B13.fr fa; replace B17 := B17.fr fa; replace F := F.trans fa
    replace m0 := fa.keep m0; replace m1 := fa.keep m1; replace m2 := fa.keep m2
    clear fa f2 SPS
    go_wp2_with fail
    refine (IML.out _ (hE.fr F)).mono ?_
    rintro e x3 ⟨a1, n1, cp1, xs, rfl, o1, hx, f3⟩
    replace B11 := B11.fr f3; replace B12 := B12.fr f3; replace B13 := B13.fr f3; replace B17 := B17.fr f3; replace B19 := B19.fr f3; replace F := F.trans f3
    replace m0 := f3.keep m0; replace m1 := f3.keep m1; replace m2 := f3.keep m2
    clear f3 IML
    go_wp2_with fail
    refine (SPL.out _).mono ?_
    rintro e x4 ⟨a2, n2, cp2, ys, rfl, o2, hy, f4⟩
    obtain rfl : xs = ys := blR_inj (hx.trans hy.symm)
    obtain rfl : n1 = n2 := by rw [← o1.len, ← o2.len]
    have hn60 : n1 ≤ 60 := by
      rw [← o1.len, ← blR_len, hx]
      split
      · exact rdL_len 60 0 _
      · simp
    have HN := Lib.hid (show xs.length = n1 from o1.len)
    have R1 := (o1.fr f4).rd (by omega)
    have R2 := o2.rd (by omega)
    replace B11 := B11.fr f4; replace B12 := B12.fr f4; replace B13 := B13.fr f4; replace B17 := B17.fr f4; replace B19 := B19.fr f4; replace F := F.trans f4
    have HX := Lib.hid hx
    clear f4 SPL m0 m1 m2 hx hy o1 o2
    have y0 := B17.cell (j := 0) (v := .string Y.1) rfl; have y1 := B17.cell (j := 1) (v := .string e0) rfl; have y2 := B17.cell (j := 2) (v := .int .i64 Y.2) rfl
    have z0 := B19.cell (j := 0) (v := .string Y.1) rfl; have z1 := B19.cell (j := 1) (v := .string e0) rfl; have z2 := B19.cell (j := 2) (v := .int .i64 Y.2) rfl
    generalize hvb : logB (bl md) (bl mp) mc = vb
    go_wp2_with fail
    refine (vRecords_same _ _ _ _ _ _ xs R1 R2).mono ?_
    rintro e x5 ⟨rfl, f5⟩
    replace R1 := R1.fr f5
    replace B11 := B11.fr f5; replace B12 := B12.fr f5; replace B13 := B13.fr f5; replace F := F.trans f5
    replace y0 := f5.keep y0; replace y1 := f5.keep y1; replace y2 := f5.keep y2
    clear f5 z0 z1 z2 R2
    have ee0 : e0.size = 0 := rfl
    have IMK := Lib.hid (fun W h => impl_LogRecords_any Y.1 e0 Y.2 W (by omega) h)
    go_wp2_with fail
    refine (IMK.out _ (hE.fr F)).mono ?_
    rintro e x6 ⟨a3, n3, cp3, ks, rfl, o3, hk3, f6⟩
    replace R1 := R1.fr f6
    replace B11 := B11.fr f6; replace B12 := B12.fr f6; replace B13 := B13.fr f6; replace F := F.trans f6
    clear f6 y0 y1 y2 IMK B17 B19
    obtain ⟨V1, V2, V3⟩ := V
    dsimp only at hVs HC B13
    cases vb
    · have hV : V3 ≠ 0 ∧ V1 = mp ∧ V2 = mc := by
        rcases HC.out with h | ⟨_, _, h, _⟩
        · exact h
        · rw [hvb] at h; cases h
      obtain ⟨hV3, rfl, rfl⟩ := hV
      clear HC hk3 o3 HX HSV
      have m0 := B11.cell (j := 0) (v := .string md) rfl; have m1 := B11.cell (j := 1) (v := .string V1) rfl; have m2 := B11.cell (j := 2) (v := .int .i64 V2) rfl
      have u0 := B13.cell (j := 0) (v := .string md) rfl; have u1 := B13.cell (j := 1) (v := .string V1) rfl; have u2 := B13.cell (j := 2) (v := .int .i64 V2) rfl
      have q1 : (md.toList == md.toList) = true := by rw [str_eq]; simp
      have q2 : (V1.toList == V1.toList) = true := by rw [str_eq]; simp
      have hst : (V3 == 0) = false := by rw [beq_eq_false_iff_ne]; exact hV3
      clear B11 B12 B13
      go_wp2
      go_ret
      exact ⟨rfl, F⟩
    · have hY := HSV.out hvb
      subst hY
      have hbe : bl e0 = [] := rfl
      have hso := sync_ok hvb
      have hk : ks = xs := blR_inj (by
        rw [hk3, HX.out, hvb, if_pos rfl]
        dsimp only
        rw [bl_app, hbe, hso, if_pos rfl, List.append_nil])
      subst hk
      have hn3 : n1 = n3 := by rw [← o3.len, HN.out]
      subst hn3
      have R3 := o3.rd (by omega)
      clear hk3 o3 HSV
      generalize logB (bl (md ++ mp, mc).1) (bl e0) (md ++ mp, mc).2 = b3
      go_wp2_with fail
      refine (vRecords_same _ _ _ _ _ _ ks R3 R1).mono ?_
      rintro e x7 ⟨rfl, f7⟩
      replace R1 := R1.fr f7
      replace B11 := B11.fr f7; replace B12 := B12.fr f7; replace B13 := B13.fr f7; replace F := F.trans f7
      clear f7 R3
      rcases HC.out with ⟨hV3, rfl, rfl⟩ | ⟨hV3, hl1, _, hr1⟩
      · clear HC HX
        have m0 := B11.cell (j := 0) (v := .string md) rfl; have m1 := B11.cell (j := 1) (v := .string V1) rfl; have m2 := B11.cell (j := 2) (v := .int .i64 V2) rfl
        have u0 := B13.cell (j := 0) (v := .string md) rfl; have u1 := B13.cell (j := 1) (v := .string V1) rfl; have u2 := B13.cell (j := 2) (v := .int .i64 V2) rfl
        have q1 : (md.toList == md.toList) = true := by rw [str_eq]; simp
        have q2 : (V1.toList == V1.toList) = true := by rw [str_eq]; simp
        have hst : (V3 == 0) = false := by rw [beq_eq_false_iff_ne]; exact hV3
        clear B11 B12 B13
        go_wp2
        go_ret
        exact ⟨rfl, F⟩
      · clear HC
        subst hV3
        have u0 := B13.cell (j := 0) (v := .string md) rfl; have u1 := B13.cell (j := 1) (v := .string V1) rfl; have u2 := B13.cell (j := 2) (v := .int .i64 V2) rfl
        have hms2 : md.size + V1.size ≤ 30400 := hVs.2
        go_wp2_with fail
        refine (impl_LogRecords_any md V1 V2 _ (by omega) (hE.fr F)).mono ?_
        rw [hl1]
        rintro e x8 ⟨a4, n4, cp4, ms, rfl, o4, hm4, f8⟩
        rw [if_pos rfl, hr1] at hm4
        have hx := HX.out
        rw [hvb, if_pos rfl] at hx
        have hms : ms = ks ++ [(gs, gt)] := blR_inj (by rw [hm4, ← hx, blR_snoc])
        have hn4 : n4 = n1 + 1 := by rw [← o4.len, hms, List.length_append, HN.out]; rfl
        replace B12 := B12.fr f8; replace B13 := B13.fr f8; replace F := F.trans f8; replace R1 := R1.fr f8
        have hcp : n4 ≤ cp4 := by
          rcases o4.row.2 with ⟨h2, h3⟩ | ⟨g, cap', cur, h2, h3, h4, h5, _⟩
          · omega
          · simp only [Value.slice.injEq] at h2
            omega
        have R4 := o4.rd (by omega)
        obtain ⟨h4, rfl, hc4⟩ := R4.2.resolve_left (by omega)
        obtain ⟨k0, k1⟩ := hc4 n1 (by omega)
        have hnth : nthRB ms n1 = (gs, gt) := by rw [hms, nthRB, List.getElem?_append_right (by rw [HN.out]; exact Nat.le_refl _), HN.out, Nat.sub_self]; rfl
        rw [hnth] at k0 k1
        dsimp only at k0 k1
        have R5 := R4.take (m := n1) (ys := ks) (by omega) (by rw [hms, List.take_left' HN.out])
        have g0 := B12.cell (j := 0) (v := .string gs) rfl; have g1 := B12.cell (j := 1) (v := .string gt) rfl
        clear u0 u1 u2
        have u0 := B13.cell (j := 0) (v := .string md) rfl; have u1 := B13.cell (j := 1) (v := .string V1) rfl; have u2 := B13.cell (j := 2) (v := .int .i64 V2) rfl
        have i0 : (0 : Int) ≤ (n1 : Int) := by omega
        have i1 : (n1 : Int) < (n4 : Int) := by omega
        have i3 : ((n4 : Int) == (n1 : Int) + 1) = true := by rw [beq_iff_eq]; omega
        have HN4 := Lib.hid hn4
        have i2 : (n1 : Int) ≤ (cp4 : Int) := by omega
        have q1 : (gs.toList == gs.toList) = true := by rw [str_eq]; simp
        have q2 : (gt.toList == gt.toList) = true := by rw [str_eq]; simp
        have e1 : IntKind.i64.wrap ((n1 : Int) + 1) = (n1 : Int) + 1 := IntWalk.i64_in _ (by omega)
        have QV := Lib.hid (fun W h => IsValidLog_any md V1 V2 W (by omega) h)
        rw [hl1] at QV
        clear hc4 hnth hms hm4 hx o4 R4 hn4 B11 B12 B13 f8
        go_upto_region 25 with fail
        first
          | (go_region_held3 (fun w' => w'.cell? ⟨w10.heap.size, 0, none⟩ = some (.string md) ∧ w'.cell? ⟨w10.heap.size, 1, none⟩ = some (.string V1) ∧ w'.cell? ⟨w10.heap.size, 2, none⟩ = some (.int .i64 V2) ∧ w'.cell? ⟨h4, n1 * 2, none⟩ = some (.string gs) ∧ w'.cell? ⟨h4, n1 * 2 + 1, none⟩ = some (.string gt) ∧ w'.cell? ⟨w9.heap.size + 1, 0, none⟩ = some (.string gs) ∧ w'.cell? ⟨w9.heap.size + 1, 1, none⟩ = some (.string gt))
            (first | (with_reducible exact ⟨FB.keep u0, FB.keep u1, FB.keep u2, FB.keep k0, FB.keep k1, FB.keep g0, FB.keep g1⟩) | (with_reducible exact ⟨FA.keep u0, FA.keep u1, FA.keep u2, FA.keep k0, FA.keep k1, FA.keep g0, FA.keep g1⟩) | go_keep)
            (first
              | (go_at_call 25; refine (QV.out _ (hE.fr (by first | exact F | exact F.drew' 1))).mono ?_; rintro e wA ⟨rfl, fA⟩; have FA : Fr x8 wA := (by first | exact fA | exact ((Fr.refl x8).drew' 1).trans fA))
              | (go_at_call 31; refine (vRecords_same _ _ _ _ _ _ ks (R5.fr FA) (R1.fr FA)).mono ?_; rintro e wB ⟨rfl, fB⟩; have FB : Fr x8 wB := FA.trans fB)))
          | fail
        have F9 := F.trans FB
        clear k0 k1 g0 g1 u0 u1 u2
        go_wp2
        go_ret
        exact ⟨rfl, F9⟩
end Go.Proofs.YtolnloeapbplkaaDoor
