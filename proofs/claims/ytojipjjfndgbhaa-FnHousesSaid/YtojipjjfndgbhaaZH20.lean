import Derived.Test.YtojipjjfndgbhaaZH19
/- DealAll: contract of the reference's. -/
set_option linter.unusedVariables false
namespace Go.Proofs.Ytojipjjfndgbhaa
open Go.ChangeShapes Go.WideShapes Go.ChangeAt Go.RowKit

set_option maxRecDepth 100000 in
set_option maxHeartbeats 1000000 in
theorem spec_DealAll_any (w : World) (p q a : Option Addr) (n c m d l b : Nat) (h : HSt) (hP : SL w p n c h.P) (hW : SL w q m d h.W) (hX : SL w a l b h.X) (hl1 : n ≤ 1048576) (hl2 : m ≤ 1048576) (hl3 : l ≤ 1048576) (y : Option Addr) (k e : Nat) (ds : List D3) (hD : SD w y k e ds) (hk : k ≤ 1048576) :
    Calls Try.prog 46 #[.agg #[.slice p n c, .slice q m d, .slice a l b, .int .i64 h.t, .int .i64 h.s, .int .i64 h.u, .int .i64 h.v], .slice y k e] w (RetHIB (allH h ds) (allN h ds) (hOk h) w) := by
  have hfr : Fr w ((w.alloc (.cells #[.slice p n c, .slice q m d, .slice a l b, .int .i64 h.t, .int .i64 h.s, .int .i64 h.u, .int .i64 h.v] 31)).alloc (.cells #[.slice none 0 0, .slice none 0 0, .slice none 0 0, .int .i64 0, .int .i64 0, .int .i64 0, .int .i64 0] 31)) := ((Fr.refl w).alloc _).alloc _
  have H0 := Lib.hid ((Blk.new w #[.slice p n c, .slice q m d, .slice a l b, .int .i64 h.t, .int .i64 h.s, .int .i64 h.u, .int .i64 h.v] 31).alloc (.cells #[.slice none 0 0, .slice none 0 0, .slice none 0 0, .int .i64 0, .int .i64 0, .int .i64 0, .int .i64 0] 31))
  have H1 := Blk.new (w.alloc (.cells #[.slice p n c, .slice q m d, .slice a l b, .int .i64 h.t, .int .i64 h.s, .int .i64 h.u, .int .i64 h.v] 31)) #[.slice none 0 0, .slice none 0 0, .slice none 0 0, .int .i64 0, .int .i64 0, .int .i64 0, .int .i64 0] 31
  rw [World.size_alloc] at H1
  replace H1 := Lib.hid H1
  have HD := Lib.hid hD
  have HDL := Lib.hid hD.len
  have HDR := Lib.hid hD.rng
  clear hD
  have k0 := H0.out.cell (j := 0) (v := .slice p n c) rfl; have k1 := H0.out.cell (j := 1) (v := .slice q m d) rfl; have k2 := H0.out.cell (j := 2) (v := .slice a l b) rfl; have k3 := H0.out.cell (j := 3) (v := .int .i64 h.t) rfl; have k4 := H0.out.cell (j := 4) (v := .int .i64 h.s) rfl; have k5 := H0.out.cell (j := 5) (v := .int .i64 h.u) rfl; have k6 := H0.out.cell (j := 6) (v := .int .i64 h.v) rfl
  go_enter Try.func46, Try.ntmps46
  go_wp2_with fail
  clear k0 k1 k2 k3 k4 k5 k6
  refine (l12Good_any _ _ _ _ _ _ _ _ _ _ _ _ _ (hP.fr hfr) (hW.fr hfr) (hX.fr hfr) _ _ _ _).mono ?_
  rintro e1 w1 ⟨rfl, f1⟩
  have z1 := f1.size
  simp only [World.size_alloc] at z1
  have hF1 := hfr.trans f1
  have G0 := Lib.hid (H0.out.fr f1); have G1 := Lib.hid (H1.out.fr f1)
  clear H0 H1 f1 hfr
  cases ho : hOk h
  · have HV : Hid (allH h ds = hZero ∧ allN h ds = 0) := Lib.hid ⟨by rw [allH, ho]; rfl, by rw [allN, ho]; rfl⟩
    have ho' : houseB h.P h.W h.X h.t h.s h.u h.v = false := ho
    rw [ho']
    have j0 := G1.out.cell (j := 0) rfl; have j1 := G1.out.cell (j := 1) rfl; have j2 := G1.out.cell (j := 2) rfl; have j3 := G1.out.cell (j := 3) rfl; have j4 := G1.out.cell (j := 4) rfl; have j5 := G1.out.cell (j := 5) rfl; have j6 := G1.out.cell (j := 6) rfl
    have i0 := G1.out.free 0; have i1 := G1.out.free 1; have i2 := G1.out.free 2; have i3 := G1.out.free 3; have i4 := G1.out.free 4; have i5 := G1.out.free 5; have i6 := G1.out.free 6
    have HNO := Lib.hid ho
    clear ho ho'
    go_wp2
    have E := G1.out.set7 (.slice none 0 0) (.slice none 0 0) (.slice none 0 0) (.int .i64 0) (.int .i64 0) (.int .i64 0) (.int .i64 0)
    refine bodyPost_ret (results_HIB Try.results46 _ _ (w.heap.size + 1) _ _ _ _ _ _ _ _ _ rfl rfl rfl E) rfl ?_
    rw [HV.out.1, HV.out.2, HNO.out]
    exact ((nilH w1).set7 (g := w.heap.size + 1) (by omega) _ _ _ _ _ _ _).ret (by omega) (hF1.set7 (g := w.heap.size + 1) (by omega) _ _ _ _ _ _ _)
  · have HV : Hid (allH h ds = (hRun h ds).1 ∧ allN h ds = (hRun h ds).2) := Lib.hid ⟨by rw [allH, ho]; rfl, by rw [allN, ho]; rfl⟩
    have ho' : houseB h.P h.W h.X h.t h.s h.u h.v = true := ho
    rw [ho']
    have HO := Lib.hid ho
    have k0 := G0.out.cell (j := 0) (v := .slice p n c) rfl; have k1 := G0.out.cell (j := 1) (v := .slice q m d) rfl; have k2 := G0.out.cell (j := 2) (v := .slice a l b) rfl; have k3 := G0.out.cell (j := 3) (v := .int .i64 h.t) rfl; have k4 := G0.out.cell (j := 4) (v := .int .i64 h.s) rfl; have k5 := G0.out.cell (j := 5) (v := .int .i64 h.u) rfl; have k6 := G0.out.cell (j := 6) (v := .int .i64 h.v) rfl
    clear ho ho'
    go_wp2_with fail
    clear k0 k1 k2 k3 k4 k5 k6
    refine (l12Own_any _ _ _ _ _ _ _ _ _ _ h.P h.W h.X h.t h.s h.u h.v (hP.fr hF1) (hW.fr hF1) (hX.fr hF1) hl1 hl2 hl3).mono ?_
    rintro e2 w2 ⟨p0, n0, c0, q0, m0, d0, a0, l0, b0, M, N, rfl, o1, o2, o3, W1, W2, y1, y2, y3, f2, x1, x2, x3⟩
    have z2 := f2.size
    have fN : Fr w2 (w2.alloc (.cells #[.slice p0 n0 c0, .slice q0 m0 d0, .slice a0 l0 b0, .int .i64 h.t, .int .i64 h.s, .int .i64 h.u, .int .i64 h.v] 31)) := (Fr.refl _).alloc _
    have OH := ((OwnH.of (x := h.t) (s := h.s) (u := h.u) (v := h.v) o1 o2 o3 W1 W2 y1 y2 y3 x1 x2 x3).fr fN).mono (B' := w.heap.size + 1 + 1) (by omega)
    have G0' := Lib.hid (Blk.new w2 #[.slice p0 n0 c0, .slice q0 m0 d0, .slice a0 l0 b0, .int .i64 h.t, .int .i64 h.s, .int .i64 h.u, .int .i64 h.v] 31)
    have G1' := Lib.hid ((G1.out.fr f2).fr fN)
    have F2 := (hF1.trans f2).trans fN
    have hN : w.heap.size + 1 < w2.heap.size := by omega
    clear o1 o2 o3 W1 W2 y1 y2 y3 G0 G1 hP hW hX f2 hF1 fN z1 z2
    go_wp2_with fail
    generalize w2.heap.size = N at hN G0' ⊢
    have HNB : Hid (w.heap.size ≤ N) := Lib.hid (by omega)
    go_loopw [8] (fun i wr => ∃ (j : Nat) (g : HSt) (p1 : Option Addr) (n1 c1 : Nat) (q1 : Option Addr) (m1 d1 : Nat) (a1 : Option Addr) (l1 b1 : Nat), i = .int .i64 j ∧ j ≤ k ∧ Hid (hOk g = true) ∧ Hid (hRun h ds = ((hRun g (ds.drop j)).1, (hRun g (ds.drop j)).2 + j)) ∧
      Blk wr N #[.slice p1 n1 c1, .slice q1 m1 d1, .slice a1 l1 b1, .int .i64 g.t, .int .i64 g.s, .int .i64 g.u, .int .i64 g.v] 31 ∧ Blk wr (w.heap.size + 1) #[.slice none 0 0, .slice none 0 0, .slice none 0 0, .int .i64 0, .int .i64 0, .int .i64 0, .int .i64 0] 31 ∧ OwnH (w.heap.size + 1 + 1) wr p1 n1 c1 q1 m1 d1 a1 l1 b1 g ∧ Fr w wr) (fun i _ => k - (intOf i).toNat)
    case atStart => exact ⟨0, h, _, _, _, _, _, _, _, _, _, rfl, Nat.zero_le _, HO, Lib.hid (by simp), G0'.out, G1'.out, OH, F2⟩
    case round =>
      clear OH G0' G1' F2
      obtain ⟨j, g, p1, n1, c1, q1, m1, d1, a1, l1, b1, rfl, hj, HOK, HRUN, B0, B1, O, F⟩ := hrel
      have hds : ds.length = k := HDL.out
      have BB0 := Lib.hid B0; have BB1 := Lib.hid B1; have OO := Lib.hid O
      clear B0 B1 O
      by_cases hlt : j < k
      · obtain ⟨bd, od, rfl, hc⟩ := (HD.out.fr F).cells.resolve_left (by omega)
        obtain ⟨e0, e1, e2⟩ := hc j hlt
        have hbd := World.block_lt_of_cell? wr _ e0
        have hI := HDR.out _ (nthD_mem (i := j) (by omega))
        have hdr := Lib.hid (drop_nthD (ds := ds) (k := j) (by omega))
        generalize nthD ds j = z at e0 e1 e2 hI hdr
        obtain ⟨z0, z1, z2⟩ := z
        dsimp only at e0 e1 e2 hbd
        have i0 : (0 : Int) ≤ (j : Int) := by omega
        have i1 : (j : Int) < (k : Int) := by omega
        have nN := BB0.out.lt
        have k0 := BB0.out.cell (j := 0) (v := .slice p1 n1 c1) rfl; have k1 := BB0.out.cell (j := 1) (v := .slice q1 m1 d1) rfl; have k2 := BB0.out.cell (j := 2) (v := .slice a1 l1 b1) rfl; have k3 := BB0.out.cell (j := 3) (v := .int .i64 g.t) rfl; have k4 := BB0.out.cell (j := 4) (v := .int .i64 g.s) rfl; have k5 := BB0.out.cell (j := 5) (v := .int .i64 g.u) rfl; have k6 := BB0.out.cell (j := 6) (v := .int .i64 g.v) rfl
        obtain ⟨⟨L, M2, N2, y1, y2, y3, y4, o1, o2, o3, W1, W2⟩, x4, x5, x6⟩ := OO.out
        obtain ⟨t0, t1, t2, t3⟩ := hOk_bd HOK.out
        have CC := Lib.hid (fun (V : World) (f : Fr wr V) => l12Do_any V _ _ _ _ _ _ _ _ _ g.P g.W g.X g.t g.s g.u g.v z0 z1 z2 (o1.fr f).sl (o2.fr f).sl (o3.fr f).sl t0 t1 t2 t3 hI.1 hI.2.1 hI.2.2 HOK.out)
        clear hc o1 o2 o3 W1 W2 y1 y2 y3 t0 t1 t2 t3 x4 x5 x6 y4
        obtain ⟨g2, hgo2, HC2⟩ : ∃ g2 : HSt, (hGo g (z0, z1, z2) = true → g2 = hStep g (z0, z1, z2)) ∧ Hid (∀ (V : World), Fr wr V → Calls Try.prog 92 #[.agg #[.slice p1 n1 c1, .slice q1 m1 d1, .slice a1 l1 b1, .int .i64 g.t, .int .i64 g.s, .int .i64 g.u, .int .i64 g.v], .agg #[.int .i64 z0, .int .i64 z1, .int .i64 z2]] V (RetHB g2.P g2.W g2.X g2.t g2.s g2.u g2.v (hGo g (z0, z1, z2)) V)) := by
          cases hgo : hGo g (z0, z1, z2)
          · refine ⟨hZero, (fun e => by cases e), Lib.hid fun V f => ?_⟩
            have c := CC.out V f
            rw [show goB g.P g.W g.X g.t g.s g.u g.v z0 z1 z2 = false from hgo] at c
            exact c
          · refine ⟨hStep g (z0, z1, z2), fun _ => rfl, Lib.hid fun V f => ?_⟩
            have c := CC.out V f
            rw [show goB g.P g.W g.X g.t g.s g.u g.v z0 z1 z2 = true from hgo] at c
            exact c
        clear CC
        generalize hbq : hGo g (z0, z1, z2) = bb at hgo2 HC2
        go_upto_region 7 with fail
        go_cut [9, 10] (fun s9 s10 wx => ∃ (gq B3 : Nat) (p3 : Option Addr) (n3 c3 : Nat) (q3 : Option Addr) (m3 d3 : Nat) (a3 : Option Addr) (l3 b3 : Nat), s9 = .pointer (some ⟨gq, 0, none⟩) ∧ s10 = .bool bb ∧ Blk wx gq #[.slice p3 n3 c3, .slice q3 m3 d3, .slice a3 l3 b3, .int .i64 g2.t, .int .i64 g2.s, .int .i64 g2.u, .int .i64 g2.v] 31 ∧ wr.heap.size ≤ B3 ∧ wr.heap.size ≤ gq ∧ OwnH B3 wx p3 n3 c3 q3 m3 d3 a3 l3 b3 g2 ∧ Fr wr wx)
        case first =>
          first
            | (go_region_held3 (fun w' => w'.cell? ⟨N, 0, none⟩ = some (.slice p1 n1 c1) ∧ w'.cell? ⟨N, 1, none⟩ = some (.slice q1 m1 d1) ∧ w'.cell? ⟨N, 2, none⟩ = some (.slice a1 l1 b1) ∧ w'.cell? ⟨N, 3, none⟩ = some (.int .i64 g.t) ∧ w'.cell? ⟨N, 4, none⟩ = some (.int .i64 g.s) ∧ w'.cell? ⟨N, 5, none⟩ = some (.int .i64 g.u) ∧ w'.cell? ⟨N, 6, none⟩ = some (.int .i64 g.v) ∧ w'.cell? ⟨bd, od + j * 3, none⟩ = some (.int .i64 z0) ∧ w'.cell? ⟨bd, od + j * 3 + 1, none⟩ = some (.int .i64 z1) ∧ w'.cell? ⟨bd, od + j * 3 + 2, none⟩ = some (.int .i64 z2))
              (first | (with_reducible exact ⟨F3.keep k0, F3.keep k1, F3.keep k2, F3.keep k3, F3.keep k4, F3.keep k5, F3.keep k6, F3.keep e0, F3.keep e1, F3.keep e2⟩) | (with_reducible exact ⟨(F3.alloc _).keep k0, (F3.alloc _).keep k1, (F3.alloc _).keep k2, (F3.alloc _).keep k3, (F3.alloc _).keep k4, (F3.alloc _).keep k5, (F3.alloc _).keep k6, (F3.alloc _).keep e0, (F3.alloc _).keep e1, (F3.alloc _).keep e2⟩) | ((with_reducible refine ⟨(cell7 _ _ _ _ _ _ _ ?_).trans (F3.keep k0), (cell7 _ _ _ _ _ _ _ ?_).trans (F3.keep k1), (cell7 _ _ _ _ _ _ _ ?_).trans (F3.keep k2), (cell7 _ _ _ _ _ _ _ ?_).trans (F3.keep k3), (cell7 _ _ _ _ _ _ _ ?_).trans (F3.keep k4), (cell7 _ _ _ _ _ _ _ ?_).trans (F3.keep k5), (cell7 _ _ _ _ _ _ _ ?_).trans (F3.keep k6), (cell7 _ _ _ _ _ _ _ ?_).trans (F3.keep e0), (cell7 _ _ _ _ _ _ _ ?_).trans (F3.keep e1), (cell7 _ _ _ _ _ _ _ ?_).trans (F3.keep e2)⟩) <;> omega) | go_keep)
              (first | (go_at_call 92; refine (HC2.out _ (by first | exact (Fr.refl wr).drew' 1 | exact ((Fr.refl wr).alloc _).drew' 1)).mono ?_; rintro e3 w3 ⟨p3, n3, c3, q3, m3, d3, a3, l3, b3, M3, N3, rfl, o4, o5, o6, W3, W4, y5, y6, y7, f3, x7, x8, x9⟩; have F3 : Fr wr w3 := (by first | exact ((Fr.refl wr).drew' 1).trans f3 | exact (((Fr.refl wr).alloc _).drew' 1).trans f3); (try (have zb := (((Blk.new wr #[.slice none 0 0, .slice none 0 0, .slice none 0 0, .int .i64 0, .int .i64 0, .int .i64 0, .int .i64 0] 31).fr (Fr.drewN _ 1)).fr f3); have zc0 := zb.cell (j := 0) rfl; have zc1 := zb.cell (j := 1) rfl; have zc2 := zb.cell (j := 2) rfl; have zc3 := zb.cell (j := 3) rfl; have zc4 := zb.cell (j := 4) rfl; have zc5 := zb.cell (j := 5) rfl; have zc6 := zb.cell (j := 6) rfl; have zf0 := zb.free 0; have zf1 := zb.free 1; have zf2 := zb.free 2; have zf3 := zb.free 3; have zf4 := zb.free 4; have zf5 := zb.free 5; have zf6 := zb.free 6; clear zb))) | fail))
            | fail
          all_goals
            go_wp2_with fail
            go_meet
          · exact ⟨w3.heap.size, _, p3, n3, c3, q3, m3, d3, a3, l3, b3, rfl, rfl, Blk.new w3 _ _, Nat.le_refl _, F3.size, (OwnH.of (x := g2.t) (s := g2.s) (u := g2.u) (v := g2.v) o4 o5 o6 W3 W4 y5 y6 y7 x7 x8 x9).fr ((Fr.refl _).alloc _), F3.alloc _⟩
          · exact ⟨wr.heap.size, _, p3, n3, c3, q3, m3, d3, a3, l3, b3, rfl, rfl, (((Blk.new wr #[.slice none 0 0, .slice none 0 0, .slice none 0 0, .int .i64 0, .int .i64 0, .int .i64 0, .int .i64 0] 31).fr (Fr.drewN _ 1)).fr f3).set7 _ _ _ _ _ _ _, (by simp), Nat.le_refl _, (OwnH.of (x := g2.t) (s := g2.s) (u := g2.u) (v := g2.v) o4 o5 o6 W3 W4 y5 y6 y7 x7 x8 x9).set7 (g := wr.heap.size) (by simp) _ _ _ _ _ _ _, F3.set7 (g := wr.heap.size) (Nat.le_refl _) _ _ _ _ _ _ _⟩
        case rest =>
          obtain ⟨gq, B3, p3, n3, c3, q3, m3, d3, a3, l3, b3, rfl, rfl, Bq, hB3, hgq, OH, fq⟩ := hcut
          obtain ⟨w4, rfl⟩ : ∃ wz : World, wz = wc := ⟨_, rfl⟩
          clear k0 k1 k2 k3 k4 k5 k6 e0 e1 e2 HC2
          have z5 := F.size
          cases bb
          · have HR : Hid (hRun h ds = (g, j)) := Lib.hid (by rw [HRUN.out, hdr.out, hRun_no hbq]; simp)
            have k0 := (BB0.out.fr fq).cell (j := 0) (v := .slice p1 n1 c1) rfl; have k1 := (BB0.out.fr fq).cell (j := 1) (v := .slice q1 m1 d1) rfl; have k2 := (BB0.out.fr fq).cell (j := 2) (v := .slice a1 l1 b1) rfl; have k3 := (BB0.out.fr fq).cell (j := 3) (v := .int .i64 g.t) rfl; have k4 := (BB0.out.fr fq).cell (j := 4) (v := .int .i64 g.s) rfl; have k5 := (BB0.out.fr fq).cell (j := 5) (v := .int .i64 g.u) rfl; have k6 := (BB0.out.fr fq).cell (j := 6) (v := .int .i64 g.v) rfl
            have j0 := (BB1.out.fr fq).cell (j := 0) rfl; have j1 := (BB1.out.fr fq).cell (j := 1) rfl; have j2 := (BB1.out.fr fq).cell (j := 2) rfl; have j3 := (BB1.out.fr fq).cell (j := 3) rfl; have j4 := (BB1.out.fr fq).cell (j := 4) rfl; have j5 := (BB1.out.fr fq).cell (j := 5) rfl; have j6 := (BB1.out.fr fq).cell (j := 6) rfl
            have i0 := (BB1.out.fr fq).free 0; have i1 := (BB1.out.fr fq).free 1; have i2 := (BB1.out.fr fq).free 2; have i3 := (BB1.out.fr fq).free 3; have i4 := (BB1.out.fr fq).free 4; have i5 := (BB1.out.fr fq).free 5; have i6 := (BB1.out.fr fq).free 6
            have E := Lib.hid ((BB1.out.fr fq).set7 (.slice p1 n1 c1) (.slice q1 m1 d1) (.slice a1 l1 b1) (.int .i64 g.t) (.int .i64 g.s) (.int .i64 g.u) (.int .i64 g.v))
            have OE := Lib.hid ((OO.out.fr fq).set7 (g := w.heap.size + 1) (by omega) (.slice p1 n1 c1) (.slice q1 m1 d1) (.slice a1 l1 b1) (.int .i64 g.t) (.int .i64 g.s) (.int .i64 g.u) (.int .i64 g.v))
            have FE := Lib.hid ((F.trans fq).set7 (g := w.heap.size + 1) (by omega) (.slice p1 n1 c1) (.slice q1 m1 d1) (.slice a1 l1 b1) (.int .i64 g.t) (.int .i64 g.s) (.int .i64 g.u) (.int .i64 g.v))
            clear fq OO BB0 BB1 Bq OH hgo2 hbq
            go_wp2
            refine bodyPost_ret (results_HIB Try.results46 _ _ (w.heap.size + 1) _ _ _ _ _ _ _ _ _ rfl rfl rfl E.out) rfl ?_
            rw [HV.out.1, HV.out.2, HR.out, HO.out]
            exact OE.out.ret (by omega) FE.out
          · have hg2 := hgo2 rfl
            have HR : Hid (hRun h ds = ((hRun g2 (ds.drop (j + 1))).1, (hRun g2 (ds.drop (j + 1))).2 + (j + 1))) := Lib.hid (by
              rw [HRUN.out, hdr.out, hRun_go hbq, ← hg2]; simp only [Prod.mk.injEq, true_and]; omega)
            have HK2 : Hid (hOk g2 = true) := Lib.hid (by rw [hg2]; exact hGo_ok hbq)
            have z6 := BB1.out.lt
            have n9 : N < gq := by omega
            have n8 : N ≠ w.heap.size + 1 := by omega
            have h0 := Bq.cell (j := 0) (v := .slice p3 n3 c3) rfl; have h1 := Bq.cell (j := 1) (v := .slice q3 m3 d3) rfl; have h2 := Bq.cell (j := 2) (v := .slice a3 l3 b3) rfl; have h3 := Bq.cell (j := 3) (v := .int .i64 g2.t) rfl; have h4 := Bq.cell (j := 4) (v := .int .i64 g2.s) rfl; have h5 := Bq.cell (j := 5) (v := .int .i64 g2.u) rfl; have h6 := Bq.cell (j := 6) (v := .int .i64 g2.v) rfl
            have k0 := (BB0.out.fr fq).cell (j := 0) (v := .slice p1 n1 c1) rfl; have k1 := (BB0.out.fr fq).cell (j := 1) (v := .slice q1 m1 d1) rfl; have k2 := (BB0.out.fr fq).cell (j := 2) (v := .slice a1 l1 b1) rfl; have k3 := (BB0.out.fr fq).cell (j := 3) (v := .int .i64 g.t) rfl; have k4 := (BB0.out.fr fq).cell (j := 4) (v := .int .i64 g.s) rfl; have k5 := (BB0.out.fr fq).cell (j := 5) (v := .int .i64 g.u) rfl; have k6 := (BB0.out.fr fq).cell (j := 6) (v := .int .i64 g.v) rfl
            have i0 := (BB0.out.fr fq).free 0; have i1 := (BB0.out.fr fq).free 1; have i2 := (BB0.out.fr fq).free 2; have i3 := (BB0.out.fr fq).free 3; have i4 := (BB0.out.fr fq).free 4; have i5 := (BB0.out.fr fq).free 5; have i6 := (BB0.out.fr fq).free 6
            have hN0 := HNB.out
            have E0 := Lib.hid ((BB0.out.fr fq).set7 (.slice p3 n3 c3) (.slice q3 m3 d3) (.slice a3 l3 b3) (.int .i64 g2.t) (.int .i64 g2.s) (.int .i64 g2.u) (.int .i64 g2.v))
            have E1 := Lib.hid ((BB1.out.fr fq).other7 (g := N) n8 (.slice p3 n3 c3) (.slice q3 m3 d3) (.slice a3 l3 b3) (.int .i64 g2.t) (.int .i64 g2.s) (.int .i64 g2.u) (.int .i64 g2.v))
            have OE := Lib.hid ((OH.set7 (g := N) (by omega) (.slice p3 n3 c3) (.slice q3 m3 d3) (.slice a3 l3 b3) (.int .i64 g2.t) (.int .i64 g2.s) (.int .i64 g2.u) (.int .i64 g2.v)).mono (B' := w.heap.size + 1 + 1) (by omega))
            have FE := Lib.hid ((F.trans fq).set7 (g := N) hN0 (.slice p3 n3 c3) (.slice q3 m3 d3) (.slice a3 l3 b3) (.int .i64 g2.t) (.int .i64 g2.s) (.int .i64 g2.u) (.int .i64 g2.v))
            have hj1 : j + 1 ≤ k := by omega
            clear fq OO BB0 BB1 Bq OH hgo2 hbq hg2 hI hds z5 z6 hB3 hgq
            go_wp2
            go_roundw
            case rel => exact ⟨j + 1, g2, p3, n3, c3, q3, m3, d3, a3, l3, b3, by go_num, by omega, HK2, HR, E0.out, E1.out, OE.out, FE.out⟩
            case measure => simp [intOf]; omega
      · obtain rfl : j = k := by omega
        have HR : Hid (hRun h ds = (g, j)) := Lib.hid (by rw [HRUN.out, List.drop_of_length_le (by omega)]; simp [hRun])
        have k0 := BB0.out.cell (j := 0) (v := .slice p1 n1 c1) rfl; have k1 := BB0.out.cell (j := 1) (v := .slice q1 m1 d1) rfl; have k2 := BB0.out.cell (j := 2) (v := .slice a1 l1 b1) rfl; have k3 := BB0.out.cell (j := 3) (v := .int .i64 g.t) rfl; have k4 := BB0.out.cell (j := 4) (v := .int .i64 g.s) rfl; have k5 := BB0.out.cell (j := 5) (v := .int .i64 g.u) rfl; have k6 := BB0.out.cell (j := 6) (v := .int .i64 g.v) rfl
        have j0 := BB1.out.cell (j := 0) rfl; have j1 := BB1.out.cell (j := 1) rfl; have j2 := BB1.out.cell (j := 2) rfl; have j3 := BB1.out.cell (j := 3) rfl; have j4 := BB1.out.cell (j := 4) rfl; have j5 := BB1.out.cell (j := 5) rfl; have j6 := BB1.out.cell (j := 6) rfl
        have i0 := BB1.out.free 0; have i1 := BB1.out.free 1; have i2 := BB1.out.free 2; have i3 := BB1.out.free 3; have i4 := BB1.out.free 4; have i5 := BB1.out.free 5; have i6 := BB1.out.free 6
        have hki : ¬ (j : Int) < (j : Int) := by omega
        have z5 := F.size
        have E := Lib.hid (BB1.out.set7 (.slice p1 n1 c1) (.slice q1 m1 d1) (.slice a1 l1 b1) (.int .i64 g.t) (.int .i64 g.s) (.int .i64 g.u) (.int .i64 g.v))
        have OE := Lib.hid (OO.out.set7 (g := w.heap.size + 1) (by omega) (.slice p1 n1 c1) (.slice q1 m1 d1) (.slice a1 l1 b1) (.int .i64 g.t) (.int .i64 g.s) (.int .i64 g.u) (.int .i64 g.v))
        have FE := Lib.hid (F.set7 (g := w.heap.size + 1) (by omega) (.slice p1 n1 c1) (.slice q1 m1 d1) (.slice a1 l1 b1) (.int .i64 g.t) (.int .i64 g.s) (.int .i64 g.u) (.int .i64 g.v))
        clear OO BB0 BB1
        go_wp2
        refine bodyPost_ret (results_HIB Try.results46 _ _ (w.heap.size + 1) _ _ _ _ _ _ _ _ _ rfl rfl rfl E.out) rfl ?_
        rw [HV.out.1, HV.out.2, HR.out, HO.out]
        exact OE.out.ret (by omega) FE.out
end Go.Proofs.Ytojipjjfndgbhaa
