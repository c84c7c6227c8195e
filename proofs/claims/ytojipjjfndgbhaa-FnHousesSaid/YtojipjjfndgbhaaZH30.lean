import Derived.Test.YtojipjjfndgbhaaZH29
import Derived.Test.YtojipjjfndgbhaaZH26
import Derived.Deep.DeepCutAuto
import Derived.Deep.CutRange
import Derived.Deep.RegionHeld3
import Derived.Deep.QuietTactic
/- The law FnHouses. -/
set_option linter.unusedVariables false
namespace Go.Proofs.Ytojipjjfndgbhaa
open Go.ChangeShapes Go.WideShapes Go.ChangeAt Go.RowKit
/-- A drawn tree and prices in a law. -/
structure TlI (w : World) (a : Option Addr) (n cap : Nat) (zs : List Int) (g : Nat) (p : Option Addr) (np cp : Nat) (P : List Int) (q : Option Addr) (nq cq : Nat) (W : List Int) (l : Option Addr) (nl cl : Nat) (X : List Int) (wr : World) : Prop where
  C : SLB wr a n cap zs
  P : SL wr p np cp P
  W : SL wr q nq cq W
  X : SL wr l nl cl X
  B : Blk wr g #[.slice p np cp, .slice q nq cq] 29
  F : Fr w wr
theorem TlI.fr {w : World} {a : Option Addr} {n cap : Nat} {zs : List Int} {g : Nat} {p : Option Addr} {np cp : Nat} {P : List Int} {q : Option Addr} {nq cq : Nat} {W : List Int} {l : Option Addr} {nl cl : Nat} {X : List Int} {wr w' : World} (h : TlI w a n cap zs g p np cp P q nq cq W l nl cl X wr) (f : Fr wr w') : TlI w a n cap zs g p np cp P q nq cq W l nl cl X w' :=
  ⟨h.C.fr f, h.P.fr f, h.W.fr f, h.X.fr f, h.B.fr f, h.F.trans f⟩
theorem TlI.start {w wr : World} {a : Option Addr} {n cap : Nat} {zs : List Int} {p : Option Addr} {np cp : Nat} {q : Option Addr} {nq cq : Nat} {l : Option Addr} {nl cl B : Nat} (hC : SLB wr a n cap zs) (R : TrR B wr p np cp q nq cq l nl cl) (F : Fr w wr) : ∃ P W X, TlI w a n cap zs wr.heap.size p np cp P q nq cq W l nl cl X (wr.alloc (.cells #[.slice p np cp, .slice q nq cq] 29)) := by
  obtain ⟨⟨P, h1⟩, ⟨W, h2⟩, ⟨X, h3⟩, _⟩ := R
  have f := (Fr.refl wr).alloc (.cells #[.slice p np cp, .slice q nq cq] 29)
  exact ⟨P, W, X, hC.fr f, h1.sl.fr f, h2.sl.fr f, h3.sl.fr f, Blk.new _ _ _, F.trans f⟩
/-- A house in a law. -/
structure HlI (k : Nat) (p q a : Option Addr) (n c m d l b : Nat) (h : HSt) (wr : World) : Prop where
  B : Blk wr k #[.slice p n c, .slice q m d, .slice a l b, .int .i64 h.t, .int .i64 h.s, .int .i64 h.u, .int .i64 h.v] 31
  P : SL wr p n c h.P
  W : SL wr q m d h.W
  X : SL wr a l b h.X
section
variable {k : Nat} {p q a : Option Addr} {n c m d l b : Nat} {h : HSt} {wr w' : World}
theorem HlI.fr (H : HlI k p q a n c m d l b h wr) (f : Fr wr w') : HlI k p q a n c m d l b h w' := ⟨H.B.fr f, H.P.fr f, H.W.fr f, H.X.fr f⟩
theorem HlI.start (hP : SL wr p n c h.P) (hW : SL wr q m d h.W) (hX : SL wr a l b h.X) : HlI wr.heap.size p q a n c m d l b h (wr.alloc (.cells #[.slice p n c, .slice q m d, .slice a l b, .int .i64 h.t, .int .i64 h.s, .int .i64 h.u, .int .i64 h.v] 31)) := by
  have f := (Fr.refl wr).alloc (.cells #[.slice p n c, .slice q m d, .slice a l b, .int .i64 h.t, .int .i64 h.s, .int .i64 h.u, .int .i64 h.v] 31)
  exact ⟨Blk.new _ _ _, hP.fr f, hW.fr f, hX.fr f⟩
theorem HlI.c0 (H : HlI k p q a n c m d l b h wr) : wr.cell? ⟨k, 0, none⟩ = some (.slice p n c) := H.B.cell (j := 0) rfl
theorem HlI.c1 (H : HlI k p q a n c m d l b h wr) : wr.cell? ⟨k, 1, none⟩ = some (.slice q m d) := H.B.cell (j := 1) rfl
theorem HlI.c2 (H : HlI k p q a n c m d l b h wr) : wr.cell? ⟨k, 2, none⟩ = some (.slice a l b) := H.B.cell (j := 2) rfl
theorem HlI.c3 (H : HlI k p q a n c m d l b h wr) : wr.cell? ⟨k, 3, none⟩ = some (.int .i64 h.t) := H.B.cell (j := 3) rfl
theorem HlI.c4 (H : HlI k p q a n c m d l b h wr) : wr.cell? ⟨k, 4, none⟩ = some (.int .i64 h.s) := H.B.cell (j := 4) rfl
theorem HlI.c5 (H : HlI k p q a n c m d l b h wr) : wr.cell? ⟨k, 5, none⟩ = some (.int .i64 h.u) := H.B.cell (j := 5) rfl
theorem HlI.c6 (H : HlI k p q a n c m d l b h wr) : wr.cell? ⟨k, 6, none⟩ = some (.int .i64 h.v) := H.B.cell (j := 6) rfl
end
set_option maxRecDepth 100000 in
set_option maxHeartbeats 4000000 in
theorem walk_FnHouses (a : Option Addr) (n cap : Nat) (zs : List Int) (w : World) (h : SLB w a n cap zs) :
    Calls Try.prog 13 #[.slice a n cap] w fun e w' => e = .returned (.bool true) ∧ Fr w w' := by
  have hle := h.le; have hmx := h.mx
  have HV := Lib.hid (vBig_any w a n cap (by omega))
  by_cases hbig : 65536 < n
  · have hd : decide (65536 < n) = true := decide_eq_true hbig
    rw [hd] at HV
    go_enter Try.func13, Try.ntmps13
    go_wp2_with fail
    refine HV.out.mono ?_
    rintro e w' ⟨rfl, rfl⟩
    go_wp2
    go_ret
    exact ⟨rfl, Fr.refl _⟩
  · have hd : decide (65536 < n) = false := decide_eq_false hbig
    rw [hd] at HV
    have H := Lib.hid h
    clear h
    go_enter Try.func13, Try.ntmps13
    go_wp2_with fail
    refine HV.out.mono ?_
    rintro e w' ⟨rfl, rfl⟩
    clear HV hd
    go_wp2_with fail
    refine (DrawNewHouse_any w a n cap zs H.out).mono ?_
    rintro e w1 ⟨p, np, cp, q, nq, cq, l, nl, cl, rfl, R, f⟩
    obtain ⟨P, W, X, S⟩ := TlI.start (H.out.fr f) R f
    clear R f
    obtain ⟨okA, hokA⟩ : ∃ b, b = l3B P W X := ⟨_, rfl⟩
    have Q1 := Lib.hid (fun V h1 h2 h3 => impl_NewHouse_h V p q np cp nq cq P W l nl cl X h1 h2 h3)
    have Q2 := Lib.hid (fun V h1 h2 h3 => spec_NewHouse_h V p q np cp nq cq P W l nl cl X h1 h2 h3)
    have KA : Hid (okA = true → l3B P W X = true ∧ nhH P W X = ⟨P, W, X, 0, 0, 0, 0⟩) := Lib.hid fun e => And.intro (hokA ▸ e) (nhH_yes (hokA ▸ e))
    rw [← hokA] at Q1 Q2
    clear hokA
    generalize nhH P W X = hA at Q1 Q2 KA
    generalize hgx : w1.heap.size = g3 at S
    go_upto_region 4 with fail
    clear hgx
    generalize w1.alloc _ = w2 at S ⊢
    have c0 := S.B.cell (j := 0) (v := .slice p np cp) rfl; have c1 := S.B.cell (j := 1) (v := .slice q nq cq) rfl
    go_wp2_with fail
    refine (Q1.out _ S.P S.W S.X).mono ?_
    rintro e w3 ⟨pA, qA, aA, nA, cA, mA, dA, lA, bA, rfl, s1, s2, s3, f⟩
    have TA := HlI.start s1 s2 s3
    have fz := f.alloc (.cells #[.slice pA nA cA, .slice qA mA dA, .slice aA lA bA, .int .i64 hA.t, .int .i64 hA.s, .int .i64 hA.u, .int .i64 hA.v] 31)
    replace S := S.fr fz
    generalize hgx : w3.heap.size = gA at TA
    clear f fz s1 s2 s3 c0 c1 Q1
    go_upto_region 5 with fail
    clear hgx
    generalize w3.alloc _ = w4 at TA S ⊢
    have c0 := S.B.cell (j := 0) (v := .slice p np cp) rfl; have c1 := S.B.cell (j := 1) (v := .slice q nq cq) rfl
    go_wp2_with fail
    refine (Q2.out _ S.P S.W S.X).mono ?_
    rintro e w5 ⟨pB, qB, aB, nB, cB, mB, dB, lB, bB, rfl, s1, s2, s3, f⟩
    have TB := HlI.start s1 s2 s3
    have fz := f.alloc (.cells #[.slice pB nB cB, .slice qB mB dB, .slice aB lB bB, .int .i64 hA.t, .int .i64 hA.s, .int .i64 hA.u, .int .i64 hA.v] 31)
    replace S := S.fr fz
    replace TA := TA.fr fz
    generalize hgx : w5.heap.size = gB at TB
    clear f fz s1 s2 s3 c0 c1 Q2
    go_upto_region 6 with fail
    clear hgx
    generalize w5.alloc _ = w6 at TB S TA ⊢
    go_wp2_with fail
    refine (vCut_any _ a n cap zs S.C (by omega) 1 (by omega)).mono ?_
    rintro e w7 ⟨pc, mc, cc, ys, rfl, hs, hin, hmc, f⟩
    replace S := S.fr f
    replace TA := TA.fr f
    replace TB := TB.fr f
    clear f
    go_wp2_with fail
    refine (DrawDealHouse_any _ pc mc cc ys hs).mono ?_
    rintro e w8 ⟨hh, kd, da, db, pH, qH, aH, nH, cH, mH, dH, lH, bH, rfl, NH, hz, f⟩
    replace S := S.fr f
    replace TA := TA.fr f
    replace TB := TB.fr f
    clear f hs hin hmc
    have Q3 := Lib.hid (fun V h1 h2 h3 => impl_DealHouse_h V pH qH aH nH cH mH dH lH bH hh kd da db h1 h2 h3 NH.I hz)
    have Q4 := Lib.hid (fun V h1 h2 h3 => spec_DealHouse_h V pH qH aH nH cH mH dH lH bH hh kd da db h1 h2 h3 NH.I hz)
    have KB : Hid (dhB hh (kd, da, db) = true → hOk (dhH hh (kd, da, db)) = true ∧ (dhH hh (kd, da, db)).v = hh.v + 1 ∧ (0 ≤ hh.v ∧ hh.v ≤ 1000)) := Lib.hid fun e => by
      obtain ⟨e1, e2, e3⟩ := dhH_yes e
      exact ⟨by rw [e1]; exact e3, by rw [e1]; rfl, (houseB_all e2).2.2.2⟩
    generalize dhH hh (kd, da, db) = hB at Q3 Q4 KB
    generalize dhB hh (kd, da, db) = okB at Q3 Q4 KB
    have TH := (HlI.start NH.op.sl NH.oq.sl NH.ox.sl).fr ((Fr.refl _).alloc (.cells #[.int .i64 kd, .int .i64 da, .int .i64 db] 58))
    have BD := Blk.new (w8.alloc (.cells #[.slice pH nH cH, .slice qH mH dH, .slice aH lH bH, .int .i64 hh.t, .int .i64 hh.s, .int .i64 hh.u, .int .i64 hh.v] 31)) #[.int .i64 kd, .int .i64 da, .int .i64 db] 58
    have fz := ((Fr.refl w8).alloc (.cells #[.slice pH nH cH, .slice qH mH dH, .slice aH lH bH, .int .i64 hh.t, .int .i64 hh.s, .int .i64 hh.u, .int .i64 hh.v] 31)).alloc (.cells #[.int .i64 kd, .int .i64 da, .int .i64 db] 58)
    clear NH hz
    replace S := S.fr fz
    replace TA := TA.fr fz
    replace TB := TB.fr fz
    rw [World.size_alloc] at BD
    generalize hgx : w8.heap.size = gH at TH BD
    go_upto_region 7 with fail
    clear hgx fz
    generalize (w8.alloc _).alloc _ = w9 at TH BD S TA TB ⊢
    have k0 := TH.c0; have k1 := TH.c1; have k2 := TH.c2; have k3 := TH.c3; have k4 := TH.c4; have k5 := TH.c5; have k6 := TH.c6
    have y0 := BD.cell (j := 0) (v := .int .i64 kd) rfl; have y1 := BD.cell (j := 1) (v := .int .i64 da) rfl; have y2 := BD.cell (j := 2) (v := .int .i64 db) rfl
    go_wp2_with fail
    refine (Q3.out _ TH.P TH.W TH.X).mono ?_
    rintro e w10 ⟨pM, qM, aM, nM, cM, mM, dM, lM, bM, rfl, s1, s2, s3, f⟩
    have TM := HlI.start s1 s2 s3
    have fz := f.alloc (.cells #[.slice pM nM cM, .slice qM mM dM, .slice aM lM bM, .int .i64 hB.t, .int .i64 hB.s, .int .i64 hB.u, .int .i64 hB.v] 31)
    replace S := S.fr fz
    replace TA := TA.fr fz
    replace TB := TB.fr fz
    replace TH := TH.fr fz
    replace BD := BD.fr fz
    generalize hgx : w10.heap.size = gM at TM
    clear f fz s1 s2 s3 k0 k1 k2 k3 k4 k5 k6 y0 y1 y2 Q3
    go_upto_region 8 with fail
    clear hgx
    generalize w10.alloc _ = w11 at TM S TA TB TH BD ⊢
    have k0 := TH.c0; have k1 := TH.c1; have k2 := TH.c2; have k3 := TH.c3; have k4 := TH.c4; have k5 := TH.c5; have k6 := TH.c6
    have y0 := BD.cell (j := 0) (v := .int .i64 kd) rfl; have y1 := BD.cell (j := 1) (v := .int .i64 da) rfl; have y2 := BD.cell (j := 2) (v := .int .i64 db) rfl
    go_wp2_with fail
    refine (Q4.out _ TH.P TH.W TH.X).mono ?_
    rintro e w12 ⟨pN, qN, aN, nN, cN, mN, dN, lN, bN, rfl, s1, s2, s3, f⟩
    have TN := HlI.start s1 s2 s3
    have fz := f.alloc (.cells #[.slice pN nN cN, .slice qN mN dN, .slice aN lN bN, .int .i64 hB.t, .int .i64 hB.s, .int .i64 hB.u, .int .i64 hB.v] 31)
    replace S := S.fr fz
    replace TA := TA.fr fz
    replace TB := TB.fr fz
    replace TH := TH.fr fz
    replace BD := BD.fr fz
    replace TM := TM.fr fz
    generalize hgx : w12.heap.size = gN at TN
    clear f fz s1 s2 s3 k0 k1 k2 k3 k4 k5 k6 y0 y1 y2 Q4
    go_upto_region 9 with fail
    clear hgx
    generalize w12.alloc _ = w13 at TN S TA TB TH BD TM ⊢
    clear BD
    go_wp2_with fail
    refine (vCut_any _ a n cap zs S.C (by omega) 2 (by omega)).mono ?_
    rintro e w14 ⟨pc, mc, cc, ys, rfl, hs, hin, hmc, f⟩
    replace S := S.fr f
    replace TA := TA.fr f
    replace TB := TB.fr f
    replace TH := TH.fr f
    replace TM := TM.fr f
    replace TN := TN.fr f
    clear f
    go_wp2_with fail
    refine (DrawDealAll_any _ pc mc cc ys hs).mono ?_
    rintro e w15 ⟨hx, pX, qX, aX, nX, cX, mX, dX, lX, bX, yk, jk, ek, ds, rfl, NX, SD0, hjk, f⟩
    replace S := S.fr f
    replace TA := TA.fr f
    replace TB := TB.fr f
    replace TH := TH.fr f
    replace TM := TM.fr f
    replace TN := TN.fr f
    clear f hs hin hmc
    have hle2 := NX.le
    have TX := HlI.start NX.op.sl NX.oq.sl NX.ox.sl
    have Q5 := Lib.hid (fun V h1 h2 h3 h4 => impl_DealAll_h V pX qX aX nX cX mX dX lX bX hx h1 h2 h3 hle2 yk jk ek ds h4 hjk)
    have Q6 := Lib.hid (fun V h1 h2 h3 h4 => spec_DealAll_h V pX qX aX nX cX mX dX lX bX hx h1 h2 h3 hle2 yk jk ek ds h4 hjk)
    have KE : Hid (hOk hx = true → hOk (allH hx ds) = true) := Lib.hid fun e => allH_ok e
    generalize allH hx ds = hE at Q5 Q6 KE
    generalize allN hx ds = iE at Q5 Q6
    generalize hOk hx = okE at Q5 Q6 KE
    have fz := (Fr.refl w15).alloc (.cells #[.slice pX nX cX, .slice qX mX dX, .slice aX lX bX, .int .i64 hx.t, .int .i64 hx.s, .int .i64 hx.u, .int .i64 hx.v] 31)
    replace SD0 := SD0.fr fz
    clear NX hle2
    replace S := S.fr fz
    replace TA := TA.fr fz
    replace TB := TB.fr fz
    replace TH := TH.fr fz
    replace TM := TM.fr fz
    replace TN := TN.fr fz
    generalize hgx : w15.heap.size = gX at TX
    go_upto_region 10 with fail
    clear hgx fz
    generalize w15.alloc _ = w16 at TX SD0 S TA TB TH TM TN ⊢
    have k0 := TX.c0; have k1 := TX.c1; have k2 := TX.c2; have k3 := TX.c3; have k4 := TX.c4; have k5 := TX.c5; have k6 := TX.c6
    go_wp2_with fail
    refine (Q5.out _ TX.P TX.W TX.X SD0).mono ?_
    rintro e w17 ⟨pE, qE, aE, nE, cE, mE, dE, lE, bE, rfl, s1, s2, s3, f⟩
    have TE := HlI.start s1 s2 s3
    have fz := f.alloc (.cells #[.slice pE nE cE, .slice qE mE dE, .slice aE lE bE, .int .i64 hE.t, .int .i64 hE.s, .int .i64 hE.u, .int .i64 hE.v] 31)
    replace S := S.fr fz
    replace TA := TA.fr fz
    replace TB := TB.fr fz
    replace TH := TH.fr fz
    replace TM := TM.fr fz
    replace TN := TN.fr fz
    replace TX := TX.fr fz
    replace SD0 := SD0.fr fz
    generalize hgx : w17.heap.size = gE at TE
    clear f fz s1 s2 s3 k0 k1 k2 k3 k4 k5 k6 Q5
    go_upto_region 11 with fail
    clear hgx
    generalize w17.alloc _ = w18 at TE S TA TB TH TM TN TX SD0 ⊢
    have k0 := TX.c0; have k1 := TX.c1; have k2 := TX.c2; have k3 := TX.c3; have k4 := TX.c4; have k5 := TX.c5; have k6 := TX.c6
    go_wp2_with fail
    refine (Q6.out _ TX.P TX.W TX.X SD0).mono ?_
    rintro e w19 ⟨pG, qG, aG, nG, cG, mG, dG, lG, bG, rfl, s1, s2, s3, f⟩
    have TG := HlI.start s1 s2 s3
    have fz := f.alloc (.cells #[.slice pG nG cG, .slice qG mG dG, .slice aG lG bG, .int .i64 hE.t, .int .i64 hE.s, .int .i64 hE.u, .int .i64 hE.v] 31)
    replace S := S.fr fz
    replace TA := TA.fr fz
    replace TB := TB.fr fz
    replace TH := TH.fr fz
    replace TM := TM.fr fz
    replace TN := TN.fr fz
    replace TX := TX.fr fz
    replace SD0 := SD0.fr fz
    replace TE := TE.fr fz
    generalize hgx : w19.heap.size = gG at TG
    clear f fz s1 s2 s3 k0 k1 k2 k3 k4 k5 k6 Q6
    go_upto_region 12 with fail
    clear hgx
    generalize w19.alloc _ = w20 at TG S TA TB TH TM TN TX SD0 TE ⊢
    clear TX SD0
    obtain rfl : nA = nB := TA.P.len.symm.trans TB.P.len
    obtain rfl : mA = mB := TA.W.len.symm.trans TB.W.len
    obtain rfl : lA = lB := TA.X.len.symm.trans TB.X.len
    obtain rfl : nM = nN := TM.P.len.symm.trans TN.P.len
    obtain rfl : mM = mN := TM.W.len.symm.trans TN.W.len
    obtain rfl : lM = lN := TM.X.len.symm.trans TN.X.len
    obtain rfl : nE = nG := TE.P.len.symm.trans TG.P.len
    obtain rfl : mE = mG := TE.W.len.symm.trans TG.W.len
    obtain rfl : lE = lG := TE.X.len.symm.trans TG.X.len
    go_cut [133] from 91 to 133 (fun s wx => s = .bool false ∧ Fr w20 wx)
    case first =>
      have kA0 : ∀ V : World, Fr w20 V → V.cell? ⟨gA, 0, none⟩ = some (.slice pA nA cA) := fun V f => (TA.fr f).c0
      have kA1 : ∀ V : World, Fr w20 V → V.cell? ⟨gA, 1, none⟩ = some (.slice qA mA dA) := fun V f => (TA.fr f).c1
      have kA2 : ∀ V : World, Fr w20 V → V.cell? ⟨gA, 2, none⟩ = some (.slice aA lA bA) := fun V f => (TA.fr f).c2
      have kA3 : ∀ V : World, Fr w20 V → V.cell? ⟨gA, 3, none⟩ = some (.int .i64 hA.t) := fun V f => (TA.fr f).c3
      have kA4 : ∀ V : World, Fr w20 V → V.cell? ⟨gA, 4, none⟩ = some (.int .i64 hA.s) := fun V f => (TA.fr f).c4
      have kA5 : ∀ V : World, Fr w20 V → V.cell? ⟨gA, 5, none⟩ = some (.int .i64 hA.u) := fun V f => (TA.fr f).c5
      have kA6 : ∀ V : World, Fr w20 V → V.cell? ⟨gA, 6, none⟩ = some (.int .i64 hA.v) := fun V f => (TA.fr f).c6
      have kB0 : ∀ V : World, Fr w20 V → V.cell? ⟨gB, 0, none⟩ = some (.slice pB nA cB) := fun V f => (TB.fr f).c0
      have kB1 : ∀ V : World, Fr w20 V → V.cell? ⟨gB, 1, none⟩ = some (.slice qB mA dB) := fun V f => (TB.fr f).c1
      have kB2 : ∀ V : World, Fr w20 V → V.cell? ⟨gB, 2, none⟩ = some (.slice aB lA bB) := fun V f => (TB.fr f).c2
      have kB3 : ∀ V : World, Fr w20 V → V.cell? ⟨gB, 3, none⟩ = some (.int .i64 hA.t) := fun V f => (TB.fr f).c3
      have kB4 : ∀ V : World, Fr w20 V → V.cell? ⟨gB, 4, none⟩ = some (.int .i64 hA.s) := fun V f => (TB.fr f).c4
      have kB5 : ∀ V : World, Fr w20 V → V.cell? ⟨gB, 5, none⟩ = some (.int .i64 hA.u) := fun V f => (TB.fr f).c5
      have kB6 : ∀ V : World, Fr w20 V → V.cell? ⟨gB, 6, none⟩ = some (.int .i64 hA.v) := fun V f => (TB.fr f).c6
      have kH0 : ∀ V : World, Fr w20 V → V.cell? ⟨gH, 0, none⟩ = some (.slice pH nH cH) := fun V f => (TH.fr f).c0
      have kH1 : ∀ V : World, Fr w20 V → V.cell? ⟨gH, 1, none⟩ = some (.slice qH mH dH) := fun V f => (TH.fr f).c1
      have kH2 : ∀ V : World, Fr w20 V → V.cell? ⟨gH, 2, none⟩ = some (.slice aH lH bH) := fun V f => (TH.fr f).c2
      have kH3 : ∀ V : World, Fr w20 V → V.cell? ⟨gH, 3, none⟩ = some (.int .i64 hh.t) := fun V f => (TH.fr f).c3
      have kH4 : ∀ V : World, Fr w20 V → V.cell? ⟨gH, 4, none⟩ = some (.int .i64 hh.s) := fun V f => (TH.fr f).c4
      have kH5 : ∀ V : World, Fr w20 V → V.cell? ⟨gH, 5, none⟩ = some (.int .i64 hh.u) := fun V f => (TH.fr f).c5
      have kH6 : ∀ V : World, Fr w20 V → V.cell? ⟨gH, 6, none⟩ = some (.int .i64 hh.v) := fun V f => (TH.fr f).c6
      have kM0 : ∀ V : World, Fr w20 V → V.cell? ⟨gM, 0, none⟩ = some (.slice pM nM cM) := fun V f => (TM.fr f).c0
      have kM1 : ∀ V : World, Fr w20 V → V.cell? ⟨gM, 1, none⟩ = some (.slice qM mM dM) := fun V f => (TM.fr f).c1
      have kM2 : ∀ V : World, Fr w20 V → V.cell? ⟨gM, 2, none⟩ = some (.slice aM lM bM) := fun V f => (TM.fr f).c2
      have kM3 : ∀ V : World, Fr w20 V → V.cell? ⟨gM, 3, none⟩ = some (.int .i64 hB.t) := fun V f => (TM.fr f).c3
      have kM4 : ∀ V : World, Fr w20 V → V.cell? ⟨gM, 4, none⟩ = some (.int .i64 hB.s) := fun V f => (TM.fr f).c4
      have kM5 : ∀ V : World, Fr w20 V → V.cell? ⟨gM, 5, none⟩ = some (.int .i64 hB.u) := fun V f => (TM.fr f).c5
      have kM6 : ∀ V : World, Fr w20 V → V.cell? ⟨gM, 6, none⟩ = some (.int .i64 hB.v) := fun V f => (TM.fr f).c6
      have kN0 : ∀ V : World, Fr w20 V → V.cell? ⟨gN, 0, none⟩ = some (.slice pN nM cN) := fun V f => (TN.fr f).c0
      have kN1 : ∀ V : World, Fr w20 V → V.cell? ⟨gN, 1, none⟩ = some (.slice qN mM dN) := fun V f => (TN.fr f).c1
      have kN2 : ∀ V : World, Fr w20 V → V.cell? ⟨gN, 2, none⟩ = some (.slice aN lM bN) := fun V f => (TN.fr f).c2
      have kN3 : ∀ V : World, Fr w20 V → V.cell? ⟨gN, 3, none⟩ = some (.int .i64 hB.t) := fun V f => (TN.fr f).c3
      have kN4 : ∀ V : World, Fr w20 V → V.cell? ⟨gN, 4, none⟩ = some (.int .i64 hB.s) := fun V f => (TN.fr f).c4
      have kN5 : ∀ V : World, Fr w20 V → V.cell? ⟨gN, 5, none⟩ = some (.int .i64 hB.u) := fun V f => (TN.fr f).c5
      have kN6 : ∀ V : World, Fr w20 V → V.cell? ⟨gN, 6, none⟩ = some (.int .i64 hB.v) := fun V f => (TN.fr f).c6
      have kE0 : ∀ V : World, Fr w20 V → V.cell? ⟨gE, 0, none⟩ = some (.slice pE nE cE) := fun V f => (TE.fr f).c0
      have kE1 : ∀ V : World, Fr w20 V → V.cell? ⟨gE, 1, none⟩ = some (.slice qE mE dE) := fun V f => (TE.fr f).c1
      have kE2 : ∀ V : World, Fr w20 V → V.cell? ⟨gE, 2, none⟩ = some (.slice aE lE bE) := fun V f => (TE.fr f).c2
      have kE3 : ∀ V : World, Fr w20 V → V.cell? ⟨gE, 3, none⟩ = some (.int .i64 hE.t) := fun V f => (TE.fr f).c3
      have kE4 : ∀ V : World, Fr w20 V → V.cell? ⟨gE, 4, none⟩ = some (.int .i64 hE.s) := fun V f => (TE.fr f).c4
      have kE5 : ∀ V : World, Fr w20 V → V.cell? ⟨gE, 5, none⟩ = some (.int .i64 hE.u) := fun V f => (TE.fr f).c5
      have kE6 : ∀ V : World, Fr w20 V → V.cell? ⟨gE, 6, none⟩ = some (.int .i64 hE.v) := fun V f => (TE.fr f).c6
      have kG0 : ∀ V : World, Fr w20 V → V.cell? ⟨gG, 0, none⟩ = some (.slice pG nE cG) := fun V f => (TG.fr f).c0
      have kG1 : ∀ V : World, Fr w20 V → V.cell? ⟨gG, 1, none⟩ = some (.slice qG mE dG) := fun V f => (TG.fr f).c1
      have kG2 : ∀ V : World, Fr w20 V → V.cell? ⟨gG, 2, none⟩ = some (.slice aG lE bG) := fun V f => (TG.fr f).c2
      have kG3 : ∀ V : World, Fr w20 V → V.cell? ⟨gG, 3, none⟩ = some (.int .i64 hE.t) := fun V f => (TG.fr f).c3
      have kG4 : ∀ V : World, Fr w20 V → V.cell? ⟨gG, 4, none⟩ = some (.int .i64 hE.s) := fun V f => (TG.fr f).c4
      have kG5 : ∀ V : World, Fr w20 V → V.cell? ⟨gG, 5, none⟩ = some (.int .i64 hE.u) := fun V f => (TG.fr f).c5
      have kG6 : ∀ V : World, Fr w20 V → V.cell? ⟨gG, 6, none⟩ = some (.int .i64 hE.v) := fun V f => (TG.fr f).c6
      have C0 := Lib.hid (fun (V : World) (f : Fr w20 V) => (vHouse_same V _ _ _ _ _ _ _ _ _ _ _ _ _ _ _ hA.P hA.W hA.X hA.t hA.s hA.u hA.v (TA.P.fr f) (TA.W.fr f) (TA.X.fr f) (TB.P.fr f) (TB.W.fr f) (TB.X.fr f)).mono (fun e w' h => And.intro h.1 (f.trans h.2)))
      have C1 := Lib.hid (fun (V : World) (f : Fr w20 V) => (vHouse_same V _ _ _ _ _ _ _ _ _ _ _ _ _ _ _ hB.P hB.W hB.X hB.t hB.s hB.u hB.v (TM.P.fr f) (TM.W.fr f) (TM.X.fr f) (TN.P.fr f) (TN.W.fr f) (TN.X.fr f)).mono (fun e w' h => And.intro h.1 (f.trans h.2)))
      have C2 := Lib.hid (fun (V : World) (f : Fr w20 V) => (vHouse_same V _ _ _ _ _ _ _ _ _ _ _ _ _ _ _ hE.P hE.W hE.X hE.t hE.s hE.u hE.v (TE.P.fr f) (TE.W.fr f) (TE.X.fr f) (TG.P.fr f) (TG.W.fr f) (TG.X.fr f)).mono (fun e w' h => And.intro h.1 (f.trans h.2)))
      have I0 := Lib.hid (fun (V : World) (f : Fr w20 V) => (impl_IsHouse_h V _ _ _ _ _ _ _ _ _ hh (TH.P.fr f) (TH.W.fr f) (TH.X.fr f)).mono (fun e w' h => And.intro h.1 (f.trans h.2)))
      have I1 := Lib.hid (fun (V : World) (f : Fr w20 V) => (spec_IsHouse_h V _ _ _ _ _ _ _ _ _ hh (TH.P.fr f) (TH.W.fr f) (TH.X.fr f)).mono (fun e w' h => And.intro h.1 (f.trans h.2)))
      generalize hOk hh = okH at I0 I1
      have bA : (okA != okA) = false := by cases okA <;> rfl
      have bB : (okB != okB) = false := by cases okB <;> rfl
      have bE : (okE != okE) = false := by cases okE <;> rfl
      have bH : (okH != okH) = false := by cases okH <;> rfl
      have bI : ((iE : Int) != (iE : Int)) = false := by simp
      have f0 : Fr w20 w20.drew := (Fr.refl w20).drew' 1
      clear KA KB KE S TA TB TH TM TN TE TG
      go_region_held3 (fun w' => Fr w20 w')
        (first | assumption)
        (first
          | (go_at_call 60; (with_reducible refine (C0.out _ (by assumption)).mono ?_); rintro e wb ⟨rfl, fb⟩)
          | (go_at_call 60; (with_reducible refine (C1.out _ (by assumption)).mono ?_); rintro e wb ⟨rfl, fb⟩)
          | (go_at_call 60; (with_reducible refine (C2.out _ (by assumption)).mono ?_); rintro e wb ⟨rfl, fb⟩)
          | (go_at_call 18; (with_reducible refine (I0.out _ (by assumption)).mono ?_); rintro e wb ⟨rfl, fb⟩)
          | (go_at_call 16; (with_reducible refine (I1.out _ (by assumption)).mono ?_); rintro e wb ⟨rfl, fb⟩))
      all_goals
        go_wp2_with fail
        go_meet
        exact ⟨rfl, by assumption⟩
    case rest =>
      obtain ⟨rfl, f⟩ := hcut
      obtain ⟨w21, rfl⟩ : ∃ wz : World, wz = wc := ⟨_, rfl⟩
      replace S := S.fr f
      replace TA := TA.fr f
      replace TH := TH.fr f
      replace TM := TM.fr f
      replace TE := TE.fr f
      clear f TB TN TG
      go_upto_region 14 with fail
      go_cut [155] from 134 to 155 (fun s wx => s = .bool false ∧ Fr w21 wx)
      case first =>
        as_aux_lemma =>
          clear S TA KA
          cases okB
          · cases okE
            · go_wp2_with fail
              go_meet
              exact ⟨rfl, Fr.refl _⟩
            · have hE1 := KE.out rfl
              have z0 := TE.c0; have z1 := TE.c1; have z2 := TE.c2; have z3 := TE.c3; have z4 := TE.c4; have z5 := TE.c5; have z6 := TE.c6
              go_wp2_with fail
              refine (impl_IsHouse_h _ _ _ _ _ _ _ _ _ _ hE TE.P TE.W TE.X).mono ?_
              rintro e w22 ⟨rfl, f⟩
              rw [hE1]
              go_wp2_with fail
              go_meet
              exact ⟨rfl, f⟩
          · obtain ⟨k1, k2, k3⟩ := KB.out rfl
            have HK2 := Lib.hid k2
            clear k2
            have x0 := TM.c0; have x1 := TM.c1; have x2 := TM.c2; have x3 := TM.c3; have x4 := TM.c4; have x5 := TM.c5; have x6 := TM.c6
            go_wp2_with fail
            refine (impl_IsHouse_h _ _ _ _ _ _ _ _ _ _ hB TM.P TM.W TM.X).mono ?_
            rintro e w22 ⟨rfl, f⟩
            rw [k1]
            replace TM := TM.fr f
            replace TH := TH.fr f
            replace TE := TE.fr f
            clear x0 x1 x2 x3 x4 x5 x6
            have x6 := TM.c6
            have y6 := TH.c6
            have hb : (hB.v != hh.v + 1) = false := by rw [HK2.out]; simp
            cases okE
            · go_wp2_with fail
              go_meet
              exact ⟨rfl, f⟩
            · have hE1 := KE.out rfl
              have z0 := TE.c0; have z1 := TE.c1; have z2 := TE.c2; have z3 := TE.c3; have z4 := TE.c4; have z5 := TE.c5; have z6 := TE.c6
              go_wp2_with fail
              refine (impl_IsHouse_h _ _ _ _ _ _ _ _ _ _ hE TE.P TE.W TE.X).mono ?_
              rintro e w23 ⟨rfl, f2⟩
              rw [hE1]
              clear x6 y6
              go_wp2_with fail
              go_meet
              exact ⟨rfl, f.trans f2⟩
      case rest =>
        obtain ⟨rfl, f⟩ := hcut
        obtain ⟨w22, rfl⟩ : ∃ wz : World, wz = wc := ⟨_, rfl⟩
        replace S := S.fr f
        replace TA := TA.fr f
        clear f TH TM TE KB KE
        cases okA
        · have F := S.F
          go_wp2
          go_ret
          exact ⟨rfl, F⟩
        · obtain ⟨hl3, rfl⟩ := KA.out rfl
          clear KA
          have HL := Lib.hid hl3
          clear hl3
          have hls := l3B_len HL.out
          have HXL := Lib.hid S.X.len
          have HPL := Lib.hid S.P.len
          have hnl : nl ≤ 24 ∧ 1 ≤ nl := by have := HXL.out; omega
          have hnp : np = nl := by have := HXL.out; have := HPL.out; omega
          subst hnp
          clear hls
          have oS := Own.made0 (B := w22.heap.size) w22 (Nat.le_refl _)
          have f0 := (Fr.refl w22).alloc (.cells #[] 3)
          have HS := Lib.hid S
          have HTA := Lib.hid TA
          clear S TA
          go_upto_region 19 with fail
          go_wp2
          go_loopw [23, 24] (fun s i wr => ∃ (j cy : Nat) (y : Option Addr) (T : List Int), j ≤ np ∧ s = .slice y j cy ∧ i = .int .i64 j ∧ Own w22.heap.size wr y j cy T ∧ Hid (∀ i, i < j → nth T i = 3) ∧ Fr w22 wr) (fun _ i _ => np - (intOf i).toNat)
          case atStart => exact ⟨0, 0, _, [], Nat.zero_le _, rfl, rfl, oS, Lib.hid (fun i hi => by omega), f0⟩
          case round =>
            clear oS f0
            obtain ⟨j, cy, y, T, hj, rfl, rfl, o, HT, f⟩ := hrel
            obtain ⟨wo, rfl⟩ : ∃ wz : World, wz = wr := ⟨_, rfl⟩
            by_cases hlt : j < np
            · have vj : (j : Int) < (np : Int) := by omega
              have HTL := Lib.hid o.len
              have hsz := f.size
              go_wp2_with (at_builtin; refine ap_int _ rfl _ _ rfl w22.heap.size y j cy T 3 rfl rfl o hsz (by unfold I64; omega) (by omega) ?_)
              intro g' cy' w24 q1 q2 q3
              have F2 := f.grown q2 (fun z hz => (o.blk z hz).1)
              clear o f q2 q3 hsz
              go_wp2
              go_roundw
              case rel => exact ⟨j + 1, cy', _, _, by omega, rfl, by go_num, q1, Lib.hid (snoc3 HTL.out HT.out), F2⟩
              case measure => simp [intOf]; omega
            · obtain rfl : np = j := by omega
              obtain ⟨w25, rfl⟩ : ∃ wz : World, wz = wo := ⟨_, rfl⟩
              have S := HS.out.fr f
              have TA := HTA.out.fr f
              have sT := o.sl
              have hb24 := S.F.size
              clear HS HTA f o
              have c0 := S.B.cell (j := 0) (v := .slice p np cp) rfl; have c1 := S.B.cell (j := 1) (v := .slice q nq cq) rfl
              go_wp2_with fail
              refine (StakeGains_3 _ p q l y np cp nq cq np cl np cy P W X T S.P S.W S.X sT HL.out rfl HT.out).mono ?_
              rintro e w26 ⟨yg, cg, G, rfl, oG, HG, f⟩
              have HGN := Lib.hid HG
              clear HG
              replace S := S.fr f
              replace TA := TA.fr f
              have hb25 := f.size
              clear f sT HT c0 c1
              go_upto_region 24 with fail
              obtain ⟨N, hN⟩ : ∃ N, N = np - 1 := ⟨_, rfl⟩
              have eN : (np : Int) - 1 = (N : Int) := by omega
              have hNn : N < np := by omega
              clear hN
              have c0 := S.B.cell (j := 0) (v := .slice p np cp) rfl; have c1 := S.B.cell (j := 1) (v := .slice q nq cq) rfl
              go_wp2_with fail
              refine (WayTo_yes _ p q np cp nq cq N P W S.P S.W (l3B_iff.1 HL.out).1 hNn).mono ?_
              rintro e w27 ⟨yw, lw, cw, rfl, oW, f, hlw⟩
              replace S := S.fr f
              replace TA := TA.fr f
              replace oG := oG.fr f
              have hb26 := f.size
              clear f c0 c1
              go_upto_region 25 with fail
              have x0 := TA.c0; have x1 := TA.c1; have x2 := TA.c2; have x3 := TA.c3; have x4 := TA.c4; have x5 := TA.c5; have x6 := TA.c6
              have tP : SL w27 pA nA cA P := TA.P
              have tW : SL w27 qA mA dA W := TA.W
              have tX : SL w27 aA lA bA X := TA.X
              go_wp2_with fail
              obtain ⟨z, hz0⟩ : ∃ z : Nat, z = 0 := ⟨0, rfl⟩
              obtain ⟨k, hk1⟩ : ∃ k : Nat, k = 1 := ⟨1, rfl⟩
              have HZ0 := Lib.hid hz0; have HK1 := Lib.hid hk1
              clear hz0 hk1
              refine (stake_w _ pA qA aA nA cA mA dA lA bA P W X z k HZ0.out HK1.out tP tW tX HL.out).mono ?_
              rintro e w28 ⟨p7, q7, a7, n7, c7, m7, d7, l7, b7, rfl, N7, f⟩
              have fz := f.alloc (.cells #[.slice p7 n7 c7, .slice q7 m7 d7, .slice a7 l7 b7, .int .i64 (z : Int), .int .i64 3, .int .i64 (3 * (nth X z - nth X 0)), .int .i64 (k : Int)] 31)
              have B7 := Blk.new w28 #[.slice p7 n7 c7, .slice q7 m7 d7, .slice a7 l7 b7, .int .i64 (z : Int), .int .i64 3, .int .i64 (3 * (nth X z - nth X 0)), .int .i64 (k : Int)] 31
              have F := S.F.trans fz
              have hs27 := S.F.size
              have hs28 := f.size
              have h7 := N7.high (Nat.le_refl _)
              have N8 := (N7.mono hs27 (Nat.le_refl _)).fr ((Fr.refl w28).alloc (.cells #[.slice p7 n7 c7, .slice q7 m7 d7, .slice a7 l7 b7, .int .i64 (z : Int), .int .i64 3, .int .i64 (3 * (nth X z - nth X 0)), .int .i64 (k : Int)] 31))
              have HPB : Hid (parB P = true) := Lib.hid (treeB_iff.1 (l3B_iff.1 HL.out).1).2.2.1
              have HNP : Hid (N < P.length) := Lib.hid (by have := HPL.out; omega)
              have HWL := Lib.hid oW.len
              have hlw1 : 1 ≤ lw := by have := (wayM_len HPB.out HNP.out).1; have := HWL.out; omega
              have hG7 : blkOf yg ≠ some w28.heap.size := fun e => by have := (oG.blk _ e).2; omega
              have hW7 : blkOf yw ≠ some w28.heap.size := fun e => by have := (oW.blk _ e).2; omega
              have oG2 := (oG.fr fz).mono (show w.heap.size ≤ w25.heap.size by omega)
              have oW2 := (oW.fr fz).mono (show w.heap.size ≤ w26.heap.size by omega)
              have hw0 : w.heap.size ≤ w28.heap.size := by omega
              obtain ⟨gg, rfl, _⟩ := oG2.op (by omega)
              obtain ⟨gw, rfl, _⟩ := oW2.op (by omega)
              have HG7 := Lib.hid hG7; have HW7 := Lib.hid hW7
              have HST : Hid (nth (wayM P N) (k - 1) = (z : Int)) := Lib.hid (by rw [HK1.out, HZ0.out]; exact (way_ends HPB.out N N (Nat.le_refl _) HNP.out).1)
              have hzk : z < np ∧ 1 ≤ k ∧ k ≤ lw := by have := HZ0.out; have := HK1.out; omega
              have HKI : Hid ((k : Int) = 1) := Lib.hid (by have := HK1.out; omega)
              clear S TA tP tW tX x0 x1 x2 x3 x4 x5 x6 N7 f fz oG oW hG7 hW7 hs27 hs28 hb25 hb26 HZ0 HK1
              go_upto_region 26 with fail
              generalize w28.heap.size = b29 at B7 h7 HG7 HW7 hw0 ⊢
              generalize w28.alloc _ = w29 at B7 N8 F oG2 oW2 ⊢
              go_wp2
              go_loopw [30, 31] (fun t i wr => ∃ (k z : Nat) (p7 q7 a7 : Option Addr) (n7 c7 m7 d7 l7 b7 : Nat), (z < np ∧ 1 ≤ k ∧ k ≤ lw) ∧ t = .bool true ∧ i = .int .i64 k ∧ Hid (nth (wayM P N) (k - 1) = (z : Int)) ∧ Blk wr b29 #[.slice p7 n7 c7, .slice q7 m7 d7, .slice a7 l7 b7, .int .i64 (z : Int), .int .i64 3, .int .i64 (3 * (nth X z - nth X 0)), .int .i64 (k : Int)] 31 ∧ HsN 50 w.heap.size wr p7 q7 a7 n7 c7 m7 d7 l7 b7 (wkH P W X z k) ∧ (blkOf p7 ≠ some b29 ∧ blkOf q7 ≠ some b29 ∧ blkOf a7 ≠ some b29) ∧ Own w.heap.size wr (some ⟨gg, 0, none⟩) np cg G ∧ Own w.heap.size wr (some ⟨gw, 0, none⟩) lw cw (wayM P N) ∧ Fr w wr) (fun _ i _ => lw - (intOf i).toNat)
              case atStart => exact ⟨k, z, _, _, _, _, _, _, _, _, _, hzk, rfl, by rw [HKI.out], HST, B7, N8, h7, oG2, oW2, F⟩
              case round =>
                clear B7 N8 h7 oG2 oW2 F HST hzk HKI
                obtain ⟨k, z, p7, q7, a7, n7, c7, m7, d7, l7, b7, hzk, rfl, rfl, HST, B7, N7, h7, oG, oW, F⟩ := hrel
                obtain ⟨wo, rfl⟩ : ∃ wz : World, wz = wr := ⟨_, rfl⟩
                have vk0 : (0 : Int) ≤ (k : Int) := by omega
                by_cases hlt : k < lw
                · have vk : (k : Int) < (lw : Int) := by omega
                  obtain ⟨y, z', h1, h2, h3, h4, h5⟩ := way_next HPB.out N N (Nat.le_refl _) HNP.out (k - 1) (by have := HWL.out; omega)
                  have ek : k - 1 + 1 = k := by omega
                  rw [ek] at h2
                  obtain rfl : z = z' := by have := HST.out; omega
                  obtain ⟨k', hk'⟩ : ∃ k' : Nat, k' = k + 1 := ⟨_, rfl⟩
                  have HK := Lib.hid hk'
                  have HST2 : Hid (nth (wayM P N) (k' - 1) = (y : Int)) := Lib.hid (by rw [hk']; exact h2)
                  have HNX := Lib.hid h3; have H4 := Lib.hid h4; have H5 := Lib.hid h5
                  have hynp : y < np := by have := HPL.out; omega
                  clear hk' ek h1 h3 h4 h5
                  go_upto_region 29 with fail
                  go_cut [32, 33] from 198 to 207 (fun s32 s33 wx => ∃ (j : Nat) (p2 q2 a2 : Option Addr) (n2 c2 m2 d2 l2 b2 : Nat), s32 = .pointer (some ⟨j, 0, none⟩) ∧ s33 = .bool true ∧ Blk wx j #[.slice p2 n2 c2, .slice q2 m2 d2, .slice a2 l2 b2, .int .i64 (y : Int), .int .i64 3, .int .i64 (3 * (nth X y - nth X 0)), .int .i64 (k' : Int)] 31 ∧ HsN 50 wo.heap.size wx p2 q2 a2 n2 c2 m2 d2 l2 b2 (wkH P W X y k') ∧ Fr wo wx)
                  case first =>
                    have qw := oW.cellAt rfl hlt
                    rw [h2] at qw
                    have kw : ∀ V : World, Fr wo V → V.cell? ⟨gw, k, none⟩ = some (.int .i64 (y : Int)) := fun V f => f.keep qw
                    have k0 : ∀ V : World, Fr wo V → V.cell? ⟨b29, 0, none⟩ = some (.slice p7 n7 c7) := fun V f => (B7.fr f).cell rfl
                    have k1 : ∀ V : World, Fr wo V → V.cell? ⟨b29, 1, none⟩ = some (.slice q7 m7 d7) := fun V f => (B7.fr f).cell rfl
                    have k2 : ∀ V : World, Fr wo V → V.cell? ⟨b29, 2, none⟩ = some (.slice a7 l7 b7) := fun V f => (B7.fr f).cell rfl
                    have k3 : ∀ V : World, Fr wo V → V.cell? ⟨b29, 3, none⟩ = some (.int .i64 (z : Int)) := fun V f => (B7.fr f).cell rfl
                    have k4 : ∀ V : World, Fr wo V → V.cell? ⟨b29, 4, none⟩ = some (.int .i64 3) := fun V f => (B7.fr f).cell rfl
                    have k5 : ∀ V : World, Fr wo V → V.cell? ⟨b29, 5, none⟩ = some (.int .i64 (3 * (nth X z - nth X 0))) := fun V f => (B7.fr f).cell rfl
                    have k6 : ∀ V : World, Fr wo V → V.cell? ⟨b29, 6, none⟩ = some (.int .i64 (k : Int)) := fun V f => (B7.fr f).cell rfl
                    have CW := Lib.hid (fun (V : World) (f : Fr wo V) => walk_v V p7 q7 a7 n7 c7 m7 d7 l7 b7 P W X z y k k' (N7.op.sl.fr f) (N7.oq.sl.fr f) (N7.ox.sl.fr f) HL.out H5.out H4.out HNX.out (by have := (wayM_len HPB.out HNP.out).2; have := HWL.out; omega) HK.out)
                    have f1 : Fr wo wo.drew := (Fr.refl wo).drew' 1
                    have f3 : Fr wo (wo.alloc (.cells #[.slice none 0 0, .slice none 0 0, .slice none 0 0, .int .i64 0, .int .i64 0, .int .i64 0, .int .i64 0] 31)).drew := ((Fr.refl wo).alloc (.cells #[.slice none 0 0, .slice none 0 0, .slice none 0 0, .int .i64 0, .int .i64 0, .int .i64 0, .int .i64 0] 31)).drew' 1
                    have Z3 : Blk (wo.alloc (.cells #[.slice none 0 0, .slice none 0 0, .slice none 0 0, .int .i64 0, .int .i64 0, .int .i64 0, .int .i64 0] 31)).drew wo.heap.size #[.slice none 0 0, .slice none 0 0, .slice none 0 0, .int .i64 0, .int .i64 0, .int .i64 0, .int .i64 0] 31 := (Blk.new wo _ _).fr ((Fr.refl _).drew' 1)
                    clear qw N7 B7 oW oG h7 F h2 HST
                    go_region_held3 (fun w' => Fr wo w')
                      (first | with_reducible assumption | with_reducible exact FB.alloc _ | with_reducible exact FB.set7 (Nat.le_refl _) _ _ _ _ _ _ _)
                      (first
                        | (go_at_call 44; (with_reducible refine (CW.out _ (by assumption)).mono ?_); rintro e wb ⟨p2, q2, a2, n2, c2, m2, d2, l2, b2, rfl, N2, fb⟩; have FB : Fr wo wb := (by first | (with_reducible exact f1.trans fb) | (with_reducible exact f3.trans fb)); have zb := FB.size; first | (with_reducible have ZC := Z3.fr fb; have u0 := ZC.cell (j := 0) rfl; have v0 := ZC.free 0; have u1 := ZC.cell (j := 1) rfl; have v1 := ZC.free 1; have u2 := ZC.cell (j := 2) rfl; have v2 := ZC.free 2; have u3 := ZC.cell (j := 3) rfl; have v3 := ZC.free 3; have u4 := ZC.cell (j := 4) rfl; have v4 := ZC.free 4; have u5 := ZC.cell (j := 5) rfl; have v5 := ZC.free 5; have u6 := ZC.cell (j := 6) rfl; have v6 := ZC.free 6) | skip))
                    all_goals
                      clear kw k0 k1 k2 k3 k4 k5 k6 CW
                      go_wp2_with fail
                      go_meet
                    all_goals
                      have yd : wo.drew.heap.size = wo.heap.size := rfl
                      have ya : (wo.alloc (.cells #[.slice none 0 0, .slice none 0 0, .slice none 0 0, .int .i64 0, .int .i64 0, .int .i64 0, .int .i64 0] 31)).drew.heap.size = wo.heap.size + 1 := World.size_alloc _ _
                      first
                        | (with_reducible exact ⟨_, _, _, _, _, _, _, _, _, _, rfl, rfl, Blk.new _ _ _, (N2.mono (by omega) (Nat.le_refl _)).fr ((Fr.refl _).alloc _), FB.alloc _⟩)
                        | (with_reducible exact ⟨_, _, _, _, _, _, _, _, _, _, rfl, rfl, ZC.set7 _ _ _ _ _ _ _, (N2.mono (by omega) (Nat.le_refl _)).set7 (N2.low (by omega)) _ _ _ _ _ _ _, FB.set7 (Nat.le_refl _) _ _ _ _ _ _ _⟩)
                  case rest =>
                    obtain ⟨j, p2, q2, a2, n2, c2, m2, d2, l2, b2, rfl, rfl, B2, N2, f⟩ := hcut
                    obtain ⟨w31, rfl⟩ : ∃ wz : World, wz = wc := ⟨_, rfl⟩
                    have h29 := B7.lt
                    have hw := F.size
                    have B9 := B7.fr f
                    replace oG := oG.fr f
                    replace oW := oW.fr f
                    replace F := F.trans f
                    clear B7 N7 h7 f HST h2
                    have x0 := B2.cell (j := 0) (v := .slice p2 n2 c2) rfl; have x1 := B2.cell (j := 1) (v := .slice q2 m2 d2) rfl; have x2 := B2.cell (j := 2) (v := .slice a2 l2 b2) rfl; have x3 := B2.cell (j := 3) (v := .int .i64 (y : Int)) rfl; have x4 := B2.cell (j := 4) (v := .int .i64 3) rfl; have x5 := B2.cell (j := 5) (v := .int .i64 (3 * (nth X y - nth X 0))) rfl; have x6 := B2.cell (j := 6) (v := .int .i64 (k' : Int)) rfl
                    have u0 := B9.cell (j := 0) rfl; have u1 := B9.cell (j := 1) rfl; have u2 := B9.cell (j := 2) rfl; have u3 := B9.cell (j := 3) rfl; have u4 := B9.cell (j := 4) rfl; have u5 := B9.cell (j := 5) rfl; have u6 := B9.cell (j := 6) rfl
                    have i0 := B9.free 0; have i1 := B9.free 1; have i2 := B9.free 2; have i3 := B9.free 3; have i4 := B9.free 4; have i5 := B9.free 5; have i6 := B9.free 6
                    have hlow := N2.low h29
                    have FIN := Lib.hid (And.intro (B9.set7 (.slice p2 n2 c2) (.slice q2 m2 d2) (.slice a2 l2 b2) (.int .i64 (y : Int)) (.int .i64 3) (.int .i64 (3 * (nth X y - nth X 0))) (.int .i64 (k' : Int))) (And.intro ((N2.mono hw (Nat.le_refl _)).set7 hlow (.slice p2 n2 c2) (.slice q2 m2 d2) (.slice a2 l2 b2) (.int .i64 (y : Int)) (.int .i64 3) (.int .i64 (3 * (nth X y - nth X 0))) (.int .i64 (k' : Int))) (And.intro hlow (And.intro (oG.other7 HG7.out (.slice p2 n2 c2) (.slice q2 m2 d2) (.slice a2 l2 b2) (.int .i64 (y : Int)) (.int .i64 3) (.int .i64 (3 * (nth X y - nth X 0))) (.int .i64 (k' : Int))) (And.intro (oW.other7 HW7.out (.slice p2 n2 c2) (.slice q2 m2 d2) (.slice a2 l2 b2) (.int .i64 (y : Int)) (.int .i64 3) (.int .i64 (3 * (nth X y - nth X 0))) (.int .i64 (k' : Int))) (F.set7 (g := b29) hw0 (.slice p2 n2 c2) (.slice q2 m2 d2) (.slice a2 l2 b2) (.int .i64 (y : Int)) (.int .i64 3) (.int .i64 (3 * (nth X y - nth X 0))) (.int .i64 (k' : Int))))))))
                    clear B2 B9 N2 oG oW F hlow
                    go_wp2
                    go_roundw
                    case rel =>
                      obtain ⟨t1, t2, t3, t4, t5, t6⟩ := FIN.out
                      exact ⟨k', y, _, _, _, _, _, _, _, _, _, by have := HK.out; omega, rfl, by have := HK.out; subst this; go_num, HST2, t1, t2, t3, t4, t5, t6⟩
                    case measure => simp [intOf]; omega
                · obtain rfl : k = lw := by omega
                  have hend := (way_ends HPB.out N N (Nat.le_refl _) HNP.out).2
                  rw [HWL.out] at hend
                  obtain rfl : z = N := by have := HST.out; omega
                  have qg := oG.cellAt rfl hzk.1
                  rw [HGN.out z hzk.1] at qg
                  have x3 := B7.cell (j := 3) (v := .int .i64 (z : Int)) rfl
                  have x5 := B7.cell (j := 5) (v := .int .i64 (3 * (nth X z - nth X 0))) rfl
                  have vz0 : (0 : Int) ≤ (z : Int) := by omega
                  have vz : (z : Int) < (np : Int) := by omega
                  generalize 3 * (nth X z - nth X 0) = pu at qg x5
                  have hv : ¬ (k : Int) < (k : Int) := by omega
                  clear B7 N7 h7 oG oW HST hend
                  go_upto_region 32 with fail
                  go_quiet (fail)
                  go_wp2
                  go_ret
                  exact ⟨rfl, F.drew' _⟩
end Go.Proofs.Ytojipjjfndgbhaa
