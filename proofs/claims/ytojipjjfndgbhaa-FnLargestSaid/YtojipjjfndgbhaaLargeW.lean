import Derived.Test.YtojipjjfndgbhaaDoob
import Derived.Test.YtojipjjfndgbhaaDrawL
import Derived.Test.YtojipjjfndgbhaaCut
import Derived.Test.YtojipjjfndgbhaaEnv4
import Derived.Deep.DeepCutAuto
import Derived.Deep.CutRange
import Derived.Deep.QuietTactic
/- The law FnLargest. -/
set_option linter.unusedVariables false
namespace Go.Proofs.Ytojipjjfndgbhaa
open Go.ChangeShapes Go.WideShapes Go.ChangeAt Go.RowKit
theorem neq_pair (w : World) (a b : Int) : (binOp .neq 46 (.agg #[.int .i64 a, .int .i64 b]) (.agg #[.int .i64 a, .int .i64 b])).run Try.prog w = .ok (.bool false) w := by
  obtain ⟨i, hi, _⟩ := info_parts infoInt
  have hc : Try.prog.cellsOf 3 = 1 := by kernel_rfl
  rw [run_neq_struct, Go.run_equalIn_array w 9999 (t := 46) (e := 3) (n := 2) _ _ Try.underlying46 hi, hc]
  simp [Op.eqItems, List.range, List.range.loop, go_sem, Try.underlying3]
theorem eql_pair_same (w : World) (a b : Int) : (binOp .eql 46 (.agg #[.int .i64 a, .int .i64 b]) (.agg #[.int .i64 a, .int .i64 b])).run Try.prog w = .ok (.bool true) w := by
  rw [eql_pair]; simp
/-- A drawn tree and list in a law. -/
structure LgI (w : World) (a : Option Addr) (n cap : Nat) (zs : List Int) (g : Nat) (p : Option Addr) (np cp : Nat) (P : List Int) (q : Option Addr) (nq cq : Nat) (W : List Int) (l : Option Addr) (nl cl : Nat) (X : List Int) (wr : World) : Prop where
  C : SLB wr a n cap zs
  P : SL wr p np cp P
  W : SL wr q nq cq W
  X : SL wr l nl cl X
  B : Blk wr g #[.slice p np cp, .slice q nq cq] 29
  F : Fr w wr
theorem LgI.fr {w : World} {a : Option Addr} {n cap : Nat} {zs : List Int} {g : Nat} {p : Option Addr} {np cp : Nat} {P : List Int} {q : Option Addr} {nq cq : Nat} {W : List Int} {l : Option Addr} {nl cl : Nat} {X : List Int} {wr w' : World} (h : LgI w a n cap zs g p np cp P q nq cq W l nl cl X wr) (f : Fr wr w') : LgI w a n cap zs g p np cp P q nq cq W l nl cl X w' :=
  ⟨h.C.fr f, h.P.fr f, h.W.fr f, h.X.fr f, h.B.fr f, h.F.trans f⟩
theorem LgI.start {w wr : World} {a : Option Addr} {n cap : Nat} {zs : List Int} {p : Option Addr} {np cp : Nat} {q : Option Addr} {nq cq : Nat} {l : Option Addr} {nl cl B : Nat} (hC : SLB wr a n cap zs) (R : TrR B wr p np cp q nq cq l nl cl) (F : Fr w wr) : ∃ P W X, LgI w a n cap zs wr.heap.size p np cp P q nq cq W l nl cl X (wr.alloc (.cells #[.slice p np cp, .slice q nq cq] 29)) := by
  obtain ⟨⟨P, h1⟩, ⟨W, h2⟩, ⟨X, h3⟩, _⟩ := R
  have f := (Fr.refl wr).alloc (.cells #[.slice p np cp, .slice q nq cq] 29)
  exact ⟨P, W, X, hC.fr f, h1.sl.fr f, h2.sl.fr f, h3.sl.fr f, Blk.new _ _ _, F.trans f⟩
theorem lcV_bd {P W X : List Int} {v : Int} (h : lcB P W X v = true) : (-1000000000 ≤ (lcV P W X v).1 ∧ (lcV P W X v).1 ≤ 1000000000) ∧ (1 ≤ (lcV P W X v).2 ∧ (lcV P W X v).2 ≤ 1000000) := by
  obtain ⟨he, hv⟩ := lcB_parts h
  obtain ⟨f1, f2⟩ := lc_fit he v
  rw [lcV, h]; simp only [cond_true]
  exact ⟨(low_frac f1 f2).1, (low_frac f1 f2).2.1⟩
theorem lmV_bd {P W X : List Int} (h : evenB P W X = true) : (-1000000000 ≤ (lmV P W X).1 ∧ (lmV P W X).1 ≤ 1000000000) ∧ (1 ≤ (lmV P W X).2 ∧ (lmV P W X).2 ≤ 1000000) := by
  obtain ⟨f1, f2⟩ := lm_fit h
  rw [lmV, h]; simp only [cond_true]
  exact ⟨(low_frac f1 f2).1, (low_frac f1 f2).2.1⟩
/-- What is known of the values. -/
theorem lcK {P W X : List Int} {v : Int} (h : lcB P W X v = true) : ¬ nth X 0 * (lcV P W X v).2 < (lcV P W X v).1 * v ∧ ((-1000000000 ≤ (lcV P W X v).1 ∧ (lcV P W X v).1 ≤ 1000000000) ∧ (1 ≤ (lcV P W X v).2 ∧ (lcV P W X v).2 ≤ 1000000)) ∧ evenB P W X = true ∧ (1 ≤ v ∧ v ≤ 999) :=
  ⟨chance_le h, lcV_bd h, lcB_parts h⟩
theorem lmK {P W X : List Int} (h : evenB P W X = true) : nth X 0 * (lmV P W X).2 ≤ (lmV P W X).1 ∧ ((-1000000000 ≤ (lmV P W X).1 ∧ (lmV P W X).1 ≤ 1000000000) ∧ (1 ≤ (lmV P W X).2 ∧ (lmV P W X).2 ≤ 1000000)) ∧ (0 ≤ nth X 0 ∧ nth X 0 ≤ 999) ∧ 1 ≤ X.length := by
  obtain ⟨ht, hx, _, hX⟩ := evenB_parts h
  have hn := (treeB_iff.1 ht).1.1
  exact ⟨largest_ge h, lmV_bd h, hX 0, by rw [(procB_iff.1 hx).1]; exact hn⟩
theorem seer_of {P W X : List Int} (h : evenB P W X = true) : lowA (lmS P W X) (nth (gathM P W) 0) = (lmV P W X).1 ∧ lowB (lmS P W X) (nth (gathM P W) 0) = (lmV P W X).2 := by
  rw [lmV, h]; exact ⟨rfl, rfl⟩
set_option maxRecDepth 100000 in
set_option maxHeartbeats 4000000 in
theorem walk_FnLargest (a : Option Addr) (n cap : Nat) (zs : List Int) (w : World) (h : SLB w a n cap zs) :
    Calls Try.prog 12 #[.slice a n cap] w fun e w' => e = .returned (.bool true) ∧ Fr w w' := by
  have hle := h.le; have hmx := h.mx
  have HV := Lib.hid (rBig_any w a n cap (by omega))
  by_cases hbig : 65536 < n
  · have hd : decide (65536 < n) = true := decide_eq_true hbig
    rw [hd] at HV
    go_enter Try.func12, Try.ntmps12
    go_wp2_with fail
    refine HV.out.mono ?_
    rintro e w' ⟨rfl, rfl⟩
    go_wp2
    go_ret
    exact ⟨rfl, Fr.refl _⟩
  · have hd : decide (65536 < n) = false := decide_eq_false hbig
    rw [hd] at HV
    have H := Lib.hid h
    clear h
    go_enter Try.func12, Try.ntmps12
    go_wp2_with fail
    refine HV.out.mono ?_
    rintro e w' ⟨rfl, rfl⟩
    clear HV hd
    go_wp2_with fail
    refine (DrawLargestChance_any w a n cap zs H.out).mono ?_
    rintro e w1 ⟨p, np, cp, q, nq, cq, l, nl, cl, v, rfl, hv, R, f⟩
    obtain ⟨P, W, X, S⟩ := LgI.start (H.out.fr f) R f
    clear R f
    have Q1 := Lib.hid (fun V h1 h2 h3 h4 => impl_LargestChance_any V p q l np cp nq cq nl cl P W X v h1 h2 h3 h4)
    have Q2 := Lib.hid (fun V h1 h2 h3 h4 => spec_LargestChance_any V p q l np cp nq cq nl cl P W X v h1 h2 h3 h4)
    have Q3 := Lib.hid (fun V h1 h2 h3 => impl_LargestMean_any V p q l np cp nq cq nl cl P W X h1 h2 h3)
    have Q4 := Lib.hid (fun V h1 h2 h3 => spec_LargestMean_any V p q l np cp nq cq nl cl P W X h1 h2 h3)
    have Q5 := Lib.hid (fun (V : World) (h1 : SL V p np cp P) (h2 : SL V q nq cq W) (h3 : SL V l nl cl X) (he : evenB P W X = true) => SeerMean_yes V p q l np cp nq cq nl cl P W X h1 h2 h3 (evenB_parts he).1 (evenB_parts he).2.1)
    have K1 := Lib.hid (fun h : lcB P W X v = true => lcK h)
    have K2 := Lib.hid (fun h : evenB P W X = true => lmK h)
    have K3 := Lib.hid (fun h : evenB P W X = true => seer_of h)
    generalize lowA (lmS P W X) (nth (gathM P W) 0) = sa at Q5 K3
    generalize lowB (lmS P W X) (nth (gathM P W) 0) = sb at Q5 K3
    generalize (lcV P W X v).1 = ca at Q1 Q2 K1
    generalize (lcV P W X v).2 = cb at Q1 Q2 K1
    generalize lcB P W X v = okb at Q1 Q2 K1
    generalize (lmV P W X).1 = ma at Q3 Q4 K2 K3
    generalize (lmV P W X).2 = mb at Q3 Q4 K2 K3
    generalize evenB P W X = one at Q3 Q4 Q5 K1 K2 K3
    generalize hg3 : w1.heap.size = g3 at S
    have IV : Hid (I64 v) := Lib.hid (by unfold I64; omega)
    go_upto_region 4 with fail
    clear hg3
    generalize w1.alloc _ = w2 at S ⊢
    have c0 := S.B.cell (j := 0) rfl; have c1 := S.B.cell (j := 1) rfl
    go_wp2_with fail
    refine (Q1.out _ S.P S.W S.X IV.out).mono ?_
    rintro e w3 ⟨rfl, f⟩
    replace S := S.fr f
    have B6 := Blk.new w3 #[.int .i64 ca, .int .i64 cb] 46
    have f6 := (Fr.refl w3).alloc (.cells #[.int .i64 ca, .int .i64 cb] 46)
    replace S := S.fr f6
    generalize hg6 : w3.heap.size = g6 at B6
    clear c0 c1 f f6 Q1
    go_upto_region 5 with fail
    clear hg6
    generalize w3.alloc _ = w4 at S B6 ⊢
    have c0 := S.B.cell (j := 0) rfl; have c1 := S.B.cell (j := 1) rfl
    go_wp2_with fail
    refine (Q2.out _ S.P S.W S.X IV.out).mono ?_
    rintro e w5 ⟨rfl, f⟩
    replace S := S.fr f
    replace B6 := B6.fr f
    have B8 := Blk.new w5 #[.int .i64 ca, .int .i64 cb] 46
    have f8 := (Fr.refl w5).alloc (.cells #[.int .i64 ca, .int .i64 cb] 46)
    replace S := S.fr f8
    replace B6 := B6.fr f8
    generalize hg8 : w5.heap.size = g8 at B8
    clear c0 c1 f f8 Q2
    go_upto_region 6 with fail
    clear hg8
    generalize w5.alloc _ = w6 at S B6 B8 ⊢
    have c0 := B6.cell (j := 0) rfl; have c1 := B6.cell (j := 1) rfl
    have c2 := B8.cell (j := 0) rfl; have c3 := B8.cell (j := 1) rfl
    have d0 := S.B.cell (j := 0) rfl; have d1 := S.B.cell (j := 1) rfl
    have hne := fun u => neq_pair u ca cb
    have hbb : (okb != okb) = false := by cases okb <;> rfl
    go_wp2_with fail
    refine (Q3.out _ S.P S.W S.X).mono ?_
    rintro e w7 ⟨rfl, f⟩
    replace S := S.fr f
    replace B6 := B6.fr f
    have BA := Blk.new w7 #[.int .i64 ma, .int .i64 mb] 46
    have fA := (Fr.refl w7).alloc (.cells #[.int .i64 ma, .int .i64 mb] 46)
    replace S := S.fr fA
    replace B6 := B6.fr fA
    generalize hgA : w7.heap.size = gA at BA
    clear c0 c1 c2 c3 d0 d1 hne hbb f fA Q3 B8
    go_upto_region 9 with fail
    clear hgA
    generalize w7.alloc _ = w8 at S B6 BA ⊢
    have c0 := S.B.cell (j := 0) rfl; have c1 := S.B.cell (j := 1) rfl
    go_wp2_with fail
    refine (Q4.out _ S.P S.W S.X).mono ?_
    rintro e w9 ⟨rfl, f⟩
    replace S := S.fr f
    replace B6 := B6.fr f
    replace BA := BA.fr f
    have BC := Blk.new w9 #[.int .i64 ma, .int .i64 mb] 46
    have fC := (Fr.refl w9).alloc (.cells #[.int .i64 ma, .int .i64 mb] 46)
    replace S := S.fr fC
    replace B6 := B6.fr fC
    replace BA := BA.fr fC
    generalize hgC : w9.heap.size = gC at BC
    clear c0 c1 f fC Q4
    go_upto_region 10 with fail
    clear hgC
    generalize w9.alloc _ = w10 at S B6 BA BC ⊢
    have c0 := BA.cell (j := 0) rfl; have c1 := BA.cell (j := 1) rfl
    have c2 := BC.cell (j := 0) rfl; have c3 := BC.cell (j := 1) rfl
    have hne := fun u => neq_pair u ma mb
    go_cut [78] from 64 to 78 (fun s wx => s = .bool false ∧ wx = w10)
    case first =>
      as_aux_lemma =>
        cases okb
        · cases one
          · go_wp2_with fail; go_meet; exact ⟨rfl, rfl⟩
          · go_wp2_with fail; go_meet; exact ⟨rfl, rfl⟩
        · obtain ⟨_, _, rfl, _⟩ := K1.out rfl
          go_wp2_with fail; go_meet; exact ⟨rfl, rfl⟩
    case rest =>
      obtain ⟨rfl, rfl⟩ := hcut
      obtain ⟨w11, rfl⟩ : ∃ wz : World, wz = wc := ⟨_, rfl⟩
      clear c0 c1 c2 c3 hne BC
      go_wp2_with fail
      refine (DrawLargestMean_any _ a n cap zs S.C).mono ?_
      rintro e w12 ⟨p2, np2, cp2, q2, nq2, cq2, l2, nl2, cl2, rfl, R, f⟩
      replace S := S.fr f
      replace B6 := B6.fr f
      replace BA := BA.fr f
      obtain ⟨P2, W2, X2, T⟩ := LgI.start S.C R S.F
      have fT := (Fr.refl w12).alloc (.cells #[.slice p2 np2 cp2, .slice q2 nq2 cq2] 29)
      replace S := S.fr fT
      replace B6 := B6.fr fT
      replace BA := BA.fr fT
      clear R f fT
      have R3 := Lib.hid (fun V h1 h2 h3 => impl_LargestMean_any V p2 q2 l2 np2 cp2 nq2 cq2 nl2 cl2 P2 W2 X2 h1 h2 h3)
      have R4 := Lib.hid (fun V h1 h2 h3 => spec_LargestMean_any V p2 q2 l2 np2 cp2 nq2 cq2 nl2 cl2 P2 W2 X2 h1 h2 h3)
      generalize (lmV P2 W2 X2).1 = na at R3 R4
      generalize (lmV P2 W2 X2).2 = nb at R3 R4
      generalize evenB P2 W2 X2 = two at R3 R4
      generalize hgT : w12.heap.size = gT at T
      go_upto_region 13 with fail
      clear hgT
      generalize w12.alloc _ = w13 at S B6 BA T ⊢
      have c0 := T.B.cell (j := 0) rfl; have c1 := T.B.cell (j := 1) rfl
      go_wp2_with fail
      refine (R3.out _ T.P T.W T.X).mono ?_
      rintro e w14 ⟨rfl, f⟩
      have BG := Blk.new w14 #[.int .i64 na, .int .i64 nb] 46
      have fG := f.alloc (.cells #[.int .i64 na, .int .i64 nb] 46)
      replace S := S.fr fG
      replace B6 := B6.fr fG
      replace BA := BA.fr fG
      replace T := T.fr fG
      generalize hgG : w14.heap.size = gG at BG
      clear c0 c1 f fG R3
      go_upto_region 14 with fail
      clear hgG
      generalize w14.alloc _ = w15 at S B6 BA T BG ⊢
      have c0 := T.B.cell (j := 0) rfl; have c1 := T.B.cell (j := 1) rfl
      go_wp2_with fail
      refine (R4.out _ T.P T.W T.X).mono ?_
      rintro e w16 ⟨rfl, f⟩
      have BI := Blk.new w16 #[.int .i64 na, .int .i64 nb] 46
      have fI := f.alloc (.cells #[.int .i64 na, .int .i64 nb] 46)
      replace S := S.fr fI
      replace B6 := B6.fr fI
      replace BA := BA.fr fI
      replace BG := BG.fr fI
      generalize hgI : w16.heap.size = gI at BI
      clear c0 c1 f fI R4 T
      go_upto_region 15 with fail
      clear hgI
      generalize w16.alloc _ = w17 at S B6 BA BG BI ⊢
      have c0 := BG.cell (j := 0) rfl; have c1 := BG.cell (j := 1) rfl
      have c2 := BI.cell (j := 0) rfl; have c3 := BI.cell (j := 1) rfl
      have hne := fun u => neq_pair u na nb
      have hbb : (two != two) = false := by cases two <;> rfl
      go_upto_region 17 with fail
      clear c0 c1 c2 c3 hne hbb BG BI
      go_cut [117] from 104 to 117 (fun s wx => s = .bool false ∧ Fr w17 wx)
      case first =>
        as_aux_lemma =>
          cases okb
          · go_quiet (fail)
            go_wp2_with fail; go_meet; exact ⟨rfl, (Fr.refl _).drew' _⟩
          · obtain ⟨k1, ⟨k2, k3⟩, rfl, k4⟩ := K1.out rfl
            obtain ⟨_, _, tc, td⟩ := K2.out rfl
            have HL := Lib.hid S.X.len
            obtain ⟨bl, ol, rfl, ql⟩ := S.X.cells.resolve_left (by rw [← HL.out]; omega)
            have vn : (0 : Int) < (nl : Int) := by rw [← HL.out]; omega
            replace ql := ql 0 (by rw [← HL.out]; omega)
            rw [Nat.add_zero] at ql
            have c0 := B6.cell (j := 0) rfl; have c1 := B6.cell (j := 1) rfl
            generalize nth X 0 = x at *
            have e1 : IntKind.i64.wrap (ca * v) = ca * v := IntWalk.i64_in _ (by have := natAbs_mul_le (x := ca) (y := v) (M := 1000000000) (N := 999) (by omega) (by omega); omega)
            have e2 : IntKind.i64.wrap (x * cb) = x * cb := IntWalk.i64_in _ (by have := natAbs_mul_le (x := x) (y := cb) (M := 999) (N := 1000000) (by omega) (by omega); omega)
            go_quiet (fail)
            go_wp2_with fail; go_meet; exact ⟨congrArg Value.bool (decide_eq_false (by omega)), (Fr.refl _).drew' _⟩
      case rest =>
        obtain ⟨rfl, f⟩ := hcut
        obtain ⟨w18, rfl⟩ : ∃ wz : World, wz = wc := ⟨_, rfl⟩
        replace S := S.fr f
        replace BA := BA.fr f
        clear f B6 K1
        have c0 := S.B.cell (j := 0) rfl; have c1 := S.B.cell (j := 1) rfl
        cases one
        · have F := S.F
          go_wp2
          go_ret
          exact ⟨rfl, F⟩
        · skip
          obtain ⟨ta, tb, tc, td⟩ := K2.out rfl
          obtain ⟨k1, k2⟩ := K3.out rfl
          have HL := Lib.hid S.X.len
          go_wp2_with fail
          refine (Q5.out _ S.P S.W S.X (by first | rfl | trivial)).mono ?_
          rintro e w19 ⟨rfl, f⟩
          rw [k1, k2]
          clear c0 c1 k1 k2 Q5 K3 K2
          replace S := S.fr f
          replace BA := BA.fr f
          have BK := Blk.new w19 #[.int .i64 ma, .int .i64 mb] 46
          have fK := (Fr.refl w19).alloc (.cells #[.int .i64 ma, .int .i64 mb] 46)
          replace S := S.fr fK
          replace BA := BA.fr fK
          generalize hgK : w19.heap.size = gK at BK
          clear f fK
          go_upto_region 22 with fail
          clear hgK
          generalize w19.alloc _ = w20 at S BA BK ⊢
          have c0 := BA.cell (j := 0) rfl; have c1 := BA.cell (j := 1) rfl
          have c2 := BK.cell (j := 0) rfl; have c3 := BK.cell (j := 1) rfl
          obtain ⟨bl, ol, rfl, ql⟩ := S.X.cells.resolve_left (by rw [← HL.out]; omega)
          have vn : (0 : Int) < (nl : Int) := by rw [← HL.out]; omega
          replace ql := ql 0 (by rw [← HL.out]; omega)
          rw [Nat.add_zero] at ql
          have F := S.F
          have heq := fun u => eql_pair_same u ma mb
          generalize nth X 0 = x at *
          have e1 : IntKind.i64.wrap (x * mb) = x * mb := IntWalk.i64_in _ (by have := natAbs_mul_le (x := x) (y := mb) (M := 999) (N := 1000000) (by omega) (by omega); omega)
          clear S BA BK HL
          go_quiet (fail)
          go_wp2
          go_ret
          exact ⟨rfl, F.drew' _⟩
end Go.Proofs.Ytojipjjfndgbhaa
