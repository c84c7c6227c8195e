import Derived.Test.YtolnloeapbplkaaDoorDraw4
/- The law FnCrashes. -/
set_option linter.unusedVariables false
namespace Go.Proofs.YtolnloeapbplkaaDoor
open Go.ChangeShapes Go.WideShapes Go.ChangeAt Go.RowKit

/-- A slice of records reads as a list. -/
def RdR (w : World) (a : Option Addr) (n : Nat) (xs : List (ByteArray × ByteArray)) : Prop := n ≤ 1000 ∧ (n = 0 ∨ ∃ g, a = some ⟨g, 0, none⟩ ∧ ∀ i, i < n → w.cell? ⟨g, i * 2, none⟩ = some (.string (nthRB xs i).1) ∧ w.cell? ⟨g, i * 2 + 1, none⟩ = some (.string (nthRB xs i).2))
theorem OwnR.rd {B : Nat} {w : World} {a : Option Addr} {n cap : Nat} {xs : List (ByteArray × ByteArray)} (h : OwnR B w a n cap xs) (hn : n ≤ 1000) : RdR w a n xs := by
  refine ⟨hn, ?_⟩
  rcases Nat.eq_zero_or_pos n with h0 | h0
  · exact .inl h0
  · obtain ⟨g, rfl, _, _, _, hc⟩ := h.op h0
    exact .inr ⟨g, rfl, fun i hi => by have := hc i hi; rwa [Nat.mul_comm 2 i] at this⟩
theorem RdR.take {w : World} {a : Option Addr} {n m : Nat} {xs ys : List (ByteArray × ByteArray)} (h : RdR w a n xs) (hm : m ≤ n) (he : ys = xs.take m) : RdR w a m ys := by
  refine ⟨by have := h.1; omega, ?_⟩
  rcases Nat.eq_zero_or_pos m with h0 | h0
  · exact .inl h0
  · obtain ⟨g, rfl, hc⟩ := h.2.resolve_left (by omega)
    refine .inr ⟨g, rfl, fun i hi => ?_⟩
    have := hc i (by omega)
    have e : nthRB ys i = nthRB xs i := by subst he; simp [nthRB, hi]
    rwa [e]
theorem RdR.fr {w w' : World} {a : Option Addr} {n : Nat} {xs : List (ByteArray × ByteArray)} (h : RdR w a n xs) (f : Fr w w') : RdR w' a n xs := by
  refine ⟨h.1, ?_⟩
  rcases h.2 with h0 | ⟨g, rfl, hc⟩
  · exact .inl h0
  · exact .inr ⟨g, rfl, fun i hi => ⟨f.keep (hc i hi).1, f.keep (hc i hi).2⟩⟩
set_option maxRecDepth 100000 in
theorem vRecords_same (w : World) (a b : Option Addr) (n c d : Nat) (xs : List (ByteArray × ByteArray)) (h : RdR w a n xs) (k : RdR w b n xs) :
    Calls Tryd.prog 31 #[.slice a n c, .slice b n d] w fun e w' => e = .returned (.bool true) ∧ Fr w w' := by
  have hn := h.1
  have HA := Lib.hid h; have HB := Lib.hid k
  clear h k
  go_enter Tryd.func31, Tryd.ntmps31
  go_wp2
  go_loopw [5] (fun i wr => ∃ j : Nat, j ≤ n ∧ i = .int .i64 j ∧ Fr w wr) (fun i _ => n - (intOf i).toNat)
  case atStart => exact ⟨0, Nat.zero_le _, rfl, Fr.refl _⟩
  case round =>
    obtain ⟨j, hj, rfl, hF⟩ := hrel
    by_cases hlt : j < n
    · obtain ⟨g, rfl, hc⟩ := (HA.out.fr hF).2.resolve_left (by omega)
      obtain ⟨g', rfl, hd⟩ := (HB.out.fr hF).2.resolve_left (by omega)
      obtain ⟨c0, c1⟩ := hc j hlt
      obtain ⟨d0, d1⟩ := hd j hlt
      clear hc hd
      generalize (nthRB xs j).1 = y at c0 d0
      generalize (nthRB xs j).2 = z at c1 d1
      have i1 : (j : Int) < (n : Int) := by omega
      have i0 : (0 : Int) ≤ (j : Int) := by omega
      have hb : (y.toList == y.toList) = true := by rw [str_eq]; simp
      have hb2 : (z.toList == z.toList) = true := by rw [str_eq]; simp
      go_wp2_with fail
      go_quiet (fail)
      have hF1 := fun m => hF.drew' m
      go_wp2
      go_roundw
      case rel => exact ⟨j + 1, by omega, by go_num, hF1 _⟩
      case measure => simp [intOf]; omega
    · go_wp2
      go_ret
      exact ⟨rfl, hF⟩
theorem crL_len (l : List UInt8) (b : Bool) : (crL l b).length = l.length := by
  cases b with
  | false => rfl
  | true => show (tornL l).length = _; rw [tornL, List.length_set]
set_option maxRecDepth 100000 in
set_option maxHeartbeats 2000000 in
theorem walk_FnCrashes (a : Option Addr) (n cap : Nat) (zs : List Int) (w : World) (hE : Env w) (h : SLB w a n cap zs) :
    Calls Tryd.prog 4 #[.slice a n cap] w fun e w' => e = .returned (.bool true) ∧ Fr w w' := by
  have hle := h.le; have hmx := h.mx
  have HV := Lib.hid (vBig_any w a n cap (by omega))
  by_cases hbig : 65536 < n
  · have hd : decide (65536 < n) = true := decide_eq_true hbig
    rw [hd] at HV
    go_enter Tryd.func4, Tryd.ntmps4
    go_wp2_with fail
    refine HV.out.mono ?_
    rintro e w' ⟨rfl, rfl⟩
    go_wp2
    go_ret
    exact ⟨rfl, Fr.refl _⟩
  · have hd : decide (65536 < n) = false := decide_eq_false hbig
    rw [hd] at HV
    have H := Lib.hid h
    clear h
    go_enter Tryd.func4, Tryd.ntmps4
    go_wp2_with fail
    refine HV.out.mono ?_
    rintro e w' ⟨rfl, rfl⟩
    clear HV hd
    go_wp2_with fail
    refine (DrawCrashLog_any w hE a n cap zs H.out).mono ?_
    rintro e w1 ⟨d, p, c, k, b, rfl, hs, hc0, hc1, hk, f1⟩
    have B1 := Box.new w1 #[.string d, .string p, .int .i64 c] 33
    have F1 := f1.alloc (.cells #[.string d, .string p, .int .i64 c] 33)
    have c0 := B1.cell (j := 0) (v := .string d) rfl; have c1 := B1.cell (j := 1) (v := .string p) rfl; have c2 := B1.cell (j := 2) (v := .int .i64 c) rfl
    have SPC := Lib.hid (fun W => spec_CrashLog_any d p c k b W (by omega))
    have IMC := Lib.hid (fun W h => impl_CrashLog_any d p c k b W (by omega) h)
    have HS : Hid (crB d p c k = true → ∃ q : Nat, k = (q : Int) ∧ q ≤ p.size ∧ logB (bl d) (bl p) c = true ∧ crV d p c k b = ba (bl d ++ crL ((bl p).take q) b)) := Lib.hid (fun h => by
      have h2 := h
      rw [crB, Bool.and_eq_true, inB_iff] at h2
      obtain ⟨q, rfl⟩ := Int.eq_ofNat_of_zero_le h2.2.1
      exact ⟨q, rfl, by omega, h2.1, by rw [crV, h, Int.toNat_natCast]; rfl⟩)
    generalize crV d p c k b = s at SPC IMC HS
    generalize crB d p c k = ok at SPC IMC HS
    clear f1
    go_wp2_with fail
    refine (IMC.out _ (hE.fr F1)).mono ?_
    rintro e w2 ⟨rfl, f2⟩
    replace B1 := B1.fr f2
    have F2 := F1.trans f2
    replace c0 := f2.keep c0; replace c1 := f2.keep c1; replace c2 := f2.keep c2
    clear f2 IMC F1
    go_wp2_with fail
    refine (SPC.out _).mono ?_
    rintro e w3 ⟨rfl, f3⟩
    replace B1 := B1.fr f3
    have F3 := F2.trans f3
    replace c0 := f3.keep c0; replace c1 := f3.keep c1; replace c2 := f3.keep c2
    clear f3 SPC F2
    go_wp2_with fail
    refine (vCut_any w3 a n cap zs (H.out.fr F3) (by omega) 1 (by omega)).mono ?_
    rintro e w4 ⟨p4, n4, cap4, ys, rfl, h4, hp4, hn4, f4⟩
    replace B1 := B1.fr f4
    have F4 := F3.trans f4
    clear f4 F3
    go_wp2_with fail
    refine (DrawRecoverLog_any w4 (hE.fr F4) p4 n4 cap4 ys h4).mono ?_
    rintro e w5 ⟨t, rfl, ht, f5⟩
    replace B1 := B1.fr f5
    have F5 := F4.trans f5
    clear f5 F4 h4 hp4 hn4
    go_wp2_with fail
    refine (impl_RecoverLog_any t w5 (by omega) (hE.fr F5)).mono ?_
    rintro e w6 ⟨rfl, f6⟩
    have SPR := Lib.hid (fun W => spec_RecoverLog_any t W (by omega))
    unfold RetRec at SPR
    generalize ((recC (bl t) : Nat) : Int) = v2 at SPR ⊢
    generalize ((recN (bl t) : Nat) : Int) = v3 at SPR ⊢
    generalize recL t = v1 at SPR ⊢
    generalize decide (t.size ≤ 30000) = v4 at SPR ⊢
    have fa : Fr w6 (w6.alloc (.cells #[.string v1, .string e0, .int .i64 v2] 33)) := (Fr.refl _).alloc _
    have D1 := Box.new w6 #[.string v1, .string e0, .int .i64 v2] 33
    replace B1 := (B1.fr f6).fr fa
    have F6 := (F5.trans f6).trans fa
    clear f6 fa F5
    go_wp2_with fail
    refine (SPR.out _).mono ?_
    rintro e w7 ⟨rfl, f7⟩
    have fb : Fr w7 (w7.alloc (.cells #[.string v1, .string e0, .int .i64 v2] 33)) := (Fr.refl _).alloc _
    have D2 := Box.new w7 #[.string v1, .string e0, .int .i64 v2] 33
    replace B1 := (B1.fr f7).fr fb
    replace D1 := (D1.fr f7).fr fb
    have F7 := (F6.trans f7).trans fb
    clear f7 fb F6 SPR c0 c1 c2
    have c0 := B1.cell (j := 0) (v := .string d) rfl; have c1 := B1.cell (j := 1) (v := .string p) rfl; have c2 := B1.cell (j := 2) (v := .int .i64 c) rfl
    have d0 := D1.cell (j := 0) (v := .string v1) rfl; have d1 := D1.cell (j := 1) (v := .string e0) rfl; have d2 := D1.cell (j := 2) (v := .int .i64 v2) rfl
    have g0 := D2.cell (j := 0) (v := .string v1) rfl; have g1 := D2.cell (j := 1) (v := .string e0) rfl; have g2 := D2.cell (j := 2) (v := .int .i64 v2) rfl
    have hsq : (s.toList != s.toList) = false := by rw [bne, str_eq]; simp
    have hsq2 : (s.toList == s.toList) = true := by rw [str_eq]; simp
    clear D1 D2
    cases ok
    · go_wp2
      go_ret
      exact ⟨rfl, F7⟩
    · obtain ⟨q, rfl, hq, hlog, hsv⟩ := HS.out rfl
      have hbs : bl s = bl d ++ crL ((bl p).take q) b := by rw [hsv, bl_ba]
      clear hsv
      obtain ⟨i, hi, hrd, hdn, hfull⟩ := crash_read b hlog (by rw [bl_len]; exact hq)
      rw [← hbs] at hrd
      have hss : s.size ≤ 30000 := by
        have h1 := (logB_iff.1 hlog).1
        rw [← bl_len, hbs, List.length_append, crL_len, List.length_take]
        omega
      have hssl : (bl s).length ≤ 30000 := by rw [bl_len]; exact hss
      have RC := Lib.hid (fun W h => impl_RecoverLog_any s W (by omega) h)
      have hrv := rec_valid hssl
      have hrl := take_rdA (bl s)
      have hre := rdA_end (bl s)
      rw [bl_len] at hre
      obtain ⟨bk, hbk⟩ : ∃ bk, s.extract 0 (lns 0 (rdA (bl s))).length = bk := ⟨_, rfl⟩
      have hbl : bl bk = lns 0 (rdA (bl s)) := by rw [← hbk, bl_front s _ hre, hrl]
      have hbz : bk.size = (lns 0 (rdA (bl s))).length := by rw [← bl_len, hbl]
      have e1 : recL s = bk := by rw [recL, if_pos hss, hbk]
      have e2 : recC (bl s) = (rdA (bl s)).length := by rw [recC, if_pos hssl]
      have e3 : recN (bl s) = bk.size := by rw [recN, if_pos hssl, hbz]
      have e4 : decide (s.size ≤ 30000) = true := decide_eq_true hss
      unfold RetRec at RC
      rw [e1, e2, e3, e4] at RC
      have HLB : Hid (logB (bl bk) (bl e0) ((rdA (bl s)).length : Nat) = true) := Lib.hid (by rw [hbl]; exact hrv.1)
      have HRB : Hid (rdA (bl bk ++ bl e0) = (rdA (bl d ++ bl p)).take i) := Lib.hid (by
        rw [hbl, show bl e0 = [] from rfl, List.append_nil, hrv.2, hrd])
      have hbd : d.size ≤ bk.size := by rw [hbz, hrd, ← bl_len]; exact hdn
      have hbz2 : bk.size ≤ 30000 := by omega
      have HF := Lib.hid hfull
      have hc60 : (rdA (bl s)).length ≤ 60 := rdL_len 60 0 _
      have hc61 : (rdA (bl d ++ bl p)).length ≤ 60 := rdL_len 60 0 _
      have HLG := Lib.hid hlog
      generalize ((rdA (bl s)).length : Nat) = cc at RC HLB hc60
      have ee0 : e0.size = 0 := rfl
      clear hrd hdn hfull hssl hrv hrl hre hbk hbl hbz e1 e2 e3 e4 hss hbs HS hlog H
      go_wp2_with fail
      refine (RC.out _ (hE.fr F7)).mono ?_
      rintro e w8 ⟨rfl, f8⟩
      have fc : Fr w8 (w8.alloc (.cells #[.string bk, .string e0, .int .i64 cc] 33)) := (Fr.refl _).alloc _
      have D3 := Box.new w8 #[.string bk, .string e0, .int .i64 cc] 33
      replace B1 := (B1.fr f8).fr fc
      have F8 := (F7.trans f8).trans fc
      clear f8 fc F7 RC c0 c1 c2 d0 d1 d2 g0 g1 g2 hsq hsq2
      have c0 := B1.cell (j := 0) (v := .string d) rfl; have c1 := B1.cell (j := 1) (v := .string p) rfl; have c2 := B1.cell (j := 2) (v := .int .i64 c) rfl
      have d0 := D3.cell (j := 0) (v := .string bk) rfl; have d1 := D3.cell (j := 1) (v := .string e0) rfl; have d2 := D3.cell (j := 2) (v := .int .i64 cc) rfl
      have hbi : ¬ (bk.size : Int) < (d.size : Int) := by omega
      go_wp2_with fail
      refine (IsValidLog_any bk e0 cc _ (by omega) (hE.fr F8)).mono ?_
      rw [HLB.out]
      rintro e w9 ⟨rfl, f9⟩
      replace B1 := B1.fr f9; replace D3 := D3.fr f9
      have F9 := F8.trans f9
      replace c0 := f9.keep c0; replace c1 := f9.keep c1; replace c2 := f9.keep c2
      replace d0 := f9.keep d0; replace d1 := f9.keep d1; replace d2 := f9.keep d2
      clear f9 F8
      go_wp2_with fail
      refine (impl_LogRecords_any d p c _ (by omega) (hE.fr F9)).mono ?_
      rw [HLG.out]
      rintro e w10 ⟨a1, n1, cap1, xs, rfl, o1, hx, f10⟩
      rw [if_pos rfl] at hx
      replace d0 := f10.keep d0; replace d1 := f10.keep d1; replace d2 := f10.keep d2
      replace c1 := f10.keep c1
      have F10 := F9.trans f10
      clear f10 F9 c0 c2
      go_wp2_with fail
      refine (impl_LogRecords_any bk e0 cc _ (by omega) (hE.fr F10)).mono ?_
      rw [HLB.out]
      rintro e w11 ⟨a2, n2, cap2, ys, rfl, o2, hy, f11⟩
      rw [if_pos rfl, HRB.out] at hy
      have hn1 : n1 = (rdA (bl d ++ bl p)).length := by rw [← hx, blR_len, o1.len]
      have hn2 : n2 = i := by rw [← o2.len, ← blR_len, hy, List.length_take]; omega
      have hyx : ys = xs.take i := blR_inj (by rw [hy, ← hx]; simp [blR])
      have R1 := ((o1.fr f11).rd (by omega)).take (m := n2) (ys := ys) (by omega) (by rw [hn2]; exact hyx)
      have R2 := o2.rd (by omega)
      replace c1 := f11.keep c1
      have F11 := F10.trans f11
      have hle2 : (n2 : Int) ≤ (n1 : Int) := by omega
      have HN1 := Lib.hid hn1; have HN2 := Lib.hid hn2
      have hcp : n1 ≤ cap1 := by
        rcases o1.row.2 with ⟨h2, h3⟩ | ⟨g, cap', cur, h2, h3, h4, h5, _⟩
        · omega
        · simp only [Value.slice.injEq] at h2
          omega
      have hle3 : (n2 : Int) ≤ (cap1 : Int) := by omega
      have hn160 : n1 ≤ 60 := by omega
      clear hx hy hyx o1 o2 f11 F10 d0 d1 d2 hn1 hn2 D3 B1
      go_wp2_with fail
      refine (vRecords_same _ _ _ _ _ _ ys R2 R1).mono ?_
      rintro e w12 ⟨rfl, f12⟩
      replace c1 := f12.keep c1
      cases b
      · by_cases hqp : (q : Int) < (p.size : Int)
        · go_wp2
          go_ret
          exact ⟨rfl, F11.trans f12⟩
        · have hnn : n2 = n1 := by rw [HN1.out, HN2.out]; exact HF.out rfl (by rw [bl_len]; omega)
          clear HN1 HN2 HF
          subst hnn
          go_wp2
          go_ret
          exact ⟨rfl, F11.trans f12⟩
      · go_wp2
        go_ret
        exact ⟨rfl, F11.trans f12⟩
end Go.Proofs.YtolnloeapbplkaaDoor
