import Derived.Test.YtojipjjfndgbhaaZH09
import Derived.Test.YtojipjjfndgbhaaZH06
/- Contracts of trees: the reference's totals and means. -/
set_option linter.unusedVariables false
namespace Go.Proofs.Ytojipjjfndgbhaa
open Go.ChangeShapes Go.WideShapes Go.ChangeAt Go.RowKit

set_option maxRecDepth 100000 in
set_option maxHeartbeats 1000000 in
theorem l2Totals_any (w : World) (p q a : Option Addr) (n c m d l b : Nat) (P W V : List Int) (hP : SL w p n c P) (hW : SL w q m d W) (hV : SL w a l b V) (ht : treeB P W = true) (hl : l = (endsM P).length) (hv : ∀ i, -999 ≤ nth V i ∧ nth V i ≤ 999) :
    Calls Try.prog 126 #[.agg #[.slice p n c, .slice q m d], .slice a l b] w (RetS (totalsM P W V) w) := by
  have HP := Lib.hid hP.len
  have HW := Lib.hid hW.len
  have HL := Lib.hid hl
  have Hv := Lib.hid hv
  have Hw := Lib.hid (tree_wei ht)
  obtain ⟨t1, t2, t3, _⟩ := treeB_iff.1 ht
  have hbd : Hid (∀ j, j + 1 ≤ n → ∀ i, ((nth (gathTo P (spreadM P W V) j) i).natAbs : Int) ≤ 479520) := Lib.hid (fun j hj i => by
    have := (gathTo_abs (a := spreadM P W V) t3 (spreadTo_len _ _ _ _) j (by rw [HP.out]; exact hj)).2 i
    have h2 := spread_abs (P := P) (tree_wei ht) hv t1.2
    omega)
  rw [HP.out] at t1
  rw [HP.out, HW.out] at t2
  subst t2
  have Ht := Lib.hid t3
  clear t3 ht hl hv
  have hmk := fun w => run_make_row' 22 3 (.int .i64 0) 8 Try.underlying22 infoInt rfl .i64 .i64 m (by omega) (by omega) w
  have hfr : Fr w (w.alloc (.cells #[.slice p m c, .slice q m d] 29)) := (Fr.refl w).alloc _
  have H0 := Lib.hid (Blk.new w #[.slice p m c, .slice q m d] 29)
  go_enter Try.func126, Try.ntmps126
  go_upto_region 1 with fail
  generalize hw1 : w.alloc (.cells #[.slice p m c, .slice q m d] 29) = w1 at hfr H0 ⊢
  have z1 : w1.heap.size = w.heap.size + 1 := by rw [← hw1]; simp
  have Z1 := Lib.hid z1
  clear hw1 z1
  have hP1 := hP.fr hfr
  have c0 := H0.out.cell (j := 0) rfl
  have c1 := H0.out.cell (j := 1) rfl
  go_cut [5, 6] (fun s5 s6 wx => ∃ (g : Nat) (a2 : Option Addr) (n2 k2 : Nat), s5 = .slice (some ⟨g, 0, none⟩) m m ∧ s6 = .slice a2 n2 k2 ∧
    Own w1.heap.size wx (some ⟨g, 0, none⟩) m m (List.replicate m 0) ∧ Own w1.heap.size wx a2 n2 k2 (endsM P) ∧ Apart (some ⟨g, 0, none⟩) a2 ∧ Fr w1 wx)
  case first =>
    go_region_held3 (fun w' => w'.cell? ⟨w.heap.size, 0, none⟩ = some (.slice p m c) ∧ w'.cell? ⟨w.heap.size, 1, none⟩ = some (.slice q m d))
      (first
        | go_keep
        | (exact ⟨(H0.out.fr F2).cell rfl, (H0.out.fr F2).cell rfl⟩))
      (first
        | (go_at_call 117; refine (l2Ends_any _ _ _ _ _ _ _ _ (hP1.fr (by first | exact (Fr.refl w1).drew' 1 | exact ((Fr.refl w1).alloc _).drew' 1)) Ht.out (by omega)).mono ?_; rintro e w2 ⟨a2, n2, c2, rfl, o2, f2, _⟩; have F2 : Fr w1 w2 := (by first | exact ((Fr.refl w1).drew' 1).trans f2 | exact (((Fr.refl w1).alloc _).drew' 1).trans f2); have y2 := F2.size; have x2 := o2.within; have o2' : Own w1.heap.size w2 a2 n2 c2 (endsM P) := o2.mono (by first | exact Nat.le_refl _ | simp)))
    all_goals
      go_wp2_with fail
      go_meet
    · exact ⟨_, a2, n2, c2, rfl, rfl, (((Own.made w1 m (Nat.le_refl _) (by unfold maxLen; omega)).fr (Fr.drewN _ 1)).fr f2), o2', fun k h1 h2 => by simp [blkOf] at h1; have := x2 k h2; simp at this; omega, F2⟩
    · exact ⟨_, a2, n2, c2, rfl, rfl, Own.made w2 m y2 (by unfold maxLen; omega), o2'.fr ((Fr.refl _).alloc _), fun k h1 h2 => by simp [blkOf] at h1; have := x2 k h2; omega, F2.alloc _⟩
  case rest =>
    obtain ⟨g, a2, n2, k2, rfl, rfl, oO, oE, aOE, hF1⟩ := hcut
    have Hn2 := Lib.hid oE.len
    have hln : l = n2 := by rw [← Hn2.out, HL.out]
    subst hln
    have hl24 : l ≤ 24 := by
      have h1 := endsTo_len P P.length
      have h2 : (endsM P).length = l := Hn2.out
      rw [endsM] at h2; have := HP.out; omega
    have hg := oO.blk g rfl
    clear c0 c1 hP1
    go_wp2
    go_loopw [7] (fun i wr => ∃ k : Nat, k ≤ l ∧ i = .int .i64 k ∧ Own w1.heap.size wr (some ⟨g, 0, none⟩) m m (spreadTo P W V k) ∧ SL wr a2 l k2 (endsM P) ∧ Fr w1 wr) (fun i _ => l - (intOf i).toNat)
    case atStart => exact ⟨0, by omega, rfl, by rw [spreadTo, HP.out]; exact oO, oE.sl, hF1⟩
    case round =>
      clear oO oE hF1
      obtain ⟨k, hk, rfl, ho, he, hf⟩ := hrel
      have hF : Fr w wr := hfr.trans hf
      have hbx0 := (H0.out.fr hf).cell (j := 0) rfl
      have hbx1 := (H0.out.fr hf).cell (j := 1) rfl
      by_cases hlt : k < l
      · obtain ⟨y, hy, hyl, _⟩ := ends_nth (P := P) (i := k) (by rw [Hn2.out]; exact hlt)
        rw [HP.out] at hyl
        obtain ⟨b2, of2, rfl, hce⟩ := he.cells.resolve_left (by omega)
        replace hce := hce k hlt
        have HS : Hid (spreadTo P W V (k + 1) = (spreadTo P W V k).set y (nth W y * nth V k)) := Lib.hid (by rw [spreadTo, hy, Int.mul_comm]; rfl)
        rw [hy] at hce
        clear hy
        obtain ⟨bv, ov, rfl, hcv⟩ := (hV.fr hF).cells.resolve_left (by omega)
        replace hcv := hcv k hlt
        obtain ⟨bw, ow, rfl, hcw⟩ := (hW.fr hF).cells.resolve_left (by omega)
        replace hcw := hcw y hyl
        obtain ⟨g', hg', hB, hlt2, hcc, hfro⟩ := ho.op (by omega)
        obtain rfl : g = g' := by simpa using hg'
        replace hfro := hfro y
        have hcc := hcc y hyl
        have b1 := Hv.out k
        have b2' := Hw.out y
        have i1 : (0 : Int) ≤ (k : Int) := by omega
        have i2 : (k : Int) < (l : Int) := by omega
        have i3 : (0 : Int) ≤ (y : Int) := by omega
        have i4 : (y : Int) < (m : Int) := by omega
        have hmul : -19980 ≤ nth W y * nth V k ∧ nth W y * nth V k ≤ 19980 := by
          have := natAbs_mul_le (M := 20) (N := 999) (show ((nth W y).natAbs : Int) ≤ 20 by omega) (show ((nth V k).natAbs : Int) ≤ 999 by omega)
          omega
        have hneb : b2 ≠ g := fun e => aOE g rfl (by rw [← e]; rfl)
        go_wp2
        have e1 : IntKind.i64.wrap (nth W y * nth V k) = nth W y * nth V k := IntWalk.i64_in _ (by omega)
        go_region
        clear e1
        go_wp2
        go_roundw
        case rel =>
          refine ⟨k + 1, by omega, by go_num, ?_, ?_, ?_⟩
          · rw [HS.out]; exact (ho.drewN 1).set rfl hyl (by unfold I64; omega)
          · exact (he.drewN 1).setOther (by simpa [blkOf] using hneb) _
          · exact (hf.drew' 1).setCell (by simp; omega) _
        case measure => simp [intOf]; omega
      · obtain rfl : k = l := by omega
        have HM : Hid (spreadTo P W V k = spreadM P W V) := Lib.hid (by rw [spreadM, HL.out])
        rw [HM.out] at ho
        clear he hbx0 hbx1
        go_wp2
        go_loopw [8] (fun i wr => ∃ x : Nat, x < m ∧ i = .int .i64 x ∧ Own w1.heap.size wr (some ⟨g, 0, none⟩) m m (gathTo P (spreadM P W V) (m - 1 - x)) ∧ Fr w1 wr) (fun i _ => (intOf i).toNat)
        case atStart => exact ⟨m - 1, by omega, congrArg (Value.int .i64) (by omega), by rw [Nat.sub_self]; exact ho, hf⟩
        case round =>
          clear ho hf hF
          obtain ⟨x, hx, rfl, ho, hf⟩ := hrel
          have hF : Fr w wr := hfr.trans hf
          by_cases h0 : 0 < x
          · have hbox := (H0.out.fr hf).cell (j := 0) rfl
            obtain ⟨bp, op, rfl, hcp⟩ := (hP.fr hF).cells.resolve_left (by omega)
            replace hcp := hcp x hx
            obtain ⟨y, hy⟩ := Int.eq_ofNat_of_zero_le (by have := (parB_iff.1 Ht.out).2 x (by rw [HP.out]; exact hx) h0; omega : 0 ≤ nth P x)
            have hyx : y < x := by have := (parB_iff.1 Ht.out).2 x (by rw [HP.out]; exact hx) h0; omega
            have HG : Hid (gathTo P (spreadM P W V) (m - 1 - (x - 1)) = (gathTo P (spreadM P W V) (m - 1 - x)).set y (nth (gathTo P (spreadM P W V) (m - 1 - x)) y + nth (gathTo P (spreadM P W V) (m - 1 - x)) x)) := Lib.hid (by
              rw [show m - 1 - (x - 1) = (m - 1 - x) + 1 by omega, gathTo, gathS, HP.out, show m - 1 - (m - 1 - x) = x by omega, hy]; simp)
            rw [hy] at hcp
            clear hy
            obtain ⟨g', hg', hB, hlt2, hcc, hfro⟩ := ho.op (by omega)
            obtain rfl : g = g' := by simpa using hg'
            have hcx := hcc x hx
            have hcy := hcc y (by omega)
            replace hfro := hfro y
            clear hcc
            have b1 := hbd.out (m - 1 - x) (by omega) x
            have b2 := hbd.out (m - 1 - x) (by omega) y
            have i1 : (0 : Int) ≤ (x : Int) := by omega
            have i2 : (x : Int) < (m : Int) := by omega
            have i3 : (0 : Int) ≤ (y : Int) := by omega
            have i4 : (y : Int) < (m : Int) := by omega
            have hxd : decide (0 < x) = true := by simp; omega
            go_wp2
            have e1 : IntKind.i64.wrap (nth (gathTo P (spreadM P W V) (m - 1 - x)) y + nth (gathTo P (spreadM P W V) (m - 1 - x)) x) = nth (gathTo P (spreadM P W V) (m - 1 - x)) y + nth (gathTo P (spreadM P W V) (m - 1 - x)) x := IntWalk.i64_in _ (by omega)
            go_region
            clear e1
            go_wp2
            go_roundw
            case rel =>
              refine ⟨x - 1, by omega, congrArg (Value.int .i64) (by omega), ?_, ?_⟩
              · rw [HG.out]; exact (ho.drewN 1).set rfl (by omega) (by unfold I64; omega)
              · exact (hf.drew' 1).setCell (by simp; omega) _
            case measure => simp [intOf]; omega
          · obtain rfl : x = 0 := by omega
            have HM2 : Hid (gathTo P (spreadM P W V) (m - 1 - 0) = totalsM P W V) := Lib.hid (by rw [totalsM, gathM, HP.out]; rfl)
            rw [HM2.out] at ho
            have z1 := Z1.out
            go_wp2
            go_ret
            exact ⟨_, _, _, rfl, ho.mono (by omega), hF, by omega⟩

theorem lowOk_fit {p q : Int} (hp : -1000000000 ≤ p ∧ p ≤ 1000000000) (hq : 0 < q ∧ q ≤ 1000000) : lowOk p q = true := by
  have hg := gcd_pos (a := p) hq.1
  have h1 : (lowP p q).natAbs ≤ p.natAbs := by unfold lowP; rw [Int.natAbs_tdiv]; exact Nat.div_le_self _ _
  have h2 : (lowQ p q).natAbs ≤ q.natAbs := by unfold lowQ; rw [Int.natAbs_tdiv]; exact Nat.div_le_self _ _
  simp only [lowOk, Bool.and_eq_true, inB_iff, decide_eq_true_eq]
  omega
theorem lowP_eq {a b : Int} (h : lowOk a b = true) : lowA a b = lowP a b ∧ lowB a b = lowQ a b := by rw [lowA, lowB, h]; exact ⟨rfl, rfl⟩
set_option maxRecDepth 100000 in
set_option maxHeartbeats 1000000 in
theorem l2Means_any (w : World) (p q a : Option Addr) (n c m d l b : Nat) (P W V : List Int) (hP : SL w p n c P) (hW : SL w q m d W) (hV : SL w a l b V) (ht : treeB P W = true) (hl : l = (endsM P).length) (hv : ∀ i, -999 ≤ nth V i ∧ nth V i ≤ 999) :
    Calls Try.prog 85 #[.agg #[.slice p n c, .slice q m d], .slice a l b] w (RetP (meansM P W V) w) := by
  have HP := Lib.hid hP.len
  have HL := Lib.hid hl
  have Hv := Lib.hid hv
  have Ht := Lib.hid ht
  clear ht hl hv
  have hfr : Fr w (w.alloc (.cells #[.slice p n c, .slice q m d] 29)) := (Fr.refl w).alloc _
  have H0 := Lib.hid (Blk.new w #[.slice p n c, .slice q m d] 29)
  obtain ⟨t1, t2, t3, _⟩ := treeB_iff.1 Ht.out
  have Hp := Lib.hid t3
  rw [HP.out] at t1
  clear t2 t3
  go_enter Try.func85, Try.ntmps85
  go_upto_region 1 with fail
  generalize hw1 : w.alloc (.cells #[.slice p n c, .slice q m d] 29) = w1 at hfr H0 ⊢
  have z1 : w1.heap.size = w.heap.size + 1 := by rw [← hw1]; simp
  have Z1 := Lib.hid z1
  clear hw1 z1
  have hP1 := hP.fr hfr
  have hW1 := hW.fr hfr
  have hV1 := hV.fr hfr
  have c0 := H0.out.cell (j := 0) rfl
  have c1 := H0.out.cell (j := 1) rfl
  go_cut [5, 6, 7] (fun s5 s6 s7 wx => ∃ (g : Nat) (a3 a4 : Option Addr) (k3 k4 : Nat), s5 = .slice (some ⟨g, 0, none⟩) 0 0 ∧ s6 = .slice a4 n k4 ∧ s7 = .slice a3 n k3 ∧
    OwnP w1.heap.size wx (some ⟨g, 0, none⟩) 0 0 [] ∧ Own w1.heap.size wx a3 n k3 (totalsM P W V) ∧ Own w1.heap.size wx a4 n k4 (gathM P W) ∧ Apart (some ⟨g, 0, none⟩) a3 ∧ Apart (some ⟨g, 0, none⟩) a4 ∧ Fr w1 wx)
  case first =>
    go_region_held3 (fun w' => w'.cell? ⟨w.heap.size, 0, none⟩ = some (.slice p n c) ∧ w'.cell? ⟨w.heap.size, 1, none⟩ = some (.slice q m d))
      (first
        | go_keep
        | (exact ⟨(H0.out.fr F3).cell rfl, (H0.out.fr F3).cell rfl⟩)
        | (exact ⟨(H0.out.fr F2).cell rfl, (H0.out.fr F2).cell rfl⟩))
      (first
        | (go_at_call 122; refine (l2Sums_any _ _ _ _ _ _ _ _ _ (hP1.fr (by first | exact (Fr.refl w1).drew' 1 | exact ((Fr.refl w1).alloc _).drew' 1)) (hW1.fr (by first | exact (Fr.refl w1).drew' 1 | exact ((Fr.refl w1).alloc _).drew' 1)) Ht.out).mono ?_; rintro e w2 ⟨a4, n4, c4, rfl, o4, f2, _⟩; have F2 : Fr w1 w2 := (by first | exact ((Fr.refl w1).drew' 1).trans f2 | exact (((Fr.refl w1).alloc _).drew' 1).trans f2); have y2 := F2.size; have y4 := o4.within; have o4' : Own w1.heap.size w2 a4 n4 c4 (gathM P W) := o4.mono (by first | exact Nat.le_refl _ | simp))
        | (go_at_call 126; refine (l2Totals_any _ _ _ _ _ _ _ _ _ _ _ _ _ (hP1.fr (by first | exact F2 | exact F2.alloc _)) (hW1.fr (by first | exact F2 | exact F2.alloc _)) (hV1.fr (by first | exact F2 | exact F2.alloc _)) Ht.out HL.out Hv.out).mono ?_; rintro e w3 ⟨a3, n3, c3, rfl, o3, f3, _⟩; have F3 : Fr w1 w3 := (by first | exact F2.trans f3 | exact (F2.alloc _).trans f3); have y3 := o3.within; have x3 := f3.size; have o3' : Own w1.heap.size w3 a3 n3 c3 (totalsM P W V) := o3.mono (by first | exact y2 | exact Nat.le_trans y2 (by simp)); try simp only [World.size_alloc] at y3 x3))
    all_goals
      have N3 : n3 = n := by rw [← o3.len]; exact (totalsM_len P W V).trans HP.out
      have N4 : n4 = n := by rw [← o4.len, gathM, gathTo_len, (treeB_iff.1 Ht.out).2.1, HP.out]
      subst N3
      subst N4
      go_wp2_with fail
      go_meet
      have o43 := (show Own w1.heap.size w3 a4 n4 c4 (gathM P W) from by first | exact o4'.fr f3 | exact (o4'.fr ((Fr.refl _).alloc _)).fr f3)
    · exact ⟨_, a3, a4, c3, c4, rfl, rfl, rfl, (((OwnP.made0 w1 (Nat.le_refl _)).fr (Fr.drewN _ 1)).fr f2).fr f3, o3', o43, fun k h1 h2 => by simp [blkOf] at h1; have := y3 k h2; have := f2.size; simp at this; omega, fun k h1 h2 => by simp [blkOf] at h1; have := y4 k h2; simp at this; omega, F3⟩
    · exact ⟨_, a3, a4, c3, c4, rfl, rfl, rfl, (OwnP.made0 w2 y2).fr f3, o3', o43, fun k h1 h2 => by simp [blkOf] at h1; have := y3 k h2; omega, fun k h1 h2 => by simp [blkOf] at h1; have := y4 k h2; omega, F3⟩
    · exact ⟨_, a3, a4, c3, c4, rfl, rfl, rfl, OwnP.made0 w3 F3.size, o3'.fr ((Fr.refl _).alloc _), o43.fr ((Fr.refl _).alloc _), fun k h1 h2 => by simp [blkOf] at h1; have := y3 k h2; omega, fun k h1 h2 => by simp [blkOf] at h1; have := y4 k h2; omega, F3.alloc _⟩
  case rest =>
    obtain ⟨g, a3, a4, k3, k4, rfl, rfl, rfl, oP, oA, oS, ap3, ap4, hF⟩ := hcut
    have Hs := Lib.hid (sums_pos Ht.out)
    have Hl := Lib.hid (sums_le Ht.out)
    have Htb := Lib.hid (fun x => totals_bd (P := P) (W := W) (V := V) Hp.out (tree_wei Ht.out) Hv.out (by rw [HP.out]; exact t1.2) (by rw [HP.out]; exact t1.1) x)
    clear c0 c1 hP1 hW1 hV1
    go_wp2
    go_loopw [5, 8] (fun v i wr => ∃ (k cc : Nat) (ap : Option Addr), k ≤ n ∧ i = .int .i64 k ∧ v = .slice ap k cc ∧ OwnP w1.heap.size wr ap k cc (meansTo P W V k) ∧ Own w1.heap.size wr a3 n k3 (totalsM P W V) ∧ Own w1.heap.size wr a4 n k4 (gathM P W) ∧ Apart ap a3 ∧ Apart ap a4 ∧ Fr w1 wr) (fun _ i _ => n - (intOf i).toNat)
    case atStart => exact ⟨0, 0, _, by omega, rfl, rfl, oP, oA, oS, ap3, ap4, hF⟩
    case round =>
      clear oP oA oS ap3 ap4 hF
      obtain ⟨k, cc, ap, hk, rfl, rfl, oP, oA, oS, ap3, ap4, hF⟩ := hrel
      by_cases hlt : k < n
      · obtain ⟨g3, rfl, hB3, hl3, hc3, _⟩ := oA.op (by omega)
        obtain ⟨g4, rfl, hB4, hl4, hc4, _⟩ := oS.op (by omega)
        replace hc3 := hc3 k hlt
        replace hc4 := hc4 k hlt
        have b1 := Htb.out k
        have b2 := Hs.out k (by rw [HP.out]; exact hlt)
        have b3 := Hl.out k
        have HM := Lib.hid (meansTo_succ P W V k)
        have HQ : Hid (meanP P W V k = (lowP (nth (totalsM P W V) k) (nth (gathM P W) k), lowQ (nth (totalsM P W V) k) (nth (gathM P W) k))) := Lib.hid (by
          have h1 := lowP_eq (lowOk_fit (p := nth (totalsM P W V) k) (q := nth (gathM P W) k) (by omega) (by omega))
          rw [meanP, h1.1, h1.2])
        have hsz := hF.size
        have i1 : (0 : Int) ≤ (k : Int) := by omega
        have i2 : (k : Int) < (n : Int) := by omega
        have ra : -9223372036854775807 ≤ nth (totalsM P W V) k ∧ nth (totalsM P W V) k ≤ 9223372036854775807 := by omega
        have rb : 0 < nth (gathM P W) k ∧ nth (gathM P W) k ≤ 9223372036854775807 := by omega
        have e3 : blkOf ap ≠ some g3 := fun e => ap3 g3 e rfl
        have e4 : blkOf ap ≠ some g4 := fun e => ap4 g4 e rfl
        go_wp2
        go_region_held3 (fun w' => w'.cell? ⟨g3, k, none⟩ = some (.int .i64 (nth (totalsM P W V) k)) ∧ w'.cell? ⟨g4, k, none⟩ = some (.int .i64 (nth (gathM P W) k)))
          (first
            | go_keep
            | (exact ⟨f2.keep hc3, f2.keep hc4⟩)
            | (go_split_ands
               refine ⟨?_, ?_⟩
               · (rw [q2.cell_far _ (by simp; omega) (Ne.symm e3)]; assumption)
               · (rw [q2.cell_far _ (by simp; omega) (Ne.symm e4)]; assumption)))
          (first
            | (go_at_call 123; refine (l2Cut_any _ _ _ ra rb).mono ?_; rintro e w2 ⟨rfl, f2⟩; have y2 : wr.heap.size ≤ w2.heap.size := f2.size)
            | (refine step_ap_pair _ rfl _ _ rfl w1.heap.size ap k cc (meansTo P W V k) (lowP (nth (totalsM P W V) k) (nth (gathM P W) k)) (lowQ (nth (totalsM P W V) k) (nth (gathM P W) k)) w2.heap.size (by rfl) (by rfl) (((oP.fr (Fr.drewN _ 1)).fr f2).fr ((Fr.refl _).alloc _)) (by simp; omega) (cell_of_row _ w2.heap.size 0 _ 46 (0, 0) (heap_alloc_new w2 _)) (cell_of_row _ w2.heap.size 1 _ 46 (0, 0) (heap_alloc_new w2 _)) (by omega) (w2.heap.size + 1) (by simp) ?_; intro g' c' w' q1 q2 q3))
        have fq : Fr wr w2 := (Fr.drewN _ 1).trans f2
        have oA2 := oA.fr fq
        have oS2 := oS.fr fq
        have oP2 := oP.fr fq
        have oA3 := (oA2.fr ((Fr.refl w2).alloc _)).grown q2 (.inr (by simpa [blkOf] using Ne.symm e3))
        have oS3 := (oS2.fr ((Fr.refl w2).alloc _)).grown q2 (.inr (by simpa [blkOf] using Ne.symm e4))
        have n3 : Apart (some ⟨g', 0, none⟩) (some ⟨g3, 0, none⟩) := by
          intro z h1 h2
          simp only [blkOf, Option.map_some, Option.some.injEq] at h1
          subst h1
          rcases q3 with h | h
          · exact ap3 _ h h2
          · have := (oA2.blk _ h2).2; omega
        have n4 : Apart (some ⟨g', 0, none⟩) (some ⟨g4, 0, none⟩) := by
          intro z h1 h2
          simp only [blkOf, Option.map_some, Option.some.injEq] at h1
          subst h1
          rcases q3 with h | h
          · exact ap4 _ h h2
          · have := (oS2.blk _ h2).2; omega
        have hF3 := ((hF.trans fq).alloc _).grown q2 (fun z hz => (oP2.blk z hz).1)
        go_wp2
        go_roundw
        case rel => exact ⟨k + 1, c', _, by omega, by go_num, rfl, by rw [HM.out, HQ.out]; exact q1, oA3, oS3, n3, n4, hF3⟩
        case measure => simp [intOf]; omega
      · obtain rfl : k = n := by omega
        have HM : Hid (meansTo P W V k = meansM P W V) := Lib.hid (by rw [meansM, HP.out])
        rw [HM.out] at oP
        go_wp2
        go_ret
        have z1 := Z1.out
        exact ⟨_, _, _, rfl, oP.mono (by omega), hfr.trans hF, by omega⟩

end Go.Proofs.Ytojipjjfndgbhaa
/- Contracts of the laws' functions on trees and houses: comparisons, marks. -/
set_option linter.unusedVariables false
namespace Go.Proofs.Ytojipjjfndgbhaa
open Go.ChangeShapes Go.WideShapes Go.ChangeAt Go.RowKit

theorem eqTree_any (w : World) (p q p' q' : Option Addr) (n c m d n' c' m' d' : Nat) (P W P' W' : List Int) (hP : SL w p n c P) (hW : SL w q m d W) (hP' : SL w p' n' c' P') (hW' : SL w q' m' d' W') :
    Calls Try.prog 25 #[.agg #[.slice p n c, .slice q m d], .agg #[.slice p' n' c', .slice q' m' d']] w fun e w' => e = .returned (.bool (decide (P = P') && decide (W = W'))) ∧ Fr w w' := by
  have hfr : Fr w ((w.alloc (.cells #[.slice p n c, .slice q m d] 29)).alloc (.cells #[.slice p' n' c', .slice q' m' d'] 29)) := ((Fr.refl w).alloc _).alloc _
  have H0 := Lib.hid ((Blk.new w #[.slice p n c, .slice q m d] 29).alloc (.cells #[.slice p' n' c', .slice q' m' d'] 29))
  have H1 := Lib.hid (Blk.new (w.alloc (.cells #[.slice p n c, .slice q m d] 29)) #[.slice p' n' c', .slice q' m' d'] 29)
  rw [World.size_alloc] at H1
  have c0 := H0.out.cell (j := 0) rfl
  have c1 := H1.out.cell (j := 0) rfl
  go_enter Try.func25, Try.ntmps25
  go_wp2_with fail
  refine (eqIntS_any _ _ _ _ _ _ _ _ _ (hP.fr hfr) (hP'.fr hfr)).mono ?_
  rintro e w1 ⟨rfl, f1⟩
  clear c0 c1
  have c0 := (H0.out.fr f1).cell (j := 1) rfl
  have c1 := (H1.out.fr f1).cell (j := 1) rfl
  by_cases h : P = P'
  · have hb : decide (P = P') = true := by simp [h]
    have HB := Lib.hid hb
    clear h
    go_wp2_with fail
    refine (eqIntS_any _ _ _ _ _ _ _ _ _ (hW.fr (hfr.trans f1)) (hW'.fr (hfr.trans f1))).mono ?_
    rintro e w2 ⟨rfl, f2⟩
    clear hb
    by_cases h : W = W'
    · have hb : decide (W = W') = true := by simp [h]
      have HC := Lib.hid hb
      clear h
      go_wp2
      go_ret
      exact ⟨by rw [HB.out, HC.out]; rfl, (hfr.trans f1).trans f2⟩
    · have hb : decide (W = W') = false := by simp [h]
      have HC := Lib.hid hb
      clear h
      go_wp2
      go_ret
      exact ⟨by rw [HB.out, HC.out]; rfl, (hfr.trans f1).trans f2⟩
  · have hb : decide (P = P') = false := by simp [h]
    have HB := Lib.hid hb
    clear h
    go_wp2
    go_ret
    exact ⟨by rw [HB.out]; rfl, hfr.trans f1⟩

theorem eqTree_same (w : World) (p q p' q' : Option Addr) (n c m d n' c' m' d' : Nat) (P W : List Int) (hP : SL w p n c P) (hW : SL w q m d W) (hP' : SL w p' n' c' P) (hW' : SL w q' m' d' W) :
    Calls Try.prog 25 #[.agg #[.slice p n c, .slice q m d], .agg #[.slice p' n' c', .slice q' m' d']] w fun e w' => e = .returned (.bool true) ∧ Fr w w' :=
  (eqTree_any w p q p' q' n c m d n' c' m' d' P W P W hP hW hP' hW').mono fun e w' ⟨h1, h2⟩ => ⟨by simpa using h1, h2⟩

def eqH (P W X P' W' X' : List Int) (x s u v x' s' u' v' : Int) : Bool := (decide (P = P') && decide (W = W')) && decide (X = X') && (x == x') && (s == s') && (u == u') && (v == v')
theorem eqH_iff {P W X P' W' X' : List Int} {x s u v x' s' u' v' : Int} : eqH P W X P' W' X' x s u v x' s' u' v' = true ↔ P = P' ∧ W = W' ∧ X = X' ∧ x = x' ∧ s = s' ∧ u = u' ∧ v = v' := by
  simp [eqH, and_assoc]
/-- The comparison of a house with one that is the same. -/
theorem eqHouse_same (w : World) (p q a p' q' a' : Option Addr) (n c m d l b n' c' m' d' l' b' : Nat) (P W X : List Int) (x s u v : Int) (hP : SL w p n c P) (hW : SL w q m d W) (hX : SL w a l b X) (hP' : SL w p' n' c' P) (hW' : SL w q' m' d' W) (hX' : SL w a' l' b' X) :
    Calls Try.prog 19 #[.agg #[.slice p n c, .slice q m d, .slice a l b, .int .i64 x, .int .i64 s, .int .i64 u, .int .i64 v], .agg #[.slice p' n' c', .slice q' m' d', .slice a' l' b', .int .i64 x, .int .i64 s, .int .i64 u, .int .i64 v]] w fun e w' => e = .returned (.bool true) ∧ Fr w w' := by
  have hfr : Fr w ((w.alloc (.cells #[.slice p n c, .slice q m d, .slice a l b, .int .i64 x, .int .i64 s, .int .i64 u, .int .i64 v] 31)).alloc (.cells #[.slice p' n' c', .slice q' m' d', .slice a' l' b', .int .i64 x, .int .i64 s, .int .i64 u, .int .i64 v] 31)) := ((Fr.refl w).alloc _).alloc _
  have H0 := Lib.hid ((Blk.new w #[.slice p n c, .slice q m d, .slice a l b, .int .i64 x, .int .i64 s, .int .i64 u, .int .i64 v] 31).alloc (.cells #[.slice p' n' c', .slice q' m' d', .slice a' l' b', .int .i64 x, .int .i64 s, .int .i64 u, .int .i64 v] 31))
  have H1 := Lib.hid (Blk.new (w.alloc (.cells #[.slice p n c, .slice q m d, .slice a l b, .int .i64 x, .int .i64 s, .int .i64 u, .int .i64 v] 31)) #[.slice p' n' c', .slice q' m' d', .slice a' l' b', .int .i64 x, .int .i64 s, .int .i64 u, .int .i64 v] 31)
  rw [World.size_alloc] at H1
  have c0 := H0.out.cell (j := 0) rfl; have c1 := H1.out.cell (j := 0) rfl; have d0 := H0.out.cell (j := 1) rfl; have d1 := H1.out.cell (j := 1) rfl
  go_enter Try.func19, Try.ntmps19
  go_wp2_with fail
  refine (eqTree_any _ _ _ _ _ _ _ _ _ _ _ _ _ _ _ _ _ (hP.fr hfr) (hW.fr hfr) (hP'.fr hfr) (hW'.fr hfr)).mono ?_
  rintro e w1 ⟨rfl, f1⟩
  clear c0 c1 d0 d1
  have c0 := (H0.out.fr f1).cell (j := 2) rfl; have c1 := (H1.out.fr f1).cell (j := 2) rfl
  have hb : (decide (P = P) && decide (W = W)) = true := by simp
  go_wp2_with fail
  refine (eqIntS_any _ _ _ _ _ _ _ _ _ (hX.fr (hfr.trans f1)) (hX'.fr (hfr.trans f1))).mono ?_
  rintro e w2 ⟨rfl, f2⟩
  clear c0 c1 hb
  have hb : decide (X = X) = true := by simp
  have a0 := ((H0.out.fr f1).fr f2).cell (j := 3) rfl; have a1 := ((H1.out.fr f1).fr f2).cell (j := 3) rfl
  have b0 := ((H0.out.fr f1).fr f2).cell (j := 4) rfl; have b1 := ((H1.out.fr f1).fr f2).cell (j := 4) rfl
  have c0 := ((H0.out.fr f1).fr f2).cell (j := 5) rfl; have c1 := ((H1.out.fr f1).fr f2).cell (j := 5) rfl
  have d0 := ((H0.out.fr f1).fr f2).cell (j := 6) rfl; have d1 := ((H1.out.fr f1).fr f2).cell (j := 6) rfl
  go_wp2
  go_ret
  exact ⟨rfl, (hfr.trans f1).trans f2⟩

theorem Blk.skipIn {w w' : World} {g B H : Nat} {cs : Array Value} {t : TypeId} (h : Blk w g cs t) (G : GrownIn B H w w') (hd : g < B ∨ H ≤ g) : Blk w' g cs t := by
  unfold Blk; rw [G.block g h.lt (by omega)]; exact h

theorem markTree_any (B M H : Nat) (w : World) (p q : Option Addr) (n c m d : Nat) (P W : List Int) (k : Int) (hP : Own B w p n c P) (hW : Own M w q m d W) (hp : Within p B M) (hq : Within q M H) (hBM : B ≤ M) (hMH : M ≤ H) (hH : H ≤ w.heap.size)
    (h0 : 0 ≤ k) (h1 : k ≤ 100000000) (hn : n ≤ 1048576) (hm : m ≤ 1048576) :
    Calls Try.prog 27 #[.agg #[.slice p n c, .slice q m d], .int .i64 k] w fun e w' => e = .returned (.int .i64 (k + n + m)) ∧ Own B w' p n c (marks k n) ∧ Own M w' q m d (marks (k + n) m) ∧ GrownIn B H w w' := by
  have hfr : Fr w (w.alloc (.cells #[.slice p n c, .slice q m d] 29)) := (Fr.refl w).alloc _
  have H0 := Lib.hid (Blk.new w #[.slice p n c, .slice q m d] 29)
  have c0 := H0.out.cell (j := 0) rfl
  go_enter Try.func27, Try.ntmps27
  go_wp2_with fail
  refine (markIntS_any B _ _ _ _ _ _ (hP.fr hfr) h0 (by omega) (by omega)).mono ?_
  rintro e w1 ⟨rfl, o1, g1⟩
  have b1 := H0.out.grown g1 (fun e => by have := hp _ e; omega)
  have o2 := (hW.fr hfr).skip g1 hq hp (.inr (Nat.le_refl _))
  clear c0
  have c0 := b1.cell (j := 1) rfl
  have z1 := g1.size
  rw [World.size_alloc] at z1
  go_wp2_with fail
  refine (markIntS_any M _ _ _ _ _ _ o2 (by omega) (by omega) (by omega)).mono ?_
  rintro e w2 ⟨rfl, o3, g2⟩
  have o4 := o1.skip g2 hp hq (.inl (Nat.le_refl _))
  go_wp2
  go_ret
  have G1 : GrownIn B H w w1 := by
    have := (GrownIn.of g1 (B := B) (H := H) (fun k hk => by have := hp k hk; omega))
    have hf : GrownIn B H w (w.alloc (.cells #[.slice p n c, .slice q m d] 29)) := ⟨hfr.os, hfr.tape, hfr.output, hfr.size, fun i hi _ => hfr.block i hi⟩
    exact hf.trans this
  exact ⟨rfl, o4, o3, G1.trans (GrownIn.of g2 (fun k hk => by have := hq k hk; omega))⟩

theorem heldTree_any (w : World) (p q : Option Addr) (n c m d : Nat) (k : Int) (hP : SL w p n c (marks k n)) (hW : SL w q m d (marks (k + n) m)) (h0 : 0 ≤ k) (h1 : k ≤ 100000000) (hn : n ≤ 1048576) (hm : m ≤ 1048576) :
    Calls Try.prog 76 #[.agg #[.slice p n c, .slice q m d], .int .i64 k] w fun e w' => e = .returned (.int .i64 (k + n + m)) ∧ Fr w w' := by
  have hfr : Fr w (w.alloc (.cells #[.slice p n c, .slice q m d] 29)) := (Fr.refl w).alloc _
  go_enter Try.func76, Try.ntmps76
  go_wp2_with fail
  refine (heldIntS_any _ _ _ _ _ (hP.fr hfr) h0 (by omega) (by omega)).mono ?_
  rintro e w1 ⟨rfl, rfl⟩
  go_wp2_with fail
  refine (heldIntS_any _ _ _ _ _ (hW.fr hfr) (by omega) (by omega) (by omega)).mono ?_
  rintro e w1 ⟨rfl, rfl⟩
  go_wp2
  go_ret
  exact ⟨rfl, hfr⟩

theorem markHouse_any (B M N H : Nat) (w : World) (p q a : Option Addr) (n c m d l b : Nat) (P W X : List Int) (x s u v : Int) (k : Int) (hP : Own B w p n c P) (hW : Own M w q m d W) (hX : Own N w a l b X) (hp : Within p B M) (hq : Within q M N) (ha : Within a N H) (hBM : B ≤ M) (hMN : M ≤ N) (hNH : N ≤ H) (hH : H ≤ w.heap.size)
    (h0 : 0 ≤ k) (h1 : k ≤ 10000000) (hn : n ≤ 1048576) (hm : m ≤ 1048576) (hl : l ≤ 1048576) :
    Calls Try.prog 29 #[.agg #[.slice p n c, .slice q m d, .slice a l b, .int .i64 x, .int .i64 s, .int .i64 u, .int .i64 v], .int .i64 k] w fun e w' => e = .returned (.int .i64 (k + n + m + l)) ∧ Own B w' p n c (marks k n) ∧ Own M w' q m d (marks (k + n) m) ∧ Own N w' a l b (marks (k + n + m) l) ∧ GrownIn B H w w' := by
  have hfr : Fr w (w.alloc (.cells #[.slice p n c, .slice q m d, .slice a l b, .int .i64 x, .int .i64 s, .int .i64 u, .int .i64 v] 31)) := (Fr.refl w).alloc _
  have H0 := Lib.hid (Blk.new w #[.slice p n c, .slice q m d, .slice a l b, .int .i64 x, .int .i64 s, .int .i64 u, .int .i64 v] 31)
  have c0 := H0.out.cell (j := 0) rfl
  have c1 := H0.out.cell (j := 1) rfl
  go_enter Try.func29, Try.ntmps29
  go_wp2_with fail
  refine (markTree_any B M N _ _ _ _ _ _ _ _ _ _ (hP.fr hfr) (hW.fr hfr) hp hq hBM hMN (by simp; omega) h0 (by omega) hn hm).mono ?_
  rintro e w1 ⟨rfl, o1, o2, g1⟩
  have b1 : Blk w1 w.heap.size #[.slice p n c, .slice q m d, .slice a l b, .int .i64 x, .int .i64 s, .int .i64 u, .int .i64 v] 31 := by
    have := H0.out; unfold Blk at this ⊢; rw [g1.block _ (by simp) (by omega)]; exact this
  have o3 := (hX.fr hfr).skipSS g1 ha (.inr (Nat.le_refl _))
  clear c0 c1
  have c0 := b1.cell (j := 2) rfl
  have z1 := g1.size
  rw [World.size_alloc] at z1
  go_wp2_with fail
  refine (markIntS_any N _ _ _ _ _ _ o3 (by omega) (by omega) (by omega)).mono ?_
  rintro e w2 ⟨rfl, o4, g2⟩
  have o5 := o1.skip g2 hp ha (.inl (by omega))
  have o6 := o2.skip g2 hq ha (.inl (by omega))
  go_wp2
  go_ret
  have G1 : GrownIn B H w w1 := by
    have g1' : GrownIn B H (w.alloc (.cells #[.slice p n c, .slice q m d, .slice a l b, .int .i64 x, .int .i64 s, .int .i64 u, .int .i64 v] 31)) w1 := ⟨g1.os, g1.tape, g1.output, g1.size, fun i hi hne => g1.block i hi (by omega)⟩
    have hf : GrownIn B H w (w.alloc (.cells #[.slice p n c, .slice q m d, .slice a l b, .int .i64 x, .int .i64 s, .int .i64 u, .int .i64 v] 31)) := ⟨hfr.os, hfr.tape, hfr.output, hfr.size, fun i hi _ => hfr.block i hi⟩
    exact hf.trans g1'
  exact ⟨rfl, o5, o6, o4, G1.trans (GrownIn.of g2 (fun k hk => by have := ha k hk; omega))⟩

theorem heldHouse_any (w : World) (p q a : Option Addr) (n c m d l b : Nat) (x s u v : Int) (k : Int) (hP : SL w p n c (marks k n)) (hW : SL w q m d (marks (k + n) m)) (hX : SL w a l b (marks (k + n + m) l)) (h0 : 0 ≤ k) (h1 : k ≤ 10000000) (hn : n ≤ 1048576) (hm : m ≤ 1048576) (hl : l ≤ 1048576) :
    Calls Try.prog 30 #[.agg #[.slice p n c, .slice q m d, .slice a l b, .int .i64 x, .int .i64 s, .int .i64 u, .int .i64 v], .int .i64 k] w fun e w' => e = .returned (.int .i64 (k + n + m + l)) ∧ Fr w w' := by
  have hfr : Fr w (w.alloc (.cells #[.slice p n c, .slice q m d, .slice a l b, .int .i64 x, .int .i64 s, .int .i64 u, .int .i64 v] 31)) := (Fr.refl w).alloc _
  go_enter Try.func30, Try.ntmps30
  go_wp2_with fail
  refine (heldTree_any _ _ _ _ _ _ _ _ (hP.fr hfr) (hW.fr hfr) h0 (by omega) hn hm).mono ?_
  rintro e w1 ⟨rfl, f1⟩
  have c0 := f1.newCell (j := 2) (v := .slice a l b) rfl
  go_wp2_with fail
  refine (heldIntS_any _ _ _ _ _ (hX.fr (hfr.trans f1)) (by omega) (by omega) (by omega)).mono ?_
  rintro e w2 ⟨rfl, rfl⟩
  go_wp2
  go_ret
  exact ⟨rfl, hfr.trans f1⟩

end Go.Proofs.Ytojipjjfndgbhaa
