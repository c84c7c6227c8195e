import Derived.Test.YtojipjjfndgbhaaZH07
import Derived.Test.YtojipjjfndgbhaaZH08
import Derived.Deep.RegionHeld3
import Derived.Deep.DeepCutAuto
/- Contracts of trees: means of pays. -/
set_option linter.unusedVariables false
namespace Go.Proofs.Ytojipjjfndgbhaa
open Go.ChangeShapes Go.WideShapes Go.ChangeAt Go.RowKit

set_option maxRecDepth 100000 in
theorem spread_any (w : World) (p q a : Option Addr) (n c m d l b : Nat) (P W V : List Int) (hP : SL w p n c P) (hW : SL w q m d W) (hV : SL w a l b V) (ht : treeB P W = true) (hl : l = (endsM P).length) (hv : ∀ i, -999 ≤ nth V i ∧ nth V i ≤ 999) :
    Calls Try.prog 119 #[.agg #[.slice p n c, .slice q m d], .slice a l b] w (RetS (spreadM P W V) w) := by
  have HP := Lib.hid hP.len
  have HW := Lib.hid hW.len
  have HL := Lib.hid hl
  have Hv := Lib.hid hv
  have Hw := Lib.hid (tree_wei ht)
  obtain ⟨t1, t2, t3, _⟩ := treeB_iff.1 ht
  rw [HP.out] at t1
  rw [HP.out, HW.out] at t2
  subst t2
  have Ht := Lib.hid t3
  clear t3 ht hl hv
  have hmk := fun w => run_make_row' 22 3 (.int .i64 0) 8 Try.underlying22 infoInt rfl .i64 .i64 m (by omega) (by omega) w
  have hfr : Fr w ((w.alloc (.cells #[.slice p m c, .slice q m d] 29)).alloc (.cells (madeCells #[.int .i64 0] m) 3)) := ((Fr.refl w).alloc _).alloc _
  have hmade := Own.made (B := w.heap.size + 1) (w.alloc (.cells #[.slice p m c, .slice q m d] 29)) m (by simp) (by unfold maxLen; omega)
  rw [World.size_alloc] at hmade
  have H0 := Lib.hid ((Blk.new w #[.slice p m c, .slice q m d] 29).alloc (.cells (madeCells #[.int .i64 0] m) 3))
  have c0 := H0.out.cell (j := 0) rfl
  have c1 := H0.out.cell (j := 1) rfl
  go_enter Try.func119, Try.ntmps119
  go_wp2_with fail
  clear c0 c1 hmk
  refine (ends_any _ _ _ _ _ _ _ _ (hP.fr hfr) Ht.out (by omega)).mono ?_
  rintro e w1 ⟨a2, n2, c2, rfl, o2, f2, m2⟩
  have Hn2 := Lib.hid o2.len
  have B0 := H0.out.fr f2
  have hm1 := hmade.fr f2
  have z2 := f2.size
  simp only [World.size_alloc] at z2 o2
  have hF1 := hfr.trans f2
  have hfb : Fr (w.alloc (.cells #[.slice p m c, .slice q m d] 29)) w1 := ((Fr.refl _).alloc _).trans f2
  have hln : l = n2 := by rw [← Hn2.out, HL.out]
  subst hln
  go_wp2
  go_loopw [15] (fun i wr => ∃ k : Nat, k ≤ l ∧ i = .int .i64 k ∧ Own (w.heap.size + 1) wr (some ⟨w.heap.size + 1, 0, none⟩) m m (spreadTo P W V k) ∧ SL wr a2 l c2 (endsM P) ∧ Fr (w.alloc (.cells #[.slice p m c, .slice q m d] 29)) wr) (fun i _ => l - (intOf i).toNat)
  case atStart => exact ⟨0, by omega, rfl, by rw [spreadTo, HP.out]; exact hm1, o2.sl, hfb⟩
  case round =>
    have hA2 : Hid (∀ k, blkOf a2 = some k → w.heap.size + 1 < k) := Lib.hid (fun k hk => by have := o2.blk k hk; omega)
    clear hmade hm1 o2 hF1 hfb B0 H0 f2
    obtain ⟨k, hk, rfl, ho, he, hf⟩ := hrel
    have hF : Fr w wr := ((Fr.refl w).alloc _).trans hf
    by_cases hlt : k < l
    · have hbox := hf.newCell (j := 1) (v := .slice q m d) rfl
      obtain ⟨y, hy, hyl, _⟩ := ends_nth (P := P) (i := k) (by rw [Hn2.out]; exact hlt)
      rw [HP.out] at hyl
      obtain ⟨b2, of2, rfl, hce⟩ := he.cells.resolve_left (by omega)
      replace hce := hce k hlt
      have HS : Hid (spreadTo P W V (k + 1) = (spreadTo P W V k).set y (nth V k * nth W y)) := Lib.hid (by rw [spreadTo, hy]; rfl)
      rw [hy] at hce
      clear hy
      obtain ⟨bv, ov, rfl, hcv⟩ := (hV.fr hF).cells.resolve_left (by omega)
      replace hcv := hcv k hlt
      obtain ⟨bw, ow, rfl, hcw⟩ := (hW.fr hF).cells.resolve_left (by omega)
      replace hcw := hcw y hyl
      obtain ⟨g, hg, hB, hlt2, hcc, hfro⟩ := ho.op (by omega)
      obtain rfl : w.heap.size + 1 = g := by simpa using hg
      replace hfro := hfro y
      have hcc := hcc y hyl
      have b1 := Hv.out k
      have b2' := Hw.out y
      have i1 : (0 : Int) ≤ (k : Int) := by omega
      have i2 : (k : Int) < (l : Int) := by omega
      have i3 : (0 : Int) ≤ (y : Int) := by omega
      have i4 : (y : Int) < (m : Int) := by omega
      have hmul : -19980 ≤ nth V k * nth W y ∧ nth V k * nth W y ≤ 19980 := by
        have := natAbs_mul_le (M := 999) (N := 20) (show ((nth V k).natAbs : Int) ≤ 999 by omega) (show ((nth W y).natAbs : Int) ≤ 20 by omega)
        omega
      go_wp2
      have e1 : IntKind.i64.wrap (nth V k * nth W y) = nth V k * nth W y := IntWalk.i64_in _ (by omega)
      go_region
      clear e1
      go_wp2
      go_roundw
      case rel =>
        refine ⟨k + 1, by omega, by go_num, ?_, ?_, ?_⟩
        · rw [HS.out]; exact (ho.drewN 1).set rfl hyl (by unfold I64; omega)
        · exact (he.drewN 1).setOther (by simp only [blkOf, Option.map_some]; intro e; have := hA2.out b2 rfl; simp at e; omega) _
        · exact (hf.drew' 1).setCell (by simp) _
      case measure => simp [intOf]; omega
    · obtain rfl : k = l := by omega
      have HM : Hid (spreadTo P W V k = spreadM P W V) := Lib.hid (by rw [spreadM, HL.out])
      rw [HM.out] at ho
      go_wp2
      go_ret
      exact ⟨_, _, _, rfl, ho.mono (by omega), hF, by omega⟩

theorem totalsM_len (P W V : List Int) : (totalsM P W V).length = P.length := by rw [totalsM, gathM, gathTo_len, spreadM, spreadTo_len]
def meanP (P W V : List Int) (x : Nat) : Int × Int := (lowA (nth (totalsM P W V) x) (nth (gathM P W) x), lowB (nth (totalsM P W V) x) (nth (gathM P W) x))
def meansTo (P W V : List Int) (k : Nat) : List (Int × Int) := (List.range k).map (meanP P W V)
def meansM (P W V : List Int) : List (Int × Int) := meansTo P W V P.length
theorem meansTo_succ (P W V : List Int) (k : Nat) : meansTo P W V (k + 1) = meansTo P W V k ++ [meanP P W V k] := by simp [meansTo, List.range_succ]

set_option maxRecDepth 100000 in
theorem means_any (w : World) (p q a : Option Addr) (n c m d l b : Nat) (P W V : List Int) (hP : SL w p n c P) (hW : SL w q m d W) (hV : SL w a l b V) (ht : treeB P W = true) (hl : l = (endsM P).length) (hv : ∀ i, -999 ≤ nth V i ∧ nth V i ≤ 999) :
    Calls Try.prog 81 #[.agg #[.slice p n c, .slice q m d], .slice a l b] w (RetP (meansM P W V) w) := by
  have HP := Lib.hid hP.len
  have HL := Lib.hid hl
  have Hv := Lib.hid hv
  have Ht := Lib.hid ht
  clear ht hl hv
  have hfr : Fr w (w.alloc (.cells #[.slice p n c, .slice q m d] 29)) := (Fr.refl w).alloc _
  have H0 := Lib.hid (Blk.new w #[.slice p n c, .slice q m d] 29)
  obtain ⟨t1, t2, t3, _⟩ := treeB_iff.1 Ht.out
  have Hp := Lib.hid t3
  have HA : Hid (absTo (spreadM P W V) n ≤ 1000000000000) := Lib.hid (by have := spread_abs (P := P) (tree_wei Ht.out) Hv.out t1.2; rw [HP.out] at this; omega)
  have HS : Hid ((spreadM P W V).length = n) := Lib.hid (by rw [spreadM, spreadTo_len, HP.out])
  rw [HP.out] at t1
  clear t2 t3
  go_enter Try.func81, Try.ntmps81
  go_upto_region 1 with fail
  generalize hw1 : w.alloc (.cells #[.slice p n c, .slice q m d] 29) = w1 at hfr H0 ⊢
  have z1 : w1.heap.size = w.heap.size + 1 := by rw [← hw1]; simp
  have Z1 := Lib.hid z1
  clear hw1 z1
  have hP1 := hP.fr hfr
  have hW1 := hW.fr hfr
  have hV1 := hV.fr hfr
  have c0 := H0.out.cell (j := 0) rfl
  have c1 := H0.out.cell (j := 1) rfl
  go_cut [5, 6, 7] (fun s5 s6 s7 wx => ∃ (g : Nat) (a3 a4 : Option Addr) (k3 k4 : Nat), s5 = .slice (some ⟨g, 0, none⟩) 0 0 ∧ s6 = .slice a3 n k3 ∧ s7 = .slice a4 n k4 ∧
    OwnP w1.heap.size wx (some ⟨g, 0, none⟩) 0 0 [] ∧ Own w1.heap.size wx a3 n k3 (totalsM P W V) ∧ Own w1.heap.size wx a4 n k4 (gathM P W) ∧ Apart (some ⟨g, 0, none⟩) a3 ∧ Apart (some ⟨g, 0, none⟩) a4 ∧ Fr w1 wx)
  case first =>
    go_region_held3 (fun w' => w'.cell? ⟨w.heap.size, 0, none⟩ = some (.slice p n c) ∧ w'.cell? ⟨w.heap.size, 1, none⟩ = some (.slice q m d))
      (first
        | go_keep
        | (exact ⟨(H0.out.fr F4).cell rfl, (H0.out.fr F4).cell rfl⟩)
        | (exact ⟨(H0.out.fr F3).cell rfl, (H0.out.fr F3).cell rfl⟩)
        | (exact ⟨(H0.out.fr F2).cell rfl, (H0.out.fr F2).cell rfl⟩))
      (first
        | (go_at_call 119; refine (spread_any _ _ _ _ _ _ _ _ _ _ _ _ _ (hP1.fr (by first | exact (Fr.refl w1).drew' 1 | exact ((Fr.refl w1).alloc _).drew' 1)) (hW1.fr (by first | exact (Fr.refl w1).drew' 1 | exact ((Fr.refl w1).alloc _).drew' 1)) (hV1.fr (by first | exact (Fr.refl w1).drew' 1 | exact ((Fr.refl w1).alloc _).drew' 1)) Ht.out HL.out Hv.out).mono ?_; rintro e w2 ⟨a2, n2, c2, rfl, o2, f2, _⟩; have F2 : Fr w1 w2 := (by first | exact ((Fr.refl w1).drew' 1).trans f2 | exact (((Fr.refl w1).alloc _).drew' 1).trans f2); have y2 := F2.size; have x2 : ((w1.alloc (.cells #[] 46)).heap.size ≤ w2.heap.size ∨ True) := (by first | exact .inl f2.size | exact .inr trivial))
        | (go_at_call 118; refine (gathered_any _ _ _ _ _ _ _ _ _ _ _ _ (hP1.fr (by first | exact F2 | exact F2.alloc _)) (by first | exact o2.sl | exact (o2.fr ((Fr.refl _).alloc _)).sl) Hp.out t1.2 t1.1 (by rw [← o2.len]; exact HS.out) HA.out).mono ?_; rintro e w3 ⟨a3, n3, c3, rfl, o3, f3, _⟩; have F3 : Fr w1 w3 := (by first | exact F2.trans f3 | exact (F2.alloc _).trans f3); have y3 := o3.within; have x3 := f3.size; have o3' : Own w1.heap.size w3 a3 n3 c3 (totalsM P W V) := o3.mono (by first | exact y2 | exact Nat.le_trans y2 (by simp)); try simp only [World.size_alloc] at y3 x3)
        | (go_at_call 91; refine (sums_any _ _ _ _ _ _ _ _ _ (hP1.fr (by first | exact F3 | exact F3.alloc _)) (hW1.fr (by first | exact F3 | exact F3.alloc _)) Ht.out).mono ?_; rintro e w4 ⟨a4, n4, c4, rfl, o4, f4, _⟩; have F4 : Fr w1 w4 := (by first | exact F3.trans f4 | exact (F3.alloc _).trans f4); have y4 := o4.within; have x4 := f4.size; have o4' : Own w1.heap.size w4 a4 n4 c4 (gathM P W) := o4.mono (by first | exact F3.size | exact Nat.le_trans F3.size (by simp)); try simp only [World.size_alloc] at y4 x4))
    all_goals
      have N3 : n3 = n := by rw [← o3.len]; exact (totalsM_len P W V).trans HP.out
      have N4 : n4 = n := by rw [← o4.len, gathM, gathTo_len, (treeB_iff.1 Ht.out).2.1, HP.out]
      subst N3
      subst N4
      go_wp2_with fail
      go_meet
      have o34 := (show Own w1.heap.size w4 a3 n4 c3 (totalsM P W V) from by first | exact o3'.fr f4 | exact (o3'.fr ((Fr.refl _).alloc _)).fr f4)
    · exact ⟨_, a3, a4, c3, c4, rfl, rfl, rfl, (((((OwnP.made0 w1 (Nat.le_refl _)).fr (Fr.drewN _ 1)).fr f2).fr f3).fr f4), o34, o4', fun k h1 h2 => by simp [blkOf] at h1; have := y3 k h2; have := f2.size; simp at this; omega, fun k h1 h2 => by simp [blkOf] at h1; have := y4 k h2; have := f2.size; simp at this; omega, F4⟩
    · exact ⟨_, a3, a4, c3, c4, rfl, rfl, rfl, (((OwnP.made0 w2 y2).fr f3).fr f4), o34, o4', fun k h1 h2 => by simp [blkOf] at h1; have := y3 k h2; omega, fun k h1 h2 => by simp [blkOf] at h1; have := y4 k h2; omega, F4⟩
    · exact ⟨_, a3, a4, c3, c4, rfl, rfl, rfl, ((OwnP.made0 w3 F3.size).fr f4), o34, o4', fun k h1 h2 => by simp [blkOf] at h1; have := y3 k h2; omega, fun k h1 h2 => by simp [blkOf] at h1; have := y4 k h2; omega, F4⟩
    · exact ⟨_, a3, a4, c3, c4, rfl, rfl, rfl, OwnP.made0 w4 F4.size, o34.fr ((Fr.refl _).alloc _), o4'.fr ((Fr.refl _).alloc _), fun k h1 h2 => by simp [blkOf] at h1; have := y3 k h2; omega, fun k h1 h2 => by simp [blkOf] at h1; have := y4 k h2; omega, F4.alloc _⟩
  case rest =>
    obtain ⟨g, a3, a4, k3, k4, rfl, rfl, rfl, oP, oA, oS, ap3, ap4, hF⟩ := hcut
    have Hs := Lib.hid (sums_pos Ht.out)
    have Hl := Lib.hid (sums_le Ht.out)
    have Htb := Lib.hid (fun x => totals_bd (P := P) (W := W) (V := V) Hp.out (tree_wei Ht.out) Hv.out (by rw [HP.out]; exact t1.2) (by rw [HP.out]; exact t1.1) x)
    clear c0 c1 hP1 hW1 hV1
    go_wp2
    go_loopw [5, 22] (fun v i wr => ∃ (k cc : Nat) (ap : Option Addr), k ≤ n ∧ i = .int .i64 k ∧ v = .slice ap k cc ∧ OwnP w1.heap.size wr ap k cc (meansTo P W V k) ∧ Own w1.heap.size wr a3 n k3 (totalsM P W V) ∧ Own w1.heap.size wr a4 n k4 (gathM P W) ∧ Apart ap a3 ∧ Apart ap a4 ∧ Fr w1 wr) (fun _ i _ => n - (intOf i).toNat)
    case atStart => exact ⟨0, 0, _, by omega, rfl, rfl, oP, oA, oS, ap3, ap4, hF⟩
    case round =>
      clear oP oA oS ap3 ap4 hF
      obtain ⟨k, cc, ap, hk, rfl, rfl, oP, oA, oS, ap3, ap4, hF⟩ := hrel
      by_cases hlt : k < n
      · obtain ⟨g3, rfl, hB3, hl3, hc3, _⟩ := oA.op (by omega)
        obtain ⟨g4, rfl, hB4, hl4, hc4, _⟩ := oS.op (by omega)
        replace hc3 := hc3 k hlt
        replace hc4 := hc4 k hlt
        have b1 := Htb.out k
        have b2 := Hs.out k (by rw [HP.out]; exact hlt)
        have b3 := Hl.out k
        have HM := Lib.hid (meansTo_succ P W V k)
        have hsz := hF.size
        go_wp2_with fail
        refine (lowest_any _ _ _ (by omega) (by omega)).mono ?_
        rintro e w2 ⟨rfl, f2⟩
        have oP2 := oP.fr f2
        have oA2 := oA.fr f2
        have oS2 := oS.fr f2
        have hF2 := hF.trans f2
        have hsz2 := hF2.size
        have fa : Fr w2 ((w2.alloc (.cells #[.int .i64 (lowA (nth (totalsM P W V) k) (nth (gathM P W) k)), .int .i64 (lowB (nth (totalsM P W V) k) (nth (gathM P W) k))] 46)).alloc (.cells #[.int .i64 (lowA (nth (totalsM P W V) k) (nth (gathM P W) k)), .int .i64 (lowB (nth (totalsM P W V) k) (nth (gathM P W) k))] 46)) := ((Fr.refl _).alloc _).alloc _
        have Bn := Blk.new (w2.alloc (.cells #[.int .i64 (lowA (nth (totalsM P W V) k) (nth (gathM P W) k)), .int .i64 (lowB (nth (totalsM P W V) k) (nth (gathM P W) k))] 46)) #[.int .i64 (lowA (nth (totalsM P W V) k) (nth (gathM P W) k)), .int .i64 (lowB (nth (totalsM P W V) k) (nth (gathM P W) k))] 46
        rw [World.size_alloc] at Bn
        have HBn := Lib.hid Bn
        clear Bn
        go_wp2_with (at_builtin; refine ap_pair _ rfl _ _ rfl w1.heap.size ap k cc (meansTo P W V k) _ _ (w2.heap.size + 1) rfl rfl (oP2.fr fa) (by simp; omega) (HBn.out.cell (j := 0) rfl) (HBn.out.cell (j := 1) rfl) (by omega) (w2.heap.size + 1 + 1) (by simp) ?_)
        intro g' c' w' q1 q2 q3
        have oA3 := (oA2.fr fa).grown q2 (by
          cases hx : blkOf (some (⟨g3, 0, none⟩ : Addr)) with
          | none => exact .inl rfl
          | some z => exact .inr fun e => ap3 z e.symm hx)
        have oS3 := (oS2.fr fa).grown q2 (by
          cases hx : blkOf (some (⟨g4, 0, none⟩ : Addr)) with
          | none => exact .inl rfl
          | some z => exact .inr fun e => ap4 z e.symm hx)
        have n3 : Apart (some ⟨g', 0, none⟩) (some ⟨g3, 0, none⟩) := by
          intro z h1 h2
          simp only [blkOf, Option.map_some, Option.some.injEq] at h1
          subst h1
          rcases q3 with h | h
          · exact ap3 _ h h2
          · have := (oA2.blk _ h2).2; omega
        have n4 : Apart (some ⟨g', 0, none⟩) (some ⟨g4, 0, none⟩) := by
          intro z h1 h2
          simp only [blkOf, Option.map_some, Option.some.injEq] at h1
          subst h1
          rcases q3 with h | h
          · exact ap4 _ h h2
          · have := (oS2.blk _ h2).2; omega
        have hF3 := (hF2.trans fa).grown q2 (fun z hz => (oP2.blk z hz).1)
        go_wp2
        go_roundw
        case rel => exact ⟨k + 1, c', _, by omega, by go_num, rfl, by rw [HM.out]; exact q1, oA3, oS3, n3, n4, hF3⟩
        case measure => simp [intOf]; omega
      · obtain rfl : k = n := by omega
        have HM : Hid (meansTo P W V k = meansM P W V) := Lib.hid (by rw [meansM, HP.out])
        rw [HM.out] at oP
        go_wp2
        go_ret
        have z1 := Z1.out
        exact ⟨_, _, _, rfl, oP.mono (by omega), hfr.trans hF, by omega⟩

end Go.Proofs.Ytojipjjfndgbhaa
