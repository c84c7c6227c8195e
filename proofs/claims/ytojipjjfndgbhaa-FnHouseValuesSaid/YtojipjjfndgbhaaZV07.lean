import Derived.Test.YtojipjjfndgbhaaZV06
import Derived.Deep.CutBlock
/- Contracts of spec's PriceMean. -/
set_option linter.unusedVariables false
namespace Go.Proofs.Ytojipjjfndgbhaa
open Go.ChangeShapes Go.WideShapes Go.ChangeAt Go.RowKit

theorem l2Frac_any (w : World) (a b : Int) (ha : -1000000000 ≤ a ∧ a ≤ 1000000000) (hb : 1 ≤ b ∧ b ≤ 1000000) (hg : Int.gcd a b = 1) :
    Calls Try.prog 116 #[.agg #[.int .i64 a, .int .i64 b]] w fun e w' => e = .returned (.bool true) ∧ Fr w w' := by
  have h1 : inB a (-1000000000) 1000000000 = true := inB_iff.2 ha
  have h2 : inB b 1 1000000 = true := inB_iff.2 hb
  have hG : Int.gcd (a.natAbs : Int) b = 1 := by rw [← hg]; simp [Int.gcd]
  have hfr : Fr w (w.alloc (.cells #[.int .i64 a, .int .i64 b] 46)) := (Fr.refl w).alloc _
  have hb0 := Blk.new w #[.int .i64 a, .int .i64 b] 46
  have H0 := Lib.hid hb0
  clear hb0 hg
  have c0 := H0.out.cell (j := 0) rfl; have c1 := H0.out.cell (j := 1) rfl
  go_enter Try.func116, Try.ntmps116
  go_wp2
  go_region_held3 (fun w' => w'.cell? ⟨w.heap.size, 0, none⟩ = some (.int .i64 a) ∧ w'.cell? ⟨w.heap.size, 1, none⟩ = some (.int .i64 b))
    (first
      | go_keep
      | (exact ⟨(H0.out.fr f3).cell rfl, (H0.out.fr f3).cell rfl⟩))
    (first
      | (go_at_call 88; refine (l1In_any _ _ _ _).mono ?_; rintro e w' ⟨rfl, rfl⟩; try simp only [h1, h2])
      | (go_at_call 140; refine (l2Abs_any _ _ (by omega)).mono ?_; rintro e w' ⟨rfl, rfl⟩)
      | (go_at_call 139; refine (l2Gcd_any _ _ _ (by omega) (by omega)).mono ?_; rintro e w3 ⟨rfl, f3'⟩; rw [hG]; have f3 : Fr (w.alloc (.cells #[.int .i64 a, .int .i64 b] 46)) w3 := (by first | exact ((Fr.refl _).drew' 1).trans f3' | exact (Fr.drewN _ 1).trans f3')))
  all_goals
    go_wp2
    go_ret
    exact ⟨rfl, hfr.trans f3⟩

theorem low_frac {p q : Int} (hp : -1000000000 ≤ p ∧ p ≤ 1000000000) (hq : 0 < q ∧ q ≤ 1000000) : (-1000000000 ≤ lowA p q ∧ lowA p q ≤ 1000000000) ∧ (1 ≤ lowB p q ∧ lowB p q ≤ 1000000) ∧ Int.gcd (lowA p q) (lowB p q) = 1 := by
  have hk := lowOk_fit hp hq
  obtain ⟨e1, e2⟩ := lowP_eq hk
  have hg := gcd_pos (a := p) hq.1
  rw [e1, e2]
  simp only [lowOk, Bool.and_eq_true, inB_iff, decide_eq_true_eq] at hk
  have d1 : ((Int.gcd p q : Nat) : Int) ∣ p := Int.gcd_dvd_left p q
  have d2 : ((Int.gcd p q : Nat) : Int) ∣ q := Int.gcd_dvd_right p q
  have t1 : lowP p q = p / (Int.gcd p q : Nat) := by rw [lowP, Int.tdiv_eq_ediv_of_dvd d1]
  have t2 : lowQ p q = q / (Int.gcd p q : Nat) := by rw [lowQ, Int.tdiv_eq_ediv_of_dvd d2]
  have hpos : 1 ≤ lowQ p q := by
    obtain ⟨k, hk2⟩ := d2
    have h3 : lowQ p q = k := by rw [t2]; rw [Int.ediv_eq_of_eq_mul_right (by omega) hk2]
    rw [h3]
    rcases Int.lt_or_le 0 k with h | h
    · omega
    · have := Int.mul_nonpos_of_nonneg_of_nonpos (show (0:Int) ≤ (Int.gcd p q : Nat) by omega) h
      omega
  refine ⟨hk.1, ⟨hpos, hk.2⟩, ?_⟩
  rw [t1, t2]
  exact Int.gcd_ediv_gcd_ediv_gcd_of_ne_zero_right (by omega)

theorem mean_frac {P W V : List Int} (ht : treeB P W = true) (hv : ∀ i, -999 ≤ nth V i ∧ nth V i ≤ 999) {x : Nat} (hx : x < P.length) : (-1000000000 ≤ (meanP P W V x).1 ∧ (meanP P W V x).1 ≤ 1000000000) ∧ (1 ≤ (meanP P W V x).2 ∧ (meanP P W V x).2 ≤ 1000000) ∧ Int.gcd (meanP P W V x).1 (meanP P W V x).2 = 1 := by
  have h1 := sums_pos ht x hx
  have h2 := sums_le ht x
  obtain ⟨g1, _, g3, _⟩ := treeB_iff.1 ht
  have h3 := totals_bd (P := P) (W := W) (V := V) g3 (tree_wei ht) hv g1.2 g1.1 x
  exact low_frac (by omega) (by omega)

theorem l2Kept_any (w : World) (a b : Int) (ha : -1000000000 ≤ a ∧ a ≤ 1000000000) (hb : 1 ≤ b ∧ b ≤ 1000000) (hg : Int.gcd a b = 1) :
    Calls Try.prog 78 #[.agg #[.int .i64 a, .int .i64 b]] w fun e w' => e = .returned (.tuple #[.agg #[.int .i64 a, .int .i64 b], .bool true]) ∧ Fr w w' := by
  have hfr : Fr w ((w.alloc (.cells #[.int .i64 a, .int .i64 b] 46)).alloc (.cells #[.int .i64 0, .int .i64 0] 46)) := ((Fr.refl w).alloc _).alloc _
  have hb0 := (Blk.new w #[.int .i64 a, .int .i64 b] 46).alloc (.cells #[.int .i64 0, .int .i64 0] 46)
  have hb1 := Blk.new (w.alloc (.cells #[.int .i64 a, .int .i64 b] 46)) #[.int .i64 0, .int .i64 0] 46
  rw [World.size_alloc] at hb1
  have H0 := Lib.hid hb0; have H1 := Lib.hid hb1
  clear hb0 hb1
  have c0 := H0.out.cell (j := 0) rfl; have c1 := H0.out.cell (j := 1) rfl
  go_enter Try.func78, Try.ntmps78
  go_wp2_with fail
  clear c0 c1
  refine (l2Frac_any _ _ _ ha hb hg).mono ?_
  rintro e w1 ⟨rfl, f1⟩
  have c0 := (H0.out.fr f1).cell (j := 0) rfl; have c1 := (H0.out.fr f1).cell (j := 1) rfl
  have j0 := (H1.out.fr f1).cell (j := 0) rfl; have j1 := (H1.out.fr f1).cell (j := 1) rfl
  have i0 := (H1.out.fr f1).free 0; have i1 := (H1.out.fr f1).free 1
  go_wp2
  have E := ((H1.out.fr f1).set 0 (.int .i64 a)).set 1 (.int .i64 b)
  simp only [List.setIfInBounds_toArray, List.set_cons_zero, List.set_cons_succ] at E
  refine bodyPost_ret (results_FB Try.results78 _ _ (w.heap.size + 1) (.int .i64 a) (.int .i64 b) _ rfl rfl (E.cell rfl) (E.cell rfl)) rfl ?_
  refine ⟨rfl, ?_⟩
  iterate 2 refine Fr.setCell ?_ (by dsimp only; omega) _
  exact hfr.trans f1

set_option maxRecDepth 100000 in
set_option maxHeartbeats 1000000 in
theorem l12Mean_any (w : World) (p q a : Option Addr) (n c m d l b : Nat) (P W X : List Int) (x s u v : Int) (hP : SL w p n c P) (hW : SL w q m d W) (hX : SL w a l b X) (h : houseB P W X x s u v = true) :
    Calls Try.prog 79 #[.agg #[.slice p n c, .slice q m d, .slice a l b, .int .i64 x, .int .i64 s, .int .i64 u, .int .i64 v]] w fun e w' => e = .returned (.agg #[.int .i64 (meanP P W (pvM P X) x.toNat).1, .int .i64 (meanP P W (pvM P X) x.toNat).2]) ∧ Fr w w' := by
  have HP := Lib.hid hP.len
  have HX := Lib.hid hX.len
  have hfr : Fr w ((w.alloc (.cells #[.slice p n c, .slice q m d, .slice a l b, .int .i64 x, .int .i64 s, .int .i64 u, .int .i64 v] 31)).alloc (.cells #[.int .i64 0, .int .i64 0] 46)) := ((Fr.refl w).alloc _).alloc _
  have hb0 := (Blk.new w #[.slice p n c, .slice q m d, .slice a l b, .int .i64 x, .int .i64 s, .int .i64 u, .int .i64 v] 31).alloc (.cells #[.int .i64 0, .int .i64 0] 46)
  have hb1 := Blk.new (w.alloc (.cells #[.slice p n c, .slice q m d, .slice a l b, .int .i64 x, .int .i64 s, .int .i64 u, .int .i64 v] 31)) #[.int .i64 0, .int .i64 0] 46
  rw [World.size_alloc] at hb1
  have H0 := Lib.hid hb0; have H1 := Lib.hid hb1
  clear hb0 hb1
  obtain ⟨t1, t2, t3, t4⟩ := houseB_parts h
  have Ht := Lib.hid t1
  have Hv := Lib.hid (nth_bd (procB_iff.1 t2).2 (by omega) (by omega))
  obtain ⟨g1, _, g3, _⟩ := treeB_iff.1 t1
  have Hp := Lib.hid g3
  have hln : l = n := by rw [← HX.out, ← HP.out]; exact (procB_iff.1 t2).1
  subst hln
  rw [HP.out] at g1 t4
  obtain ⟨y, rfl⟩ := Int.eq_ofNat_of_zero_le t3
  clear t1 t2 g3 t3 h
  have c0 := H0.out.cell (j := 0) rfl; have c1 := H0.out.cell (j := 1) rfl
  go_enter Try.func79, Try.ntmps79
  go_wp2_with fail
  clear c0 c1
  refine (l2Ends_any _ _ _ _ _ _ _ _ (hP.fr hfr) Hp.out (by omega)).mono ?_
  rintro e w2 ⟨a2, n2, c2, rfl, o2, f2, m2⟩
  have Hn2 := Lib.hid o2.len
  have z2 := f2.size
  simp only [World.size_alloc] at z2 o2
  have hm0 := Own.made0 (B := w2.heap.size) w2 (Nat.le_refl _)
  have hfa : Fr w2 (w2.alloc (.cells #[] 3)) := (Fr.refl _).alloc _
  have hF1 : Fr w w2 := hfr.trans f2
  have G0 := Lib.hid (H0.out.fr f2); have G1 := Lib.hid (H1.out.fr f2)
  have x2 := o2.within
  go_wp2
  go_loopw [4, 5] (fun vv i wr => ∃ (k cc : Nat) (ap : Option Addr), k ≤ n2 ∧ i = .int .i64 k ∧ vv = .slice ap k cc ∧ Own w2.heap.size wr ap k cc (pvTo P X k) ∧ SL wr a2 n2 c2 (endsM P) ∧ Apart ap a2 ∧ Fr w2 wr) (fun _ i _ => n2 - (intOf i).toNat)
  case atStart => exact ⟨0, 0, _, by omega, rfl, rfl, by simpa [pvTo] using hm0, (o2.fr hfa).sl, fun k h1 h2 => by simp [blkOf] at h1; have := x2 k h2; omega, hfa⟩
  case round =>
    have B2 : Hid (∀ k, blkOf a2 = some k → k < w2.heap.size) := Lib.hid (fun k hk => (x2 k hk).2)
    clear hm0 o2 f2 hfa
    obtain ⟨k, cc, ap, hk, rfl, rfl, oP, he, apE, hF⟩ := hrel
    have hFw := hF1.trans hF
    by_cases hlt : k < n2
    · obtain ⟨z, hz, hzl, _⟩ := ends_nth (P := P) (i := k) (by rw [Hn2.out]; exact hlt)
      rw [HP.out] at hzl
      obtain ⟨b2, of2, rfl, hce⟩ := he.cells.resolve_left (by omega)
      replace hce := hce k hlt
      have HS : Hid (pvTo P X (k + 1) = pvTo P X k ++ [nth X z]) := Lib.hid (by rw [pvTo_succ, hz]; rfl)
      rw [hz] at hce
      clear hz
      obtain ⟨bx, ox, rfl, hcx⟩ := (hX.fr hFw).cells.resolve_left (by omega)
      replace hcx := hcx z hzl
      have k2 := (G0.out.fr hF).cell (j := 2) rfl
      have b1 := Hv.out z
      have hsz := hF.size
      obtain ⟨bx', ox', hbx, hcx0⟩ := hX.cells.resolve_left (by omega)
      obtain ⟨rfl, rfl⟩ : bx = bx' ∧ ox = ox' := by simpa using hbx
      have lx := World.block_lt_of_cell? w _ (hcx0 z hzl)
      have le := World.block_lt_of_cell? wr _ hce
      have lw := World.block_lt_of_cell? wr _ k2
      have lx' := World.block_lt_of_cell? wr _ hcx
      clear hcx0 hbx
      have hob := oP.blk
      have e1 : blkOf ap ≠ some w.heap.size := fun e => by have := hob _ e; omega
      have e2 : blkOf ap ≠ some b2 := fun e => apE b2 e rfl
      have e3 : blkOf ap ≠ some bx := fun e => by have := hob _ e; simp only at lx; omega
      go_wp2
      go_region_held3 (fun w' => w'.cell? ⟨w.heap.size, 2, none⟩ = some (.slice (some ⟨bx, ox, none⟩) l b) ∧ w'.cell? ⟨b2, of2 + k, none⟩ = some (.int .i64 z) ∧ w'.cell? ⟨bx, ox + z, none⟩ = some (.int .i64 (nth X z)))
        (first
          | go_keep
          | (go_split_ands
             refine ⟨?_, ?_, ?_⟩
             · (rw [q2'.cell_far _ (by simp; omega) (Ne.symm e1)]; assumption)
             · (rw [q2'.cell_far _ (by simp; omega) (Ne.symm e2)]; assumption)
             · (rw [q2'.cell_far _ (by simp; omega) (Ne.symm e3)]; assumption)))
        ((refine step_ap_int _ rfl _ _ rfl w2.heap.size ap k cc _ (nth X z) wr.heap.size (by rfl) (by rfl) (oP.fr (((Fr.refl _).alloc _).drew' 1)) (by simp; omega) (cell_of_row _ wr.heap.size 0 _ 3 (0, 0) (heap_alloc_new wr _)) (by unfold I64; omega) (by omega) (wr.heap.size + 1) (by simp) ?_; intro g' c' w' q1 q2' q3))
      have q2 : wr.grownBy w' (blkOf ap) := grownBy_trans (Fr.grownBy (((Fr.refl wr).alloc _).drew' 1) _) q2'
      have he2 := he.grown q2 (by
        cases hx : blkOf (some (⟨b2, of2, none⟩ : Addr)) with
        | none => exact .inl rfl
        | some zz => exact .inr fun e => apE zz e.symm hx)
      have ap2 : Apart (some ⟨g', 0, none⟩) (some ⟨b2, of2, none⟩) := by
        intro zz h1 h2
        simp only [blkOf, Option.map_some, Option.some.injEq] at h1
        subst h1
        rcases q3 with h | h
        · exact apE _ h h2
        · have := World.block_lt_of_cell? wr _ hce
          simp only [blkOf, Option.map_some, Option.some.injEq] at h2
          try simp at h
          simp only at this; omega
      have hF3 := hF.grown q2 (fun zz hzz => (oP.blk zz hzz).1)
      go_wp2
      go_roundw
      case rel => exact ⟨k + 1, c', _, by omega, by go_num, rfl, by rw [HS.out]; exact q1, he2, ap2, hF3⟩
      case measure => simp [intOf]; omega
    · obtain rfl : k = n2 := by omega
      have HM : Hid (pvTo P X k = pvM P X) := Lib.hid (by rw [pvM, Hn2.out])
      rw [HM.out] at oP
      have J0 := Lib.hid (G0.out.fr hF); have J1 := Lib.hid (G1.out.fr hF)
      have hP1 := hP.fr hFw
      have hW1 := hW.fr hFw
      have hvv : Hid (∀ i, -999 ≤ nth (pvM P X) i ∧ nth (pvM P X) i ≤ 999) := Lib.hid (fun i => pv_bd Hv.out _ i)
      have c0 := J0.out.cell (j := 0) rfl; have c1 := J0.out.cell (j := 1) rfl; have c2' := J0.out.cell (j := 3) rfl
      have j0 := J1.out.cell (j := 0) rfl; have j1 := J1.out.cell (j := 1) rfl
      have fz0 := J1.out.free 0; have fz1 := J1.out.free 1
      have d0 := (J0.out.fr (Fr.drewN wr 1)).cell (j := 0) rfl; have d1 := (J0.out.fr (Fr.drewN wr 1)).cell (j := 1) rfl; have d2 := (J0.out.fr (Fr.drewN wr 1)).cell (j := 3) rfl
      go_wp2
      go_region_with
        ((go_at_call 85; refine (l2Means_any _ _ _ _ _ _ _ _ _ _ _ _ _ (hP1.fr (by first | exact (Fr.refl wr).drew' 1 | exact Fr.drewN wr 1)) (hW1.fr (by first | exact (Fr.refl wr).drew' 1 | exact Fr.drewN wr 1)) (oP.sl.fr (by first | exact (Fr.refl wr).drew' 1 | exact Fr.drewN wr 1)) Ht.out Hn2.out.symm hvv.out).mono ?_; rintro e w3 ⟨a3, n3, c3, rfl, o3, f3', _⟩; have f3 : Fr wr w3 := (by first | exact ((Fr.refl wr).drew' 1).trans f3' | exact (Fr.drewN wr 1).trans f3'); have N3 : n3 = l := (by rw [← o3.len, meansM_len, HP.out]); subst N3; obtain ⟨g3, rfl, hg1, hg2, hcap, hc3⟩ := o3.op (by omega); obtain ⟨hy0, hy1⟩ := hc3 y (by omega); rw [meansM_nth (by rw [HP.out]; omega), Nat.mul_comm 2 y] at hy0 hy1; have ha3 := f3.size; have k2 := (J0.out.fr f3).cell (j := 3) rfl; have p0 := (J1.out.fr f3).cell (j := 0) rfl; have p1 := (J1.out.fr f3).cell (j := 1) rfl; have q0 := (J1.out.fr f3).free 0; have q1 := (J1.out.fr f3).free 1))
      all_goals
        have E := ((J1.out.fr f3).set 0 (.int .i64 (meanP P W (pvM P X) y).1)).set 1 (.int .i64 (meanP P W (pvM P X) y).2)
        simp only [List.setIfInBounds_toArray, List.set_cons_zero, List.set_cons_succ] at E
        go_wp2
        refine bodyPost_ret (results_F Try.results79 _ _ (w.heap.size + 1) (.int .i64 (meanP P W (pvM P X) y).1) (.int .i64 (meanP P W (pvM P X) y).2) rfl (E.cell rfl) (E.cell rfl)) rfl ?_
        refine ⟨rfl, ?_⟩
        iterate 2 refine Fr.setCell ?_ (by dsimp only; omega) _
        exact hFw.trans f3

set_option maxRecDepth 100000 in
set_option maxHeartbeats 1000000 in
theorem spec_PriceMean_any (w : World) (p q a : Option Addr) (n c m d l b : Nat) (P W X : List Int) (x s u v : Int) (hP : SL w p n c P) (hW : SL w q m d W) (hX : SL w a l b X) :
    Calls Try.prog 31 #[.agg #[.slice p n c, .slice q m d, .slice a l b, .int .i64 x, .int .i64 s, .int .i64 u, .int .i64 v]] w fun e w' => e = .returned (.tuple #[.agg #[.int .i64 (pmV P W X x s u v).1, .int .i64 (pmV P W X x s u v).2], .bool (houseB P W X x s u v)]) ∧ Fr w w' := by
  have hfr : Fr w ((w.alloc (.cells #[.slice p n c, .slice q m d, .slice a l b, .int .i64 x, .int .i64 s, .int .i64 u, .int .i64 v] 31)).alloc (.cells #[.int .i64 0, .int .i64 0] 46)) := ((Fr.refl w).alloc _).alloc _
  have hb0 := (Blk.new w #[.slice p n c, .slice q m d, .slice a l b, .int .i64 x, .int .i64 s, .int .i64 u, .int .i64 v] 31).alloc (.cells #[.int .i64 0, .int .i64 0] 46)
  have hb1 := Blk.new (w.alloc (.cells #[.slice p n c, .slice q m d, .slice a l b, .int .i64 x, .int .i64 s, .int .i64 u, .int .i64 v] 31)) #[.int .i64 0, .int .i64 0] 46
  rw [World.size_alloc] at hb1
  have H0 := Lib.hid hb0; have H1 := Lib.hid hb1
  clear hb0 hb1
  have c0 := H0.out.cell (j := 0) rfl; have c1 := H0.out.cell (j := 1) rfl; have c2 := H0.out.cell (j := 2) rfl; have c3 := H0.out.cell (j := 3) rfl; have c4 := H0.out.cell (j := 4) rfl; have c5 := H0.out.cell (j := 5) rfl; have c6 := H0.out.cell (j := 6) rfl
  go_enter Try.func31, Try.ntmps31
  go_wp2_with fail
  clear c0 c1 c2 c3 c4 c5 c6
  refine (l12Good_any _ _ _ _ _ _ _ _ _ _ _ _ _ (hP.fr hfr) (hW.fr hfr) (hX.fr hfr) _ _ _ _).mono ?_
  rintro e w1 ⟨rfl, f1⟩
  have hF1 := hfr.trans f1
  have G0 := Lib.hid (H0.out.fr f1); have G1 := Lib.hid (H1.out.fr f1)
  cases h : houseB P W X x s u v
  · have HB := Lib.hid h
    have HH : Hid (pmV P W X x s u v = (0, 0)) := Lib.hid (by rw [pmV, h]; rfl)
    have j0 := G1.out.cell (j := 0) rfl; have j1 := G1.out.cell (j := 1) rfl
    have i0 := G1.out.free 0; have i1 := G1.out.free 1
    go_wp2
    have E := (G1.out.set 0 (.int .i64 0)).set 1 (.int .i64 0)
    refine bodyPost_ret (results_FB Try.results31 _ _ (w.heap.size + 1) (.int .i64 0) (.int .i64 0) _ rfl rfl (E.cell rfl) (E.cell rfl)) rfl ?_
    refine ⟨by rw [HH.out, HB.out]; rfl, ?_⟩
    iterate 2 refine Fr.setCell ?_ (by dsimp only; omega) _
    exact hF1
  · have HB := Lib.hid h
    have HH : Hid (pmV P W X x s u v = meanP P W (pvM P X) x.toNat) := Lib.hid (by rw [pmV, h]; rfl)
    obtain ⟨t1, t2, t3, t4⟩ := houseB_parts h
    obtain ⟨m1, m2, m3⟩ := mean_frac (V := pvM P X) t1 (fun i => pv_bd (nth_bd (procB_iff.1 t2).2 (by omega) (by omega)) _ i) (x := x.toNat) (by omega)
    have M := Lib.hid (And.intro m1 (And.intro m2 m3))
    clear m1 m2 m3 t1 t2 t3 t4
    have c0 := G0.out.cell (j := 0) rfl; have c1 := G0.out.cell (j := 1) rfl; have c2 := G0.out.cell (j := 2) rfl; have c3 := G0.out.cell (j := 3) rfl; have c4 := G0.out.cell (j := 4) rfl; have c5 := G0.out.cell (j := 5) rfl; have c6 := G0.out.cell (j := 6) rfl
    go_wp2_with fail
    clear c0 c1 c2 c3 c4 c5 c6 h
    refine (l12Mean_any _ _ _ _ _ _ _ _ _ _ _ _ _ _ _ _ _ (hP.fr hF1) (hW.fr hF1) (hX.fr hF1) HB.out).mono ?_
    rintro e w2 ⟨rfl, f2⟩
    go_wp2_with fail
    refine (l2Kept_any _ _ _ M.out.1 M.out.2.1 M.out.2.2).mono ?_
    rintro e w3 ⟨rfl, f3⟩
    have J1 := Lib.hid ((G1.out.fr f2).fr f3)
    have j0 := J1.out.cell (j := 0) rfl; have j1 := J1.out.cell (j := 1) rfl
    have i0 := J1.out.free 0; have i1 := J1.out.free 1
    go_wp2
    have E := (J1.out.set 0 (.int .i64 (meanP P W (pvM P X) x.toNat).1)).set 1 (.int .i64 (meanP P W (pvM P X) x.toNat).2)
    simp only [List.setIfInBounds_toArray, List.set_cons_zero, List.set_cons_succ] at E
    refine bodyPost_ret (results_FB Try.results31 _ _ (w.heap.size + 1) (.int .i64 (meanP P W (pvM P X) x.toNat).1) (.int .i64 (meanP P W (pvM P X) x.toNat).2) _ rfl rfl (E.cell rfl) (E.cell rfl)) rfl ?_
    refine ⟨by rw [HH.out, HB.out]; rfl, ?_⟩
    iterate 2 refine Fr.setCell ?_ (by dsimp only; omega) _
    exact (hF1.trans f2).trans f3

end Go.Proofs.Ytojipjjfndgbhaa
/- Contracts of deals: slices.Contains, l1Has, children. -/
set_option linter.unusedVariables false
namespace Go.Proofs.Ytojipjjfndgbhaa
open Go.ChangeShapes Go.WideShapes Go.ChangeAt Go.RowKit

def idxI (xs : List Int) (v : Int) : Int := if v ∈ xs then ((xs.findIdx (· == v) : Nat) : Int) else -1
theorem idx_yes {xs : List Int} {v : Int} {k : Nat} (hk : k < xs.length) (h : nth xs k = v) (hl : ∀ i, i < k → nth xs i ≠ v) : idxI xs v = (k : Int) := by
  have hm : v ∈ xs := by rw [← h]; exact nth_mem hk
  rw [idxI, if_pos hm]
  congr 1
  rw [List.findIdx_eq hk]
  refine ⟨by rw [← nth_eq hk, h]; simp, fun j hj => ?_⟩
  have := hl j hj
  rw [nth_eq (by omega)] at this
  simpa using this
theorem idx_no {xs : List Int} {v : Int} (hl : ∀ i, i < xs.length → nth xs i ≠ v) : v ∉ xs := by
  intro hm
  obtain ⟨i, hi, he⟩ := List.mem_iff_getElem.1 hm
  exact hl i hi (by rw [nth_eq hi]; exact he)
theorem idx_sign (xs : List Int) (v : Int) : decide (0 ≤ idxI xs v) = decide (v ∈ xs) := by
  unfold idxI; by_cases h : v ∈ xs
  · rw [if_pos h]; simp [h]
  · rw [if_neg h]; simp [h]

theorem Index_any (w : World) (a : Option Addr) (n c : Nat) (xs : List Int) (v : Int) (h : SL w a n c xs) :
    Calls Try.prog 133 #[.slice a n c, .int .i64 v] w fun e w' => e = .returned (.int .i64 (idxI xs v)) ∧ w = w' := by
  have HL := Lib.hid h.len
  have hn : n ≤ 9223372036854775807 := by have := h.le; have := h.mx; omega
  go_enter Try.func133, Try.ntmps133
  go_wp2
  go_loop [8] (fun i => ∃ k : Nat, k ≤ n ∧ i = .int .i64 k ∧ Hid (∀ j, j < k → nth xs j ≠ v)) (fun i => n - (intOf i).toNat)
  case atStart => exact ⟨0, by omega, rfl, Lib.hid (fun j hj => by omega)⟩
  case round =>
    obtain ⟨k, hk, rfl, hs⟩ := hrel
    by_cases hlt : k < n
    · obtain ⟨b, off, rfl, hc⟩ := h.cells.resolve_left (by omega)
      replace hc := hc k hlt
      by_cases he : v = nth xs k
      · have HV : Hid (idxI xs v = (k : Int)) := Lib.hid (idx_yes (by rw [HL.out]; exact hlt) he.symm hs.out)
        have hb : (v == nth xs k) = true := by simp [he]
        clear he
        go_wp2
        go_ret
        exact ⟨by rw [HV.out]; rfl, rfl⟩
      · have HE := Lib.hid he
        have hb : (v == nth xs k) = false := by simp [he]
        clear he
        go_wp2
        go_round
        case rel => exact ⟨k + 1, by omega, by go_num, Lib.hid (fun j hj => by by_cases e : j = k; (· subst e; exact Ne.symm HE.out); (· exact hs.out j (by omega)))⟩
        case measure => simp [intOf]; omega
    · obtain rfl : k = n := by omega
      have HV : Hid (idxI xs v = -1) := Lib.hid (by rw [idxI, if_neg (idx_no (by rw [HL.out]; exact hs.out))])
      go_wp2
      go_ret
      exact ⟨by rw [HV.out]; rfl, rfl⟩

theorem Contains_any (w : World) (a : Option Addr) (n c : Nat) (xs : List Int) (v : Int) (h : SL w a n c xs) :
    Calls Try.prog 93 #[.slice a n c, .int .i64 v] w fun e w' => e = .returned (.bool (decide (v ∈ xs))) ∧ w = w' := by
  have HV := Lib.hid (idx_sign xs v)
  go_enter Try.func93, Try.ntmps93
  go_wp2_with fail
  refine (Index_any _ _ _ _ _ v h).mono ?_
  rintro e w' ⟨rfl, rfl⟩
  go_wp2
  go_ret
  exact ⟨ret_bool HV.out, rfl⟩

theorem l1Has_any (w : World) (a : Option Addr) (n c : Nat) (xs : List Int) (v : Int) (h : SL w a n c xs) :
    Calls Try.prog 142 #[.slice a n c, .int .i64 v] w fun e w' => e = .returned (.bool (decide (v ∈ xs))) ∧ w = w' := by
  have HL := Lib.hid h.len
  have hn : n ≤ 9223372036854775807 := by have := h.le; have := h.mx; omega
  go_enter Try.func142, Try.ntmps142
  go_wp2
  go_loop [5] (fun i => ∃ k : Nat, k ≤ n ∧ i = .int .i64 k ∧ Hid (∀ j, j < k → nth xs j ≠ v)) (fun i => n - (intOf i).toNat)
  case atStart => exact ⟨0, by omega, rfl, Lib.hid (fun j hj => by omega)⟩
  case round =>
    obtain ⟨k, hk, rfl, hs⟩ := hrel
    by_cases hlt : k < n
    · obtain ⟨b, off, rfl, hc⟩ := h.cells.resolve_left (by omega)
      replace hc := hc k hlt
      by_cases he : nth xs k = v
      · have HV : Hid (decide (v ∈ xs) = true) := Lib.hid (by rw [decide_eq_true_eq, ← he]; exact nth_mem (by rw [HL.out]; exact hlt))
        have hb : (nth xs k == v) = true := by simp [he]
        clear he
        go_wp2
        go_ret
        exact ⟨ret_bool HV.out.symm, rfl⟩
      · have HE := Lib.hid he
        have hb : (nth xs k == v) = false := by simp [he]
        clear he
        go_wp2
        go_round
        case rel => exact ⟨k + 1, by omega, by go_num, Lib.hid (fun j hj => by by_cases e : j = k; (· subst e; exact HE.out); (· exact hs.out j (by omega)))⟩
        case measure => simp [intOf]; omega
    · obtain rfl : k = n := by omega
      have HV : Hid (decide (v ∈ xs) = false) := Lib.hid (by rw [decide_eq_false_iff_not]; exact idx_no (by rw [HL.out]; exact hs.out))
      go_wp2
      go_ret
      exact ⟨ret_bool HV.out.symm, rfl⟩

theorem children_any (w : World) (p q : Option Addr) (n c m d : Nat) (x : Nat) (P : List Int) (hP : SL w p n c P) (hn : n ≤ 1048576) :
    Calls Try.prog 94 #[.agg #[.slice p n c, .slice q m d], .int .i64 x] w (RetS (kidsTo P x n) w) := by
  have HP := Lib.hid hP.len
  have hmade := Own.made0 (B := w.heap.size + 1) (w.alloc (.cells #[.slice p n c, .slice q m d] 29)) (by simp)
  have hfa : Fr (w.alloc (.cells #[.slice p n c, .slice q m d] 29)) ((w.alloc (.cells #[.slice p n c, .slice q m d] 29)).alloc (.cells #[] 3)) := (Fr.refl _).alloc _
  go_enter Try.func94, Try.ntmps94
  go_wp2
  go_loopw [5, 12] (fun v i wr => ∃ (k l cc : Nat) (a : Option Addr), k ≤ n ∧ i = .int .i64 k ∧ v = .slice a l cc ∧ Own (w.heap.size + 1) wr a l cc (kidsTo P x k) ∧ Fr (w.alloc (.cells #[.slice p n c, .slice q m d] 29)) wr) (fun _ i _ => n - (intOf i).toNat)
  case atStart => exact ⟨0, 0, 0, _, by omega, rfl, rfl, by simpa [kidsTo] using hmade, hfa⟩
  case round =>
    clear hmade hfa
    obtain ⟨k, l, cc, a, hk, rfl, rfl, ho, hF⟩ := hrel
    by_cases hlt : k < n
    · obtain ⟨b, off, rfl, hc⟩ := (hP.fr (((Fr.refl w).alloc _).trans hF)).cells.resolve_left (by omega)
      replace hc := hc k hlt
      have hs := kidsTo_succ P x k
      have hln : l ≤ 1048576 := by have := ho.len; have := kidsTo_len P x k; omega
      have hsz : w.heap.size + 1 ≤ wr.heap.size := by have := hF.size; simpa using this
      by_cases he : nth P k = (x : Int)
      · have HS : Hid (kidsTo P x (k + 1) = kidsTo P x k ++ [(k : Int)]) := Lib.hid (by rw [hs, if_pos he])
        have hb : (nth P k == (x : Int)) = true := by simp [he]
        clear hs he
        go_wp2_with (at_builtin; refine ap_int _ rfl _ _ rfl (w.heap.size + 1) a l cc _ _ rfl rfl ho hsz (by unfold I64; omega) hln ?_)
        intro g' c' w' k1 k2 k3
        go_wp2
        go_roundw
        case rel => exact ⟨k + 1, l + 1, c', _, by omega, by go_num, rfl, by rw [HS.out]; exact k1, hF.grown k2 (fun z hz => by have := (ho.blk z hz).1; simpa using this)⟩
        case measure => simp [intOf]; omega
      · have HS : Hid (kidsTo P x (k + 1) = kidsTo P x k) := Lib.hid (by rw [hs, if_neg he])
        have hb : (nth P k == (x : Int)) = false := by simp [he]
        clear hs he
        go_wp2
        go_roundw
        case rel => exact ⟨k + 1, l, cc, a, by omega, by go_num, rfl, by rw [HS.out]; exact ho, hF⟩
        case measure => simp [intOf]; omega
    · obtain rfl : k = n := by omega
      have hln : l ≤ 1048576 := by have := ho.len; have := kidsTo_len P x k; omega
      go_wp2
      go_ret
      exact ⟨_, _, _, rfl, ho.mono (by omega), ((Fr.refl w).alloc _).trans hF, hln⟩

end Go.Proofs.Ytojipjjfndgbhaa
/- The contract of DealHouse. -/
set_option linter.unusedVariables false
namespace Go.Proofs.Ytojipjjfndgbhaa
open Go.ChangeShapes Go.WideShapes Go.ChangeAt Go.RowKit

theorem Own.nil (B : Nat) (w : World) : Own B w none 0 0 [] := ⟨World.ownsRow_nil _ _ _ _, by simp⟩
/-- What a deal's switch leaves. -/
def DealCut (w : World) (G : Nat) (P W X : List Int) (t s u v kd A B : Int) (p : Option Addr) (n c : Nat) (q : Option Addr) (m d : Nat) (a : Option Addr) (l b : Nat) (L M N : Nat) (s7 : Value) (wx : World) : Prop :=
  ∃ (W' X' : List Int) (t' s' u' : Int), s7 = .bool (mayB P t kd A B) ∧ (mayB P t kd A B = true → W' = dW W kd A B ∧ X' = dX X kd A B ∧ t' = dAt t kd A ∧ s' = dSt s kd A ∧ u' = dPu X t s u kd A) ∧
    Blk wx G #[.slice p n c, .slice q m d, .slice a l b, .int .i64 t', .int .i64 s', .int .i64 u', .int .i64 v] 31 ∧ Blk wx (w.heap.size + 2) #[.slice none 0 0, .slice none 0 0, .slice none 0 0, .int .i64 0, .int .i64 0, .int .i64 0, .int .i64 0] 31 ∧
    Own L wx p n c P ∧ Own M wx q m d W' ∧ Own N wx a l b X' ∧ Fr w wx ∧ N ≤ wx.heap.size ∧ I64 t' ∧ I64 s' ∧ I64 u'

set_option maxRecDepth 100000 in
set_option maxHeartbeats 4000000 in
theorem impl_DealHouse_any (w : World) (p q a : Option Addr) (n c m d l b : Nat) (P W X : List Int) (x s u v kd A B : Int) (hP : SL w p n c P) (hW : SL w q m d W) (hX : SL w a l b X) (hx : I64 x) (hs : I64 s) (hu : I64 u) (hv : I64 v) (hk : I64 kd) (hA : I64 A) (hB : I64 B) :
    Calls Try.prog 44 #[.agg #[.slice p n c, .slice q m d, .slice a l b, .int .i64 x, .int .i64 s, .int .i64 u, .int .i64 v], .agg #[.int .i64 kd, .int .i64 A, .int .i64 B]] w
      (RetHB (nhV (dealB P W X x s u v kd A B) P) (nhV (dealB P W X x s u v kd A B) (dW W kd A B)) (nhV (dealB P W X x s u v kd A B) (dX X kd A B)) (dV (dealB P W X x s u v kd A B) (dAt x kd A)) (dV (dealB P W X x s u v kd A B) (dSt s kd A)) (dV (dealB P W X x s u v kd A B) (dPu X x s u kd A)) (dV (dealB P W X x s u v kd A B) (v + 1)) (dealB P W X x s u v kd A B) w) := by
  have HP := Lib.hid hP.len; have HW := Lib.hid hW.len; have HX := Lib.hid hX.len
  have hfr : Fr w (((w.alloc (.cells #[.slice p n c, .slice q m d, .slice a l b, .int .i64 x, .int .i64 s, .int .i64 u, .int .i64 v] 31)).alloc (.cells #[.int .i64 kd, .int .i64 A, .int .i64 B] 58)).alloc (.cells #[.slice none 0 0, .slice none 0 0, .slice none 0 0, .int .i64 0, .int .i64 0, .int .i64 0, .int .i64 0] 31)) := (((Fr.refl w).alloc _).alloc _).alloc _
  have hb0 := ((Blk.new w #[.slice p n c, .slice q m d, .slice a l b, .int .i64 x, .int .i64 s, .int .i64 u, .int .i64 v] 31).alloc (.cells #[.int .i64 kd, .int .i64 A, .int .i64 B] 58)).alloc (.cells #[.slice none 0 0, .slice none 0 0, .slice none 0 0, .int .i64 0, .int .i64 0, .int .i64 0, .int .i64 0] 31)
  have hb1 := (Blk.new (w.alloc (.cells #[.slice p n c, .slice q m d, .slice a l b, .int .i64 x, .int .i64 s, .int .i64 u, .int .i64 v] 31)) #[.int .i64 kd, .int .i64 A, .int .i64 B] 58).alloc (.cells #[.slice none 0 0, .slice none 0 0, .slice none 0 0, .int .i64 0, .int .i64 0, .int .i64 0, .int .i64 0] 31)
  have hb2 := Blk.new ((w.alloc (.cells #[.slice p n c, .slice q m d, .slice a l b, .int .i64 x, .int .i64 s, .int .i64 u, .int .i64 v] 31)).alloc (.cells #[.int .i64 kd, .int .i64 A, .int .i64 B] 58)) #[.slice none 0 0, .slice none 0 0, .slice none 0 0, .int .i64 0, .int .i64 0, .int .i64 0, .int .i64 0] 31
  simp only [World.size_alloc] at hb1 hb2
  have H0 := Lib.hid hb0; have H1 := Lib.hid hb1; have H2 := Lib.hid hb2
  clear hb0 hb1 hb2
  have k0 := H0.out.cell (j := 0) rfl; have k1 := H0.out.cell (j := 1) rfl; have k2 := H0.out.cell (j := 2) rfl; have k3 := H0.out.cell (j := 3) rfl; have k4 := H0.out.cell (j := 4) rfl; have k5 := H0.out.cell (j := 5) rfl; have k6 := H0.out.cell (j := 6) rfl
  go_enter Try.func44, Try.ntmps44
  go_wp2_with fail
  clear k0 k1 k2 k3 k4 k5 k6
  refine (impl_IsHouse_any _ _ _ _ _ _ _ _ _ _ _ _ _ (hP.fr hfr) (hW.fr hfr) (hX.fr hfr) _ _ _ _).mono ?_
  rintro e w1 ⟨rfl, f1⟩
  have z1 := f1.size
  simp only [World.size_alloc] at z1
  have hF1 := hfr.trans f1
  have G0 := Lib.hid (H0.out.fr f1); have G1 := Lib.hid (H1.out.fr f1); have G2 := Lib.hid (H2.out.fr f1)
  clear H0 H1 H2
  cases h : houseB P W X x s u v
  · have HL : Hid (dealB P W X x s u v kd A B = false) := Lib.hid (by rw [dealB, h]; rfl)
    have j0 := G2.out.cell (j := 0) rfl; have j1 := G2.out.cell (j := 1) rfl; have j2 := G2.out.cell (j := 2) rfl; have j3 := G2.out.cell (j := 3) rfl; have j4 := G2.out.cell (j := 4) rfl; have j5 := G2.out.cell (j := 5) rfl; have j6 := G2.out.cell (j := 6) rfl
    have i0 := G2.out.free 0; have i1 := G2.out.free 1; have i2 := G2.out.free 2; have i3 := G2.out.free 3; have i4 := G2.out.free 4; have i5 := G2.out.free 5; have i6 := G2.out.free 6
    clear h
    go_wp2
    have E := (((((((G2.out.set 0 (.slice none 0 0)).set 1 (.slice none 0 0)).set 2 (.slice none 0 0)).set 3 (.int .i64 0)).set 4 (.int .i64 0)).set 5 (.int .i64 0)).set 6 (.int .i64 0))
    simp only [List.setIfInBounds_toArray, List.set_cons_zero, List.set_cons_succ] at E
    refine bodyPost_ret (results_HB Try.results44 _ _ (w.heap.size + 1 + 1) _ _ _ _ _ _ _ _ rfl rfl (E.cell rfl) (E.cell rfl) (E.cell rfl) (E.cell rfl) (E.cell rfl) (E.cell rfl) (E.cell rfl)) rfl ?_
    rw [HL.out]
    refine ⟨none, 0, 0, none, 0, 0, none, 0, 0, w.heap.size, w.heap.size, rfl, Own.nil _ _, Own.nil _ _, Own.nil _ _, fun k hk => by simp [blkOf] at hk, fun k hk => by simp [blkOf] at hk, Nat.le_refl _, Nat.le_refl _, ?_, ?_, by omega, by omega, by omega⟩
    · have := hF1.size; simpa using this
    · iterate 7 refine Fr.setCell ?_ (by dsimp only; omega) _
      exact hF1
  · have HH := Lib.hid h
    have hl := houseB_parts h
    obtain ⟨t1, t2, t3, t4⟩ := houseB_parts h
    obtain ⟨-, r1, r2, r3⟩ := houseB_all h
    have Ht := Lib.hid t1
    have Hv := Lib.hid (nth_bd (procB_iff.1 t2).2 (by omega) (by omega))
    obtain ⟨g1, g2, g3, -⟩ := treeB_iff.1 t1
    have Hp := Lib.hid g3
    have hml : m = n := by rw [← HW.out, g2, HP.out]
    have hll : l = n := by rw [← HX.out, (procB_iff.1 t2).1, HP.out]
    subst hml; subst hll
    rw [HP.out] at g1 t4
    obtain ⟨y, rfl⟩ := Int.eq_ofNat_of_zero_le t3
    clear t1 t2 t3 g2 g3 hl
    have k0 := G0.out.cell (j := 0) rfl; have k1 := G0.out.cell (j := 1) rfl; have k2 := G0.out.cell (j := 2) rfl; have k3 := G0.out.cell (j := 3) rfl; have k4 := G0.out.cell (j := 4) rfl; have k5 := G0.out.cell (j := 5) rfl; have k6 := G0.out.cell (j := 6) rfl
    go_wp2_with fail
    clear h k0 k1 k2 k3 k4 k5 k6
    refine (own_any _ _ _ _ _ _ _ _ _ _ _ _ _ _ _ _ _ (hP.fr hF1) (hW.fr hF1) (hX.fr hF1) (by omega) (by omega) (by omega)).mono ?_
    rintro e w2 ⟨p2, n2, c2, q2, m2, d2, a2, l2, b2, M, N, rfl, o1, o2, o3, W1, W2, y1, y2, y3, f2, e1, e2, e3⟩
    have N1 : n2 = l := by rw [← o1.len, HP.out]
    have N2 : m2 = l := by rw [← o2.len, HW.out]
    have N3 : l2 = l := by rw [← o3.len, HX.out]
    subst N1; subst N2; subst N3
    have z2 := f2.size
    have W3 := o3.within
    have hne1 : blkOf p2 ≠ some w2.heap.size := fun e => by have := W1 _ e; omega
    have hne2 : blkOf q2 ≠ some w2.heap.size := fun e => by have := W2 _ e; omega
    have hne3 : blkOf a2 ≠ some w2.heap.size := fun e => by have := W3 _ e; omega
    go_upto_region 4 with fail
    have fa : Fr w2 (w2.alloc (.cells #[.slice p2 l2 c2, .slice q2 l2 d2, .slice a2 l2 b2, .int .i64 y, .int .i64 s, .int .i64 u, .int .i64 v] 31)) := (Fr.refl _).alloc _
    have bG := Lib.hid (Blk.new w2 #[.slice p2 l2 c2, .slice q2 l2 d2, .slice a2 l2 b2, .int .i64 y, .int .i64 s, .int .i64 u, .int .i64 v] 31)
    have z3 := World.size_alloc w2 (.cells #[.slice p2 l2 c2, .slice q2 l2 d2, .slice a2 l2 b2, .int .i64 y, .int .i64 s, .int .i64 u, .int .i64 v] 31)
    generalize hw3 : w2.alloc (.cells #[.slice p2 l2 c2, .slice q2 l2 d2, .slice a2 l2 b2, .int .i64 y, .int .i64 s, .int .i64 u, .int .i64 v] 31) = w3 at fa bG z3 ⊢
    clear hw3
    have Z3 := Lib.hid z3
    have F3 := (hF1.trans f2).trans fa
    replace o1 := o1.fr fa; replace o2 := o2.fr fa; replace o3 := o3.fr fa
    have B0 := Lib.hid ((G0.out.fr f2).fr fa); have B1 := Lib.hid ((G1.out.fr f2).fr fa); have B2 := Lib.hid ((G2.out.fr f2).fr fa)
    clear z3 f2 fa G0 G1 G2
    have gG := Lib.hid (show w.heap.size + 1 + 1 + 1 ≤ w2.heap.size by omega)
    have m0 := B0.out.cell (j := 0) rfl; have m1 := B0.out.cell (j := 1) rfl; have m2 := B0.out.cell (j := 2) rfl; have m3 := B0.out.cell (j := 3) rfl; have m4 := B0.out.cell (j := 4) rfl
    have n0 := B1.out.cell (j := 0) rfl; have n1 := B1.out.cell (j := 1) rfl; have n2 := B1.out.cell (j := 2) rfl
    go_upto_block 0 with fail
    go_cut [7] (fun s7 wx => DealCut w w2.heap.size P W X y s u v kd A B p2 l2 c2 q2 l2 d2 a2 l2 b2 w1.heap.size M N s7 wx)
    case first =>
      have gg := gG.out
      have z3 := Z3.out
      have r0 := B1.out
      have qG3 := Lib.hid (And.intro o1 (And.intro o2 o3))
      have hmn := gG.out
      have i0 : (0 : Int) ≤ (y : Int) := by omega
      have gne : w.heap.size + 1 + 1 ≠ w2.heap.size := by omega
      have gne' : w2.heap.size ≠ w.heap.size + 1 + 1 := by omega
      clear r0 qG3 hmn
      by_cases k1 : kd = 1
      · subst k1
        by_cases hB0 : B = 0
        · subst hB0
          have HM : Hid (mayB P y 1 A 0 = decide (A ∈ kidsTo P y l2)) := Lib.hid (by
            show ((0 == 0) && decide (A ∈ kidsTo P (y : Int).toNat P.length)) = _
            rw [Int.toNat_natCast, HP.out]; rfl)
          have hP3 := hP.fr F3
          go_wp2
          go_region_held3 (fun w' => w'.cell? ⟨w.heap.size, 0, none⟩ = some (.slice p l2 c) ∧ w'.cell? ⟨w.heap.size, 1, none⟩ = some (.slice q l2 d) ∧ w'.cell? ⟨w.heap.size, 3, none⟩ = some (.int .i64 y) ∧ w'.cell? ⟨w.heap.size + 1, 1, none⟩ = some (.int .i64 A) ∧ w'.cell? ⟨w.heap.size + 1, 2, none⟩ = some (.int .i64 0))
            (first
              | go_keep
              | (exact ⟨f5.keep m0, f5.keep m1, f5.keep m3, f5.keep n1, f5.keep n2⟩))
            (first
              | (go_at_call 94; refine (children_any _ _ _ _ _ _ _ y P (hP3.fr (Fr.drewN _ 1)) (by omega)).mono ?_; rintro e w5 ⟨a5, n5, c5, rfl, o5, f5, _⟩)
              | (go_at_call 93; refine (Contains_any _ _ _ _ _ A o5.sl).mono ?_; rintro e w6 ⟨rfl, rfl⟩))
          have F5 : Fr w3 w5 := (Fr.drewN _ 1).trans f5
          have z5 := F5.size
          cases hm : decide (A ∈ kidsTo P y l2)
          · have HM2 : Hid (mayB P y 1 A 0 = false) := Lib.hid (by rw [HM.out, hm])
            clear hm
            go_wp2
            go_meet
            exact ⟨W, X, y, s, u, by rw [HM2.out], (fun h => by rw [HM2.out] at h; cases h), bG.out.fr F5, B2.out.fr F5, o1.fr F5, o2.fr F5, o3.fr F5, F3.trans F5, by omega, hx, hs, hu⟩
          · have HM2 : Hid (mayB P y 1 A 0 = true) := Lib.hid (by rw [HM.out, hm])
            obtain ⟨z, rfl, hzl, _⟩ := kids_mem.1 (of_decide_eq_true hm)
            have qG := (bG.out.fr F5).cell (j := 3) rfl
            have fG := (bG.out.fr F5).free 3
            have n1' := (B1.out.fr F5).cell (j := 1) rfl
            clear hm
            go_wp2
            have FX : Fr w3 (w5.setCell ⟨w2.heap.size, 3, none⟩ (.int .i64 z)) → True := fun _ => trivial
            have bX := Lib.hid ((bG.out.fr F5).set 3 (.int .i64 z))
            have x0 := Lib.hid ((B0.out.fr F5).other (p := ⟨w2.heap.size, 3, none⟩) (by dsimp only; omega) (.int .i64 z))
            have x1 := Lib.hid ((B1.out.fr F5).other (p := ⟨w2.heap.size, 3, none⟩) (by dsimp only; omega) (.int .i64 z))
            have x2 := Lib.hid ((B2.out.fr F5).other (p := ⟨w2.heap.size, 3, none⟩) gne' (.int .i64 z))
            have o1x := (o1.fr F5).setOther (p := ⟨w2.heap.size, 3, none⟩) hne1 (.int .i64 z)
            have o2x := (o2.fr F5).setOther (p := ⟨w2.heap.size, 3, none⟩) hne2 (.int .i64 z)
            have o3x := (o3.fr F5).setOther (p := ⟨w2.heap.size, 3, none⟩) hne3 (.int .i64 z)
            have fX := (F3.trans F5).setCell (p := ⟨w2.heap.size, 3, none⟩) (by dsimp only; omega) (.int .i64 z)
            have sX := Lib.hid (World.size_setCell w5 ⟨w2.heap.size, 3, none⟩ (.int .i64 z))
            generalize hwx : w5.setCell ⟨w2.heap.size, 3, none⟩ (.int .i64 z) = wx at bX x0 x1 x2 o1x o2x o3x fX sX ⊢
            clear hwx qG fG n1' FX m0 m1 m2 m3 m4 n0 n1 n2
            simp only [List.setIfInBounds_toArray, List.set_cons_zero, List.set_cons_succ] at bX
            have sx := sX.out
            have c5' := bX.out.cell (j := 5) rfl
            have c5f := bX.out.free 5
            have a2' := x0.out.cell (j := 2) rfl; have a3' := x0.out.cell (j := 3) rfl; have a4' := x0.out.cell (j := 4) rfl
            have e1' := x1.out.cell (j := 1) rfl
            obtain ⟨bx, ox, rfl, hcx⟩ := (hX.fr fX).cells.resolve_left (by omega)
            have hcz := hcx z hzl
            have hcy := hcx y (by omega)
            have v1 := Hv.out z
            have v2 := Hv.out y
            have v3 := dPu_bd r1 v1 v2
            have i1 : (y : Int) < (l2 : Int) := by omega
            have i2 : (0 : Int) ≤ (z : Int) := by omega
            have i3 : (z : Int) < (l2 : Int) := by omega
            clear hcx sX
            have w1' : IntKind.i64.wrap (nth X z - nth X y) = nth X z - nth X y := IntWalk.i64_in _ (by omega)
            have w2' : IntKind.i64.wrap (s * (nth X z - nth X y)) = s * (nth X z - nth X y) := IntWalk.i64_in _ (by omega)
            have w3' : IntKind.i64.wrap (u + s * (nth X z - nth X y)) = u + s * (nth X z - nth X y) := IntWalk.i64_in _ (by omega)
            go_region
            clear w1' w2' w3'
            go_wp2
            go_meet
            exact ⟨W, X, z, s, u + s * (nth X z - nth X y), by rw [HM2.out], (fun _ => ⟨rfl, rfl, rfl, rfl, by rw [dPu, if_pos rfl, Int.toNat_natCast, Int.toNat_natCast]⟩), bX.out.set 5 (.int .i64 (u + s * (nth X z - nth X y))), x2.out.other gne' _, (o1x.setOther (p := ⟨w2.heap.size, 5, none⟩) hne1 _).drewN 1, (o2x.setOther (p := ⟨w2.heap.size, 5, none⟩) hne2 _).drewN 1, (o3x.setOther (p := ⟨w2.heap.size, 5, none⟩) hne3 _).drewN 1, (fX.setCell (by dsimp only; omega) _).drew' 1, by simp; omega, by unfold I64; omega, hs, by unfold I64; omega⟩
        · have HM : Hid (mayB P y 1 A B = false) := Lib.hid (by
            show ((B == 0) && decide (A ∈ kidsTo P (y : Int).toNat P.length)) = false
            rw [beq_eq_false_iff_ne.2 hB0]; rfl)
          have hb0 : (B == 0) = false := by simp [hB0]
          clear hB0
          go_wp2
          go_quiet (fail)
          go_wp2
          go_meet
          exact ⟨W, X, y, s, u, by rw [HM.out], (fun h => by rw [HM.out] at h; cases h), bG.out.fr (Fr.drewN _ _), B2.out.fr (Fr.drewN _ _), o1.drewN _, o2.drewN _, o3.drewN _, F3.drew' _, by simp; omega, hx, hs, hu⟩
      by_cases k2 : kd = 2
      · subst k2
        have HM : Hid (mayB P y 2 A B = (B == 0)) := Lib.hid rfl
        have qG := bG.out.cell (j := 4) rfl
        have hfG := bG.out.free 4
        go_wp2
        go_meet
        exact ⟨W, X, y, A, u, by rw [HM.out], fun _ => ⟨rfl, rfl, rfl, rfl, rfl⟩, bG.out.set 4 (.int .i64 A), B2.out.other gne' _, o1.setOther hne1 _, o2.setOther hne2 _, o3.setOther hne3 _, F3.setCell (by dsimp only; omega) _, by simp; omega, hx, hA, hu⟩
      by_cases k3 : kd = 3
      · subst k3
        have HM : Hid (mayB P y 3 A B = ((B == 0) && inB A (-999) 999)) := Lib.hid rfl
        have qG := bG.out.cell (j := 5) rfl
        have hfG := bG.out.free 5
        cases hb : (B == 0) <;> cases hi : inB A (-999) 999
        case true.true =>
          have hA2 := inB_iff.1 hi
          have HM2 : Hid (mayB P y 3 A B = true) := Lib.hid (by rw [HM.out, hb, hi]; rfl)
          go_wp2_with (go_at_call 72; refine (within_any _ _ _ _).mono ?_; rintro e w' ⟨rfl, rfl⟩)
          go_meet
          exact ⟨W, X, y, s, u + A, by rw [HM2.out], fun _ => ⟨rfl, rfl, rfl, rfl, rfl⟩, bG.out.set 5 (.int .i64 (u + A)), B2.out.other gne' _, o1.setOther hne1 _, o2.setOther hne2 _, o3.setOther hne3 _, F3.setCell (by dsimp only; omega) _, by simp; omega, hx, hs, by unfold I64; omega⟩
        all_goals
          have HM2 : Hid (mayB P y 3 A B = false) := Lib.hid (by rw [HM.out, hb, hi]; rfl)
          go_wp2_with (go_at_call 72; refine (within_any _ _ _ _).mono ?_; rintro e w' ⟨rfl, rfl⟩)
          go_meet
          exact ⟨W, X, y, s, u, by rw [HM2.out], (fun h => by rw [HM2.out] at h; cases h), bG.out, B2.out, o1, o2, o3, F3, by omega, hx, hs, hu⟩
      by_cases k4 : kd = 4
      · subst k4
        have HM : Hid (mayB P y 4 A B = ((A == 0) && (B == 0))) := Lib.hid rfl
        have qG := bG.out.cell (j := 3) rfl
        have hfG := bG.out.free 3
        cases hb : (A == 0) <;> cases hi : (B == 0)
        all_goals
          have HM2 := Lib.hid (show mayB P y 4 A B = _ from by rw [HM.out, hb, hi])
          go_wp2
          go_meet
          exact ⟨W, X, 0, s, u, by rw [HM2.out]; rfl, (fun h => by first | exact ⟨rfl, rfl, rfl, rfl, rfl⟩ | (rw [HM2.out] at h; cases h)), bG.out.set 3 (.int .i64 0), B2.out.other gne' _, o1.setOther hne1 _, o2.setOther hne2 _, o3.setOther hne3 _, F3.setCell (by dsimp only; omega) _, by simp; omega, by unfold I64; omega, hs, hu⟩
      by_cases k5 : kd = 5
      · subst k5
        have HM : Hid (mayB P y 5 A B = inB A 0 ((l2 : Int) - 1)) := Lib.hid (by rw [← HP.out]; rfl)
        go_wp2_with fail
        refine (isNode_any _ _ _ _ _ _ _ _ W (hP.fr F3) A).mono ?_
        rintro e w5 ⟨rfl, f5⟩
        have z5 := f5.size
        cases hi : inB A 0 ((l2 : Int) - 1)
        · have HM2 : Hid (mayB P y 5 A B = false) := Lib.hid (by rw [HM.out, hi])
          go_wp2
          go_meet
          exact ⟨W, X, y, s, u, by rw [HM2.out], (fun h => by rw [HM2.out] at h; cases h), bG.out.fr f5, B2.out.fr f5, o1.fr f5, o2.fr f5, o3.fr f5, F3.trans f5, by omega, hx, hs, hu⟩
        · have HM2 : Hid (mayB P y 5 A B = true) := Lib.hid (by rw [HM.out, hi])
          obtain ⟨ha0, ha1⟩ := inB_iff.1 hi
          obtain ⟨z, rfl⟩ := Int.eq_ofNat_of_zero_le ha0
          have hzl : z < l2 := by omega
          have o3f := o3.fr f5
          obtain ⟨g3, rfl, hg3, hg3', hcc, hfro⟩ := o3f.op (by omega)
          have hcz := hcc z hzl
          have hfz := hfro z
          have qG := (bG.out.fr f5).cell (j := 2) rfl
          have n1' := (B1.out.fr f5).cell (j := 1) rfl; have n2' := (B1.out.fr f5).cell (j := 2) rfl
          clear hi hcc hfro
          have hg1 : blkOf p2 ≠ some g3 := fun e => by have := W1 _ e; omega
          have hg2 : blkOf q2 ≠ some g3 := fun e => by have := W2 _ e; omega
          have hgG : g3 ≠ w2.heap.size := fun e => hne3 (by rw [← e]; rfl)
          have hgR : g3 ≠ w.heap.size + 1 + 1 := by omega
          go_wp2
          go_meet
          exact ⟨W, X.set z B, y, s, u, by rw [HM2.out], fun _ => ⟨rfl, by rw [dX, if_pos rfl, Int.toNat_natCast], rfl, rfl, rfl⟩, (bG.out.fr f5).other hgG _, (B2.out.fr f5).other hgR _, (o1.fr f5).setOther hg1 _, (o2.fr f5).setOther hg2 _, o3f.set rfl hzl hB, (F3.trans f5).setCell (by dsimp only; omega) _, by simp; omega, hx, hs, hu⟩
      by_cases k6 : kd = 6
      · subst k6
        have HM : Hid (mayB P y 6 A B = decide (A ∈ endsM P)) := Lib.hid rfl
        have hP3 := hP.fr F3
        go_wp2
        go_region_held3 (fun w' => w'.cell? ⟨w.heap.size, 0, none⟩ = some (.slice p l2 c) ∧ w'.cell? ⟨w.heap.size, 1, none⟩ = some (.slice q l2 d) ∧ w'.cell? ⟨w.heap.size + 1, 1, none⟩ = some (.int .i64 A))
          (first
            | go_keep
            | (exact ⟨f5.keep m0, f5.keep m1, f5.keep n1⟩))
          (first
            | (go_at_call 80; refine (ends_any _ _ _ _ _ _ _ P (hP3.fr (Fr.drewN _ 1)) Hp.out (by omega)).mono ?_; rintro e w5 ⟨a5, n5, c5, rfl, o5, f5, _⟩)
            | (go_at_call 93; refine (Contains_any _ _ _ _ _ A o5.sl).mono ?_; rintro e w6 ⟨rfl, rfl⟩))
        have F5 : Fr w3 w5 := (Fr.drewN _ 1).trans f5
        have z5 := F5.size
        cases hm : decide (A ∈ endsM P)
        · have HM2 : Hid (mayB P y 6 A B = false) := Lib.hid (by rw [HM.out, hm])
          clear hm
          go_wp2
          go_meet
          exact ⟨W, X, y, s, u, by rw [HM2.out], (fun h => by rw [HM2.out] at h; cases h), bG.out.fr F5, B2.out.fr F5, o1.fr F5, o2.fr F5, o3.fr F5, F3.trans F5, by omega, hx, hs, hu⟩
        · have HM2 : Hid (mayB P y 6 A B = true) := Lib.hid (by rw [HM.out, hm])
          obtain ⟨z, rfl, hzl, _⟩ := ends_mem.1 (of_decide_eq_true hm)
          rw [HP.out] at hzl
          have o2f := o2.fr F5
          obtain ⟨g3, rfl, hg3, hg3', hcc, hfro⟩ := o2f.op (by omega)
          have hcz := hcc z hzl
          have hfz := hfro z
          have qG := (bG.out.fr F5).cell (j := 1) rfl
          have n1' := (B1.out.fr F5).cell (j := 1) rfl; have n2' := (B1.out.fr F5).cell (j := 2) rfl
          clear hm hcc hfro
          have hg1 : blkOf p2 ≠ some g3 := fun e => by have := W1 _ e; omega
          have hg2 : blkOf a2 ≠ some g3 := fun e => by have := W2 g3 rfl; have := W3 _ e; omega
          have hgG : g3 ≠ w2.heap.size := fun e => hne2 (by rw [← e]; rfl)
          have hgR : g3 ≠ w.heap.size + 1 + 1 := by omega
          go_wp2
          go_meet
          exact ⟨W.set z B, X, y, s, u, by rw [HM2.out], (fun _ => ⟨by rw [dW, if_pos rfl, Int.toNat_natCast], rfl, rfl, rfl, rfl⟩), (bG.out.fr F5).other hgG _, (B2.out.fr F5).other hgR _, (o1.fr F5).setOther hg1 _, o2f.set rfl hzl hB, (o3.fr F5).setOther hg2 _, (F3.trans F5).setCell (by dsimp only; omega) _, by simp; omega, hx, hs, hu⟩
      have HM : Hid (mayB P y kd A B = false) := Lib.hid (by rw [mayB, if_neg k1, if_neg k2, if_neg k3, if_neg k4, if_neg k5, if_neg k6])
      have b1 : (kd == 1) = false := by simp [k1]
      have b2' : (kd == 2) = false := by simp [k2]
      have b3 : (kd == 3) = false := by simp [k3]
      have b4 : (kd == 4) = false := by simp [k4]
      have b5 : (kd == 5) = false := by simp [k5]
      have b6 : (kd == 6) = false := by simp [k6]
      clear k1 k2 k3 k4 k5 k6
      go_wp2
      go_meet
      exact ⟨W, X, y, s, u, by rw [HM.out], (fun h => by rw [HM.out] at h; cases h), bG.out, B2.out, o1, o2, o3, F3, by omega, hx, hs, hu⟩
    case rest =>
      obtain ⟨W', X', t', s', u', rfl, hpos, hG, h2, o1', o2', o3', hF, hN, it, is, iu⟩ := hcut
      clear m0 m1 m2 m3 m4 n0 n1 n2 o1 o2 o3
      have HPos := Lib.hid hpos
      have HG := Lib.hid hG; have H2 := Lib.hid h2
      clear hpos hG h2 Z3 F3 B0 B1 B2
      have gg := gG.out
      have gne : w.heap.size + 1 + 1 ≠ w2.heap.size := by omega
      have gne' : w2.heap.size ≠ w.heap.size + 1 + 1 := by omega
      have zF := hF.size
      have q0 := HG.out.cell (j := 0) rfl; have q1 := HG.out.cell (j := 1) rfl; have q2' := HG.out.cell (j := 2) rfl; have q3 := HG.out.cell (j := 3) rfl; have q4 := HG.out.cell (j := 4) rfl; have q5 := HG.out.cell (j := 5) rfl; have q6 := HG.out.cell (j := 6) rfl
      have f6 := HG.out.free 6
      cases hmay : mayB P y kd A B
      · have HL : Hid (dealB P W X y s u v kd A B = false) := Lib.hid (by rw [dealB, goB, hmay]; simp)
        have j0 := H2.out.cell (j := 0) rfl; have j1 := H2.out.cell (j := 1) rfl; have j2 := H2.out.cell (j := 2) rfl; have j3 := H2.out.cell (j := 3) rfl; have j4 := H2.out.cell (j := 4) rfl; have j5 := H2.out.cell (j := 5) rfl; have j6 := H2.out.cell (j := 6) rfl
        have i0 := H2.out.free 0; have i1 := H2.out.free 1; have i2 := H2.out.free 2; have i3 := H2.out.free 3; have i4 := H2.out.free 4; have i5 := H2.out.free 5; have i6 := H2.out.free 6
        clear hmay
        go_wp2
        have E := ((((((((H2.out.other (p := ⟨w2.heap.size, 6, none⟩) gne' (.int .i64 (v + 1))).set 0 (.slice none 0 0)).set 1 (.slice none 0 0)).set 2 (.slice none 0 0)).set 3 (.int .i64 0)).set 4 (.int .i64 0)).set 5 (.int .i64 0)).set 6 (.int .i64 0))
        simp only [List.setIfInBounds_toArray, List.set_cons_zero, List.set_cons_succ] at E
        refine bodyPost_ret (results_HB Try.results44 _ _ (w.heap.size + 1 + 1) _ _ _ _ _ _ _ _ rfl rfl (E.cell rfl) (E.cell rfl) (E.cell rfl) (E.cell rfl) (E.cell rfl) (E.cell rfl) (E.cell rfl)) rfl ?_
        rw [HL.out]
        refine ⟨none, 0, 0, none, 0, 0, none, 0, 0, w.heap.size, w.heap.size, rfl, Own.nil _ _, Own.nil _ _, Own.nil _ _, fun k hk => by simp [blkOf] at hk, fun k hk => by simp [blkOf] at hk, Nat.le_refl _, Nat.le_refl _, ?_, ?_, by omega, by omega, by omega⟩
        · simpa using zF
        · iterate 8 refine Fr.setCell ?_ (by dsimp only; omega) _
          exact hF
      · obtain ⟨rfl, rfl, rfl, rfl, rfl⟩ := HPos.out hmay
        have o1s := o1'.setOther (p := ⟨w2.heap.size, 6, none⟩) hne1 (.int .i64 (v + 1))
        have o2s := o2'.setOther (p := ⟨w2.heap.size, 6, none⟩) hne2 (.int .i64 (v + 1))
        have o3s := o3'.setOther (p := ⟨w2.heap.size, 6, none⟩) hne3 (.int .i64 (v + 1))
        have hFs := hF.setCell (p := ⟨w2.heap.size, 6, none⟩) (by dsimp only; omega) (.int .i64 (v + 1))
        have HGs := Lib.hid (HG.out.set 6 (.int .i64 (v + 1)))
        have H2s := Lib.hid (H2.out.other (p := ⟨w2.heap.size, 6, none⟩) gne' (.int .i64 (v + 1)))
        go_wp2_with fail
        clear q0 q1 q2' q3 q4 q5 q6 f6
        refine (impl_IsHouse_any _ _ _ _ _ _ _ _ _ _ _ _ _ o1s.sl o2s.sl o3s.sl _ _ _ _).mono ?_
        rintro e w5 ⟨rfl, f5⟩
        have z5 := f5.size
        simp only [World.size_setCell] at z5
        have HD : Hid (houseB P (dW W kd A B) (dX X kd A B) (dAt y kd A) (dSt s kd A) (dPu X y s u kd A) (v + 1) = dealB P W X y s u v kd A B) := Lib.hid (by rw [dealB, goB, hmay, HH.out, doneB]; rfl)
        rw [HD.out]
        replace o1s := o1s.fr f5; replace o2s := o2s.fr f5; replace o3s := o3s.fr f5; replace hFs := hFs.trans f5
        have HGf := Lib.hid (HGs.out.fr f5); have H2f := Lib.hid (H2s.out.fr f5)
        have j0 := H2f.out.cell (j := 0) rfl; have j1 := H2f.out.cell (j := 1) rfl; have j2 := H2f.out.cell (j := 2) rfl; have j3 := H2f.out.cell (j := 3) rfl; have j4 := H2f.out.cell (j := 4) rfl; have j5 := H2f.out.cell (j := 5) rfl; have j6 := H2f.out.cell (j := 6) rfl
        have i0 := H2f.out.free 0; have i1 := H2f.out.free 1; have i2 := H2f.out.free 2; have i3 := H2f.out.free 3; have i4 := H2f.out.free 4; have i5 := H2f.out.free 5; have i6 := H2f.out.free 6
        clear o1' o2' o3' hF HG H2 HGs H2s f5
        cases hd : dealB P W X y s u v kd A B
        · have HL := Lib.hid hd
          clear hmay hd
          go_wp2
          have E := (((((((H2f.out.set 0 (.slice none 0 0)).set 1 (.slice none 0 0)).set 2 (.slice none 0 0)).set 3 (.int .i64 0)).set 4 (.int .i64 0)).set 5 (.int .i64 0)).set 6 (.int .i64 0))
          simp only [List.setIfInBounds_toArray, List.set_cons_zero, List.set_cons_succ] at E
          refine bodyPost_ret (results_HB Try.results44 _ _ (w.heap.size + 1 + 1) _ _ _ _ _ _ _ _ rfl rfl (E.cell rfl) (E.cell rfl) (E.cell rfl) (E.cell rfl) (E.cell rfl) (E.cell rfl) (E.cell rfl)) rfl ?_
          rw [HL.out]
          refine ⟨none, 0, 0, none, 0, 0, none, 0, 0, w.heap.size, w.heap.size, rfl, Own.nil _ _, Own.nil _ _, Own.nil _ _, fun k hk => by simp [blkOf] at hk, fun k hk => by simp [blkOf] at hk, Nat.le_refl _, Nat.le_refl _, ?_, ?_, by omega, by omega, by omega⟩
          · have := hFs.size; simpa using this
          · iterate 7 refine Fr.setCell ?_ (by dsimp only; omega) _
            exact hFs
        · have HL := Lib.hid hd
          simp only [List.setIfInBounds_toArray, List.set_cons_zero, List.set_cons_succ] at HGf
          have q0 := HGf.out.cell (j := 0) rfl; have q1 := HGf.out.cell (j := 1) rfl; have q2' := HGf.out.cell (j := 2) rfl; have q3 := HGf.out.cell (j := 3) rfl; have q4 := HGf.out.cell (j := 4) rfl; have q5 := HGf.out.cell (j := 5) rfl; have q6 := HGf.out.cell (j := 6) rfl
          clear hmay hd
          go_wp2
          have E := (((((((H2f.out.set 0 (.slice p2 l2 c2)).set 1 (.slice q2 l2 d2)).set 2 (.slice a2 l2 b2)).set 3 (.int .i64 (dAt y kd A))).set 4 (.int .i64 (dSt s kd A))).set 5 (.int .i64 (dPu X y s u kd A))).set 6 (.int .i64 (v + 1)))
          simp only [List.setIfInBounds_toArray, List.set_cons_zero, List.set_cons_succ] at E
          refine bodyPost_ret (results_HB Try.results44 _ _ (w.heap.size + 1 + 1) _ _ _ _ _ _ _ _ rfl rfl (E.cell rfl) (E.cell rfl) (E.cell rfl) (E.cell rfl) (E.cell rfl) (E.cell rfl) (E.cell rfl)) rfl ?_
          rw [HL.out]
          refine ⟨p2, l2, c2, q2, l2, d2, a2, l2, b2, M, N, rfl, ?_, ?_, ?_, fun k hk => by have := W1 k hk; omega, W2, by omega, y2, by simp; omega, ?_, e1, e2, e3⟩
          · refine Own.mono ?_ (show w.heap.size ≤ w1.heap.size by omega)
            iterate 7 refine Own.past ?_ (by dsimp only; omega) _
            exact o1s
          · iterate 7 refine Own.past ?_ (by dsimp only; omega) _
            exact o2s
          · iterate 7 refine Own.past ?_ (by dsimp only; omega) _
            exact o3s
          · iterate 7 refine Fr.setCell ?_ (by dsimp only; omega) _
            exact hFs

end Go.Proofs.Ytojipjjfndgbhaa
