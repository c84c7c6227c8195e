import Derived.Test.YtojipjjfndgbhaaMeans2
import Derived.Test.YtojipjjfndgbhaaNewHouse
/- Contracts of PriceMean. -/
set_option linter.unusedVariables false
namespace Go.Proofs.Ytojipjjfndgbhaa
open Go.ChangeShapes Go.WideShapes Go.ChangeAt Go.RowKit

theorem results_FB {fn : Func} {k r : Nat} (hr : fn.results = #[.cell k 46, .tmp r]) (tmps : Array Value) (w : World) (g : Nat) (v0 v1 : Value) (bb : Value) (h : tmps[k]?.getD undef = .pointer (some ⟨g, 0, none⟩)) (hb : tmps[r]?.getD undef = bb)
    (h0 : w.cell? ⟨g, 0, none⟩ = some v0) (h1 : w.cell? ⟨g, 1, none⟩ = some v1) : (results fn tmps).run Try.prog w = .ok (.tuple #[.agg #[v0, v1], bb]) w := by
  simp [results, hr, go_sem, h, hb, h0, h1]
theorem results_F {fn : Func} {k : Nat} (hr : fn.results = #[.cell k 46]) (tmps : Array Value) (w : World) (g : Nat) (v0 v1 : Value) (h : tmps[k]?.getD undef = .pointer (some ⟨g, 0, none⟩))
    (h0 : w.cell? ⟨g, 0, none⟩ = some v0) (h1 : w.cell? ⟨g, 1, none⟩ = some v1) : (results fn tmps).run Try.prog w = .ok (.agg #[v0, v1]) w := by
  simp [results, hr, go_sem, h, h0, h1]

/-- The prices of the first k ends. -/
def pvTo (P X : List Int) (k : Nat) : List Int := (List.range k).map fun i => nth X (nth (endsM P) i).toNat
def pvM (P X : List Int) : List Int := pvTo P X (endsM P).length
theorem pvTo_len (P X : List Int) (k : Nat) : (pvTo P X k).length = k := by simp [pvTo]
theorem pvTo_succ (P X : List Int) (k : Nat) : pvTo P X (k + 1) = pvTo P X k ++ [nth X (nth (endsM P) k).toNat] := by simp [pvTo, List.range_succ]
theorem pv_bd {P X : List Int} (h : ∀ i, -999 ≤ nth X i ∧ nth X i ≤ 999) (k i : Nat) : -999 ≤ nth (pvTo P X k) i ∧ nth (pvTo P X k) i ≤ 999 := by
  by_cases hi : i < k
  · have : nth (pvTo P X k) i = nth X (nth (endsM P) i).toNat := by rw [nth_eq (by rw [pvTo_len]; exact hi)]; simp [pvTo]
    rw [this]; exact h _
  · rw [nth_out (by rw [pvTo_len]; omega)]; omega
def pmV (P W X : List Int) (x s u v : Int) : Int × Int := bif houseB P W X x s u v then meanP P W (pvM P X) x.toNat else (0, 0)
theorem houseB_parts {P W X : List Int} {x s u v : Int} (h : houseB P W X x s u v = true) : treeB P W = true ∧ procB P X = true ∧ 0 ≤ x ∧ x < P.length := by
  simp only [houseB, l3B, Bool.and_eq_true, inB_iff] at h
  obtain ⟨⟨⟨⟨⟨h1, h2⟩, h3⟩, _⟩, _⟩, _⟩ := h
  exact ⟨h1, h2, by omega, by omega⟩
theorem meansM_nth {P W V : List Int} {i : Nat} (h : i < P.length) : nthP (meansM P W V) i = meanP P W V i := by simp [nthP, meansM, meansTo, h]
theorem meansM_len (P W V : List Int) : (meansM P W V).length = P.length := by simp [meansM, meansTo]

set_option maxRecDepth 100000 in
set_option maxHeartbeats 1000000 in
theorem impl_PriceMean_any (w : World) (p q a : Option Addr) (n c m d l b : Nat) (P W X : List Int) (x s u v : Int) (hP : SL w p n c P) (hW : SL w q m d W) (hX : SL w a l b X) :
    Calls Try.prog 32 #[.agg #[.slice p n c, .slice q m d, .slice a l b, .int .i64 x, .int .i64 s, .int .i64 u, .int .i64 v]] w fun e w' => e = .returned (.tuple #[.agg #[.int .i64 (pmV P W X x s u v).1, .int .i64 (pmV P W X x s u v).2], .bool (houseB P W X x s u v)]) ∧ Fr w w' := by
  have HP := Lib.hid hP.len
  have HX := Lib.hid hX.len
  have hfr : Fr w ((w.alloc (.cells #[.slice p n c, .slice q m d, .slice a l b, .int .i64 x, .int .i64 s, .int .i64 u, .int .i64 v] 31)).alloc (.cells #[.int .i64 0, .int .i64 0] 46)) := ((Fr.refl w).alloc _).alloc _
  have hb0 := (Blk.new w #[.slice p n c, .slice q m d, .slice a l b, .int .i64 x, .int .i64 s, .int .i64 u, .int .i64 v] 31).alloc (.cells #[.int .i64 0, .int .i64 0] 46)
  have hb1 := Blk.new (w.alloc (.cells #[.slice p n c, .slice q m d, .slice a l b, .int .i64 x, .int .i64 s, .int .i64 u, .int .i64 v] 31)) #[.int .i64 0, .int .i64 0] 46
  rw [World.size_alloc] at hb1
  have H0 := Lib.hid hb0; have H1 := Lib.hid hb1
  clear hb0 hb1
  have c0 := H0.out.cell (j := 0) rfl; have c1 := H0.out.cell (j := 1) rfl; have c2 := H0.out.cell (j := 2) rfl; have c3 := H0.out.cell (j := 3) rfl; have c4 := H0.out.cell (j := 4) rfl; have c5 := H0.out.cell (j := 5) rfl; have c6 := H0.out.cell (j := 6) rfl
  go_enter Try.func32, Try.ntmps32
  go_wp2_with fail
  clear c0 c1 c2 c3 c4 c5 c6
  refine (impl_IsHouse_any _ _ _ _ _ _ _ _ _ _ _ _ _ (hP.fr hfr) (hW.fr hfr) (hX.fr hfr) _ _ _ _).mono ?_
  rintro e w1 ⟨rfl, f1⟩
  have hF1 := hfr.trans f1
  have G0 := Lib.hid (H0.out.fr f1); have G1 := Lib.hid (H1.out.fr f1)
  cases h : houseB P W X x s u v
  · have HB := Lib.hid h
    have HH : Hid (pmV P W X x s u v = (0, 0)) := Lib.hid (by rw [pmV, h]; rfl)
    have j0 := G1.out.cell (j := 0) rfl; have j1 := G1.out.cell (j := 1) rfl
    have i0 := G1.out.free 0; have i1 := G1.out.free 1
    go_wp2
    have E := (G1.out.set 0 (.int .i64 0)).set 1 (.int .i64 0)
    refine bodyPost_ret (results_FB Try.results32 _ _ (w.heap.size + 1) (.int .i64 0) (.int .i64 0) _ rfl rfl (E.cell rfl) (E.cell rfl)) rfl ?_
    refine ⟨by rw [HH.out, HB.out]; rfl, ?_⟩
    iterate 2 refine Fr.setCell ?_ (by dsimp only; omega) _
    exact hF1
  · have HB := Lib.hid h
    obtain ⟨t1, t2, t3, t4⟩ := houseB_parts h
    have HH : Hid (pmV P W X x s u v = meanP P W (pvM P X) x.toNat) := Lib.hid (by rw [pmV, h]; rfl)
    have Ht := Lib.hid t1
    have Hv := Lib.hid (nth_bd (procB_iff.1 t2).2 (by omega) (by omega))
    obtain ⟨g1, _, g3, _⟩ := treeB_iff.1 t1
    have Hp := Lib.hid g3
    have hln : l = n := by rw [← HX.out, ← HP.out]; exact (procB_iff.1 t2).1
    subst hln
    rw [HP.out] at g1 t4
    obtain ⟨y, rfl⟩ := Int.eq_ofNat_of_zero_le t3
    clear t1 t2 g3 t3
    have k0 := G0.out.cell (j := 0) rfl; have k1 := G0.out.cell (j := 1) rfl
    have c0 := (G0.out.alloc (.cells #[] 3)).cell (j := 0) rfl; have c1 := (G0.out.alloc (.cells #[] 3)).cell (j := 1) rfl
    have hm0 := Own.made0 (B := w1.heap.size) w1 (Nat.le_refl _)
    have hfa : Fr w1 (w1.alloc (.cells #[] 3)) := (Fr.refl _).alloc _
    go_wp2_with fail
    clear k0 k1 c0 c1 h
    refine (ends_any _ _ _ _ _ _ _ _ (hP.fr (hF1.trans hfa)) Hp.out (by omega)).mono ?_
    rintro e w2 ⟨a2, n2, c2, rfl, o2, f2, m2⟩
    have Hn2 := Lib.hid o2.len
    have z2 := f2.size
    simp only [World.size_alloc] at z2 o2
    have hm2 := hm0.fr f2
    have F2 : Fr w1 w2 := hfa.trans f2
    have x2 := o2.within
    go_wp2
    go_loopw [4, 16] (fun vv i wr => ∃ (k cc : Nat) (ap : Option Addr), k ≤ n2 ∧ i = .int .i64 k ∧ vv = .slice ap k cc ∧ Own w1.heap.size wr ap k cc (pvTo P X k) ∧ SL wr a2 n2 c2 (endsM P) ∧ Apart ap a2 ∧ Fr w1 wr) (fun _ i _ => n2 - (intOf i).toNat)
    case atStart => exact ⟨0, 0, _, by omega, rfl, rfl, by simpa [pvTo] using hm2, o2.sl, fun k h1 h2 => by simp [blkOf] at h1; have := x2 k h2; omega, F2⟩
    case round =>
      have B2 : Hid (∀ k, blkOf a2 = some k → k < w2.heap.size) := Lib.hid (fun k hk => (x2 k hk).2)
      clear hm0 hm2 o2 F2 f2 hfa
      obtain ⟨k, cc, ap, hk, rfl, rfl, oP, he, apE, hF⟩ := hrel
      have hFw := hF1.trans hF
      by_cases hlt : k < n2
      · obtain ⟨z, hz, hzl, _⟩ := ends_nth (P := P) (i := k) (by rw [Hn2.out]; exact hlt)
        rw [HP.out] at hzl
        obtain ⟨b2, of2, rfl, hce⟩ := he.cells.resolve_left (by omega)
        replace hce := hce k hlt
        have HS : Hid (pvTo P X (k + 1) = pvTo P X k ++ [nth X z]) := Lib.hid (by rw [pvTo_succ, hz]; rfl)
        rw [hz] at hce
        clear hz
        obtain ⟨bx, ox, rfl, hcx⟩ := (hX.fr hFw).cells.resolve_left (by omega)
        replace hcx := hcx z hzl
        have k2 := (G0.out.fr hF).cell (j := 2) rfl
        have b1 := Hv.out z
        have hsz := hF.size
        go_wp2_with (at_builtin; refine ap_int _ rfl _ _ rfl w1.heap.size ap k cc _ _ rfl rfl oP hsz (by unfold I64; omega) (by omega) ?_)
        intro g' c' w' q1 q2 q3
        have he2 := he.grown q2 (by
          cases hx : blkOf (some (⟨b2, of2, none⟩ : Addr)) with
          | none => exact .inl rfl
          | some zz => exact .inr fun e => apE zz e.symm hx)
        have ap2 : Apart (some ⟨g', 0, none⟩) (some ⟨b2, of2, none⟩) := by
          intro zz h1 h2
          simp only [blkOf, Option.map_some, Option.some.injEq] at h1
          subst h1
          rcases q3 with h | h
          · exact apE _ h h2
          · have := World.block_lt_of_cell? wr _ hce
            simp only [blkOf, Option.map_some, Option.some.injEq] at h2
            simp only at this; omega
        have hF3 := hF.grown q2 (fun zz hzz => (oP.blk zz hzz).1)
        go_wp2
        go_roundw
        case rel => exact ⟨k + 1, c', _, by omega, by go_num, rfl, by rw [HS.out]; exact q1, he2, ap2, hF3⟩
        case measure => simp [intOf]; omega
      · obtain rfl : k = n2 := by omega
        have HM : Hid (pvTo P X k = pvM P X) := Lib.hid (by rw [pvM, Hn2.out])
        rw [HM.out] at oP
        have J0 := Lib.hid (G0.out.fr hF); have J1 := Lib.hid (G1.out.fr hF)
        have c0 := J0.out.cell (j := 0) rfl; have c1 := J0.out.cell (j := 1) rfl; have c2' := J0.out.cell (j := 3) rfl
        have j0 := J1.out.cell (j := 0) rfl; have j1 := J1.out.cell (j := 1) rfl
        have fz0 := J1.out.free 0; have fz1 := J1.out.free 1
        have hP1 := hP.fr hFw
        have hW1 := hW.fr hFw
        have hvv : Hid (∀ i, -999 ≤ nth (pvM P X) i ∧ nth (pvM P X) i ≤ 999) := Lib.hid (fun i => pv_bd Hv.out _ i)
        go_wp2
        have d0 := (J0.out.fr (Fr.drewN wr 1)).cell (j := 0) rfl; have d1 := (J0.out.fr (Fr.drewN wr 1)).cell (j := 1) rfl; have d2 := (J0.out.fr (Fr.drewN wr 1)).cell (j := 3) rfl
        go_region_with
          ((go_at_call 81; refine (means_any _ _ _ _ _ _ _ _ _ _ _ _ _ (hP1.fr (by first | exact (Fr.refl wr).drew' 1 | exact Fr.drewN wr 1)) (hW1.fr (by first | exact (Fr.refl wr).drew' 1 | exact Fr.drewN wr 1)) (oP.sl.fr (by first | exact (Fr.refl wr).drew' 1 | exact Fr.drewN wr 1)) Ht.out Hn2.out.symm hvv.out).mono ?_; rintro e w3 ⟨a3, n3, c3, rfl, o3, f3', _⟩; have f3 : Fr wr w3 := (by first | exact ((Fr.refl wr).drew' 1).trans f3' | exact (Fr.drewN wr 1).trans f3'); have N3 : n3 = l := (by rw [← o3.len, meansM_len, HP.out]); subst N3; obtain ⟨g3, rfl, hg1, hg2, hcap, hc3⟩ := o3.op (by omega); obtain ⟨hy0, hy1⟩ := hc3 y (by omega); rw [meansM_nth (by rw [HP.out]; omega), Nat.mul_comm 2 y] at hy0 hy1; have ha3 := f3.size; have k2 := (J0.out.fr f3).cell (j := 3) rfl; have p0 := (J1.out.fr f3).cell (j := 0) rfl; have p1 := (J1.out.fr f3).cell (j := 1) rfl; have q0 := (J1.out.fr f3).free 0; have q1 := (J1.out.fr f3).free 1))
        all_goals
          have E := ((J1.out.fr f3).set 0 (.int .i64 (meanP P W (pvM P X) y).1)).set 1 (.int .i64 (meanP P W (pvM P X) y).2)
          simp only [List.setIfInBounds_toArray, List.set_cons_zero, List.set_cons_succ] at E
          go_wp2
          refine bodyPost_ret (results_FB Try.results32 _ _ (w.heap.size + 1) (.int .i64 (meanP P W (pvM P X) y).1) (.int .i64 (meanP P W (pvM P X) y).2) _ rfl rfl (E.cell rfl) (E.cell rfl)) rfl ?_
          refine ⟨by rw [HH.out, HB.out]; rfl, ?_⟩
          iterate 2 refine Fr.setCell ?_ (by dsimp only; omega) _
          exact hFw.trans f3

end Go.Proofs.Ytojipjjfndgbhaa
