import Derived.Test.YtojipjjfndgbhaaZH10
import Derived.Test.YtojipjjfndgbhaaZH11
/- Contracts of PriceMean. -/
set_option linter.unusedVariables false
namespace Go.Proofs.Ytojipjjfndgbhaa
open Go.ChangeShapes Go.WideShapes Go.ChangeAt Go.RowKit

theorem results_FB {fn : Func} {k r : Nat} (hr : fn.results = #[.cell k 46, .tmp r]) (tmps : Array Value) (w : World) (g : Nat) (v0 v1 : Value) (bb : Value) (h : tmps[k]?.getD undef = .pointer (some ⟨g, 0, none⟩)) (hb : tmps[r]?.getD undef = bb)
    (h0 : w.cell? ⟨g, 0, none⟩ = some v0) (h1 : w.cell? ⟨g, 1, none⟩ = some v1) : (results fn tmps).run Try.prog w = .ok (.tuple #[.agg #[v0, v1], bb]) w := by
  simp [results, hr, go_sem, h, hb, h0, h1]
theorem results_F {fn : Func} {k : Nat} (hr : fn.results = #[.cell k 46]) (tmps : Array Value) (w : World) (g : Nat) (v0 v1 : Value) (h : tmps[k]?.getD undef = .pointer (some ⟨g, 0, none⟩))
    (h0 : w.cell? ⟨g, 0, none⟩ = some v0) (h1 : w.cell? ⟨g, 1, none⟩ = some v1) : (results fn tmps).run Try.prog w = .ok (.agg #[v0, v1]) w := by
  simp [results, hr, go_sem, h, h0, h1]

/-- The prices of the first k ends. -/
def pvTo (P X : List Int) (k : Nat) : List Int := (List.range k).map fun i => nth X (nth (endsM P) i).toNat
def pvM (P X : List Int) : List Int := pvTo P X (endsM P).length
theorem pvTo_len (P X : List Int) (k : Nat) : (pvTo P X k).length = k := by simp [pvTo]
theorem pvTo_succ (P X : List Int) (k : Nat) : pvTo P X (k + 1) = pvTo P X k ++ [nth X (nth (endsM P) k).toNat] := by simp [pvTo, List.range_succ]
theorem pv_bd {P X : List Int} (h : ∀ i, -999 ≤ nth X i ∧ nth X i ≤ 999) (k i : Nat) : -999 ≤ nth (pvTo P X k) i ∧ nth (pvTo P X k) i ≤ 999 := by
  by_cases hi : i < k
  · have : nth (pvTo P X k) i = nth X (nth (endsM P) i).toNat := by rw [nth_eq (by rw [pvTo_len]; exact hi)]; simp [pvTo]
    rw [this]; exact h _
  · rw [nth_out (by rw [pvTo_len]; omega)]; omega
def pmV (P W X : List Int) (x s u v : Int) : Int × Int := bif houseB P W X x s u v then meanP P W (pvM P X) x.toNat else (0, 0)
theorem houseB_parts {P W X : List Int} {x s u v : Int} (h : houseB P W X x s u v = true) : treeB P W = true ∧ procB P X = true ∧ 0 ≤ x ∧ x < P.length := by
  simp only [houseB, l3B, Bool.and_eq_true, inB_iff] at h
  obtain ⟨⟨⟨⟨⟨h1, h2⟩, h3⟩, _⟩, _⟩, _⟩ := h
  exact ⟨h1, h2, by omega, by omega⟩
theorem meansM_nth {P W V : List Int} {i : Nat} (h : i < P.length) : nthP (meansM P W V) i = meanP P W V i := by simp [nthP, meansM, meansTo, h]
theorem meansM_len (P W V : List Int) : (meansM P W V).length = P.length := by simp [meansM, meansTo]

set_option maxRecDepth 100000 in
set_option maxHeartbeats 1000000 in
theorem impl_PriceMean_any (w : World) (p q a : Option Addr) (n c m d l b : Nat) (P W X : List Int) (x s u v : Int) (hP : SL w p n c P) (hW : SL w q m d W) (hX : SL w a l b X) :
    Calls Try.prog 32 #[.agg #[.slice p n c, .slice q m d, .slice a l b, .int .i64 x, .int .i64 s, .int .i64 u, .int .i64 v]] w fun e w' => e = .returned (.tuple #[.agg #[.int .i64 (pmV P W X x s u v).1, .int .i64 (pmV P W X x s u v).2], .bool (houseB P W X x s u v)]) ∧ Fr w w' := by
  have HP := Lib.hid hP.len
  have HX := Lib.hid hX.len
  have hfr : Fr w ((w.alloc (.cells #[.slice p n c, .slice q m d, .slice a l b, .int .i64 x, .int .i64 s, .int .i64 u, .int .i64 v] 31)).alloc (.cells #[.int .i64 0, .int .i64 0] 46)) := ((Fr.refl w).alloc _).alloc _
  have hb0 := (Blk.new w #[.slice p n c, .slice q m d, .slice a l b, .int .i64 x, .int .i64 s, .int .i64 u, .int .i64 v] 31).alloc (.cells #[.int .i64 0, .int .i64 0] 46)
  have hb1 := Blk.new (w.alloc (.cells #[.slice p n c, .slice q m d, .slice a l b, .int .i64 x, .int .i64 s, .int .i64 u, .int .i64 v] 31)) #[.int .i64 0, .int .i64 0] 46
  rw [World.size_alloc] at hb1
  have H0 := Lib.hid hb0; have H1 := Lib.hid hb1
  clear hb0 hb1
  have c0 := H0.out.cell (j := 0) rfl; have c1 := H0.out.cell (j := 1) rfl; have c2 := H0.out.cell (j := 2) rfl; have c3 := H0.out.cell (j := 3) rfl; have c4 := H0.out.cell (j := 4) rfl; have c5 := H0.out.cell (j := 5) rfl; have c6 := H0.out.cell (j := 6) rfl
  go_enter Try.func32, Try.ntmps32
  go_wp2_with fail
  clear c0 c1 c2 c3 c4 c5 c6
  refine (impl_IsHouse_any _ _ _ _ _ _ _ _ _ _ _ _ _ (hP.fr hfr) (hW.fr hfr) (hX.fr hfr) _ _ _ _).mono ?_
  rintro e w1 ⟨rfl, f1⟩
  have hF1 := hfr.trans f1
  have G0 := Lib.hid (H0.out.fr f1); have G1 := Lib.hid (H1.out.fr f1)
  cases h : houseB P W X x s u v
  · have HB := Lib.hid h
    have HH : Hid (pmV P W X x s u v = (0, 0)) := Lib.hid (by rw [pmV, h]; rfl)
    have j0 := G1.out.cell (j := 0) rfl; have j1 := G1.out.cell (j := 1) rfl
    have i0 := G1.out.free 0; have i1 := G1.out.free 1
    go_wp2
    have E := (G1.out.set 0 (.int .i64 0)).set 1 (.int .i64 0)
    refine bodyPost_ret (results_FB Try.results32 _ _ (w.heap.size + 1) (.int .i64 0) (.int .i64 0) _ rfl rfl (E.cell rfl) (E.cell rfl)) rfl ?_
    refine ⟨by rw [HH.out, HB.out]; rfl, ?_⟩
    iterate 2 refine Fr.setCell ?_ (by dsimp only; omega) _
    exact hF1
  · have HB := Lib.hid h
    obtain ⟨t1, t2, t3, t4⟩ := houseB_parts h
    have HH : Hid (pmV P W X x s u v = meanP P W (pvM P X) x.toNat) := Lib.hid (by rw [pmV, h]; rfl)
    have Ht := Lib.hid t1
    have Hv := Lib.hid (nth_bd (procB_iff.1 t2).2 (by omega) (by omega))
    obtain ⟨g1, _, g3, _⟩ := treeB_iff.1 t1
    have Hp := Lib.hid g3
    have hln : l = n := by rw [← HX.out, ← HP.out]; exact (procB_iff.1 t2).1
    subst hln
    rw [HP.out] at g1 t4
    obtain ⟨y, rfl⟩ := Int.eq_ofNat_of_zero_le t3
    clear t1 t2 g3 t3
    have k0 := G0.out.cell (j := 0) rfl; have k1 := G0.out.cell (j := 1) rfl
    have c0 := (G0.out.alloc (.cells #[] 3)).cell (j := 0) rfl; have c1 := (G0.out.alloc (.cells #[] 3)).cell (j := 1) rfl
    have hm0 := Own.made0 (B := w1.heap.size) w1 (Nat.le_refl _)
    have hfa : Fr w1 (w1.alloc (.cells #[] 3)) := (Fr.refl _).alloc _
    go_wp2_with fail
    clear k0 k1 c0 c1 h
    refine (ends_any _ _ _ _ _ _ _ _ (hP.fr (hF1.trans hfa)) Hp.out (by omega)).mono ?_
    rintro e w2 ⟨a2, n2, c2, rfl, o2, f2, m2⟩
    have Hn2 := Lib.hid o2.len
    have z2 := f2.size
    simp only [World.size_alloc] at z2 o2
    have hm2 := hm0.fr f2
    have F2 : Fr w1 w2 := hfa.trans f2
    have x2 := o2.within
    go_wp2
    go_loopw [4, 16] (fun vv i wr => ∃ (k cc : Nat) (ap : Option Addr), k ≤ n2 ∧ i = .int .i64 k ∧ vv = .slice ap k cc ∧ Own w1.heap.size wr ap k cc (pvTo P X k) ∧ SL wr a2 n2 c2 (endsM P) ∧ Apart ap a2 ∧ Fr w1 wr) (fun _ i _ => n2 - (intOf i).toNat)
    case atStart => exact ⟨0, 0, _, by omega, rfl, rfl, by simpa [pvTo] using hm2, o2.sl, fun k h1 h2 => by simp [blkOf] at h1; have := x2 k h2; omega, F2⟩
    case round =>
      have B2 : Hid (∀ k, blkOf a2 = some k → k < w2.heap.size) := Lib.hid (fun k hk => (x2 k hk).2)
      clear hm0 hm2 o2 F2 f2 hfa
      obtain ⟨k, cc, ap, hk, rfl, rfl, oP, he, apE, hF⟩ := hrel
      have hFw := hF1.trans hF
      by_cases hlt : k < n2
      · obtain ⟨z, hz, hzl, _⟩ := ends_nth (P := P) (i := k) (by rw [Hn2.out]; exact hlt)
        rw [HP.out] at hzl
        obtain ⟨b2, of2, rfl, hce⟩ := he.cells.resolve_left (by omega)
        replace hce := hce k hlt
        have HS : Hid (pvTo P X (k + 1) = pvTo P X k ++ [nth X z]) := Lib.hid (by rw [pvTo_succ, hz]; rfl)
        rw [hz] at hce
        clear hz
        obtain ⟨bx, ox, rfl, hcx⟩ := (hX.fr hFw).cells.resolve_left (by omega)
        replace hcx := hcx z hzl
        have k2 := (G0.out.fr hF).cell (j := 2) rfl
        have b1 := Hv.out z
        have hsz := hF.size
        go_wp2_with (at_builtin; refine ap_int _ rfl _ _ rfl w1.heap.size ap k cc _ _ rfl rfl oP hsz (by unfold I64; omega) (by omega) ?_)
        intro g' c' w' q1 q2 q3
        have he2 := he.grown q2 (by
          cases hx : blkOf (some (⟨b2, of2, none⟩ : Addr)) with
          | none => exact .inl rfl
          | some zz => exact .inr fun e => apE zz e.symm hx)
        have ap2 : Apart (some ⟨g', 0, none⟩) (some ⟨b2, of2, none⟩) := by
          intro zz h1 h2
          simp only [blkOf, Option.map_some, Option.some.injEq] at h1
          subst h1
          rcases q3 with h | h
          · exact apE _ h h2
          · have := World.block_lt_of_cell? wr _ hce
            simp only [blkOf, Option.map_some, Option.some.injEq] at h2
            simp only at this; omega
        have hF3 := hF.grown q2 (fun zz hzz => (oP.blk zz hzz).1)
        go_wp2
        go_roundw
        case rel => exact ⟨k + 1, c', _, by omega, by go_num, rfl, by rw [HS.out]; exact q1, he2, ap2, hF3⟩
        case measure => simp [intOf]; omega
      · obtain rfl : k = n2 := by omega
        have HM : Hid (pvTo P X k = pvM P X) := Lib.hid (by rw [pvM, Hn2.out])
        rw [HM.out] at oP
        have J0 := Lib.hid (G0.out.fr hF); have J1 := Lib.hid (G1.out.fr hF)
        have c0 := J0.out.cell (j := 0) rfl; have c1 := J0.out.cell (j := 1) rfl; have c2' := J0.out.cell (j := 3) rfl
        have j0 := J1.out.cell (j := 0) rfl; have j1 := J1.out.cell (j := 1) rfl
        have fz0 := J1.out.free 0; have fz1 := J1.out.free 1
        have hP1 := hP.fr hFw
        have hW1 := hW.fr hFw
        have hvv : Hid (∀ i, -999 ≤ nth (pvM P X) i ∧ nth (pvM P X) i ≤ 999) := Lib.hid (fun i => pv_bd Hv.out _ i)
        go_wp2
        have d0 := (J0.out.fr (Fr.drewN wr 1)).cell (j := 0) rfl; have d1 := (J0.out.fr (Fr.drewN wr 1)).cell (j := 1) rfl; have d2 := (J0.out.fr (Fr.drewN wr 1)).cell (j := 3) rfl
        go_region_with
          ((go_at_call 81; refine (means_any _ _ _ _ _ _ _ _ _ _ _ _ _ (hP1.fr (by first | exact (Fr.refl wr).drew' 1 | exact Fr.drewN wr 1)) (hW1.fr (by first | exact (Fr.refl wr).drew' 1 | exact Fr.drewN wr 1)) (oP.sl.fr (by first | exact (Fr.refl wr).drew' 1 | exact Fr.drewN wr 1)) Ht.out Hn2.out.symm hvv.out).mono ?_; rintro e w3 ⟨a3, n3, c3, rfl, o3, f3', _⟩; have f3 : Fr wr w3 := (by first | exact ((Fr.refl wr).drew' 1).trans f3' | exact (Fr.drewN wr 1).trans f3'); have N3 : n3 = l := (by rw [← o3.len, meansM_len, HP.out]); subst N3; obtain ⟨g3, rfl, hg1, hg2, hcap, hc3⟩ := o3.op (by omega); obtain ⟨hy0, hy1⟩ := hc3 y (by omega); rw [meansM_nth (by rw [HP.out]; omega), Nat.mul_comm 2 y] at hy0 hy1; have ha3 := f3.size; have k2 := (J0.out.fr f3).cell (j := 3) rfl; have p0 := (J1.out.fr f3).cell (j := 0) rfl; have p1 := (J1.out.fr f3).cell (j := 1) rfl; have q0 := (J1.out.fr f3).free 0; have q1 := (J1.out.fr f3).free 1))
        all_goals
          have E := ((J1.out.fr f3).set 0 (.int .i64 (meanP P W (pvM P X) y).1)).set 1 (.int .i64 (meanP P W (pvM P X) y).2)
          simp only [List.setIfInBounds_toArray, List.set_cons_zero, List.set_cons_succ] at E
          go_wp2
          refine bodyPost_ret (results_FB Try.results32 _ _ (w.heap.size + 1) (.int .i64 (meanP P W (pvM P X) y).1) (.int .i64 (meanP P W (pvM P X) y).2) _ rfl rfl (E.cell rfl) (E.cell rfl)) rfl ?_
          refine ⟨by rw [HH.out, HB.out]; rfl, ?_⟩
          iterate 2 refine Fr.setCell ?_ (by dsimp only; omega) _
          exact hFw.trans f3

end Go.Proofs.Ytojipjjfndgbhaa
/- Deals of houses: plain part. -/
set_option linter.unusedVariables false
namespace Go.Proofs.Ytojipjjfndgbhaa
open Go.ChangeShapes Go.WideShapes Go.ChangeAt Go.RowKit

def mayB (P : List Int) (t kd A B : Int) : Bool :=
  if kd = 1 then (B == 0) && decide (A ∈ kidsTo P t.toNat P.length)
  else if kd = 2 then B == 0
  else if kd = 3 then (B == 0) && inB A (-999) 999
  else if kd = 4 then (A == 0) && (B == 0)
  else if kd = 5 then inB A 0 ((P.length : Int) - 1)
  else if kd = 6 then decide (A ∈ endsM P)
  else false
def dW (W : List Int) (kd A B : Int) : List Int := if kd = 6 then W.set A.toNat B else W
def dX (X : List Int) (kd A B : Int) : List Int := if kd = 5 then X.set A.toNat B else X
def dAt (t kd A : Int) : Int := if kd = 1 then A else if kd = 4 then 0 else t
def dSt (s kd A : Int) : Int := if kd = 2 then A else s
def dPu (X : List Int) (t s u kd A : Int) : Int := if kd = 1 then u + s * (nth X A.toNat - nth X t.toNat) else if kd = 3 then u + A else u
def doneB (P W X : List Int) (t s u v kd A B : Int) : Bool := houseB P (dW W kd A B) (dX X kd A B) (dAt t kd A) (dSt s kd A) (dPu X t s u kd A) (v + 1)
/-- A deal of a valid house is possible. -/
def goB (P W X : List Int) (t s u v kd A B : Int) : Bool := mayB P t kd A B && doneB P W X t s u v kd A B
def dealB (P W X : List Int) (t s u v kd A B : Int) : Bool := houseB P W X t s u v && goB P W X t s u v kd A B
def dV (b : Bool) (x : Int) : Int := bif b then x else 0
theorem kids_mem {P : List Int} {x k : Nat} {A : Int} : A ∈ kidsTo P x k ↔ ∃ y : Nat, A = (y : Int) ∧ y < k ∧ nth P y = (x : Int) := by
  simp only [kidsTo, List.mem_map, List.mem_filter, List.mem_range, beq_iff_eq]
  exact ⟨fun ⟨y, ⟨h1, h2⟩, h3⟩ => ⟨y, h3.symm, h1, h2⟩, fun ⟨y, h3, h1, h2⟩ => ⟨y, ⟨h1, h2⟩, h3.symm⟩⟩
theorem ends_mem {P : List Int} {A : Int} : A ∈ endsM P ↔ ∃ y : Nat, A = (y : Int) ∧ y < P.length ∧ endB P y = true := by
  simp only [endsM, endsTo, List.mem_map, List.mem_filter, List.mem_range]
  exact ⟨fun ⟨y, ⟨h1, h2⟩, h3⟩ => ⟨y, h3.symm, h1, h2⟩, fun ⟨y, h3, h1, h2⟩ => ⟨y, ⟨h1, h2⟩, h3.symm⟩⟩
theorem ends_wei {P W : List Int} (h : treeB P W = true) {A : Int} : A ∈ endsM P ↔ inB A 0 ((P.length : Int) - 1) = true ∧ 0 < nth W A.toNat := by
  rw [ends_mem, inB_iff]
  constructor
  · rintro ⟨y, rfl, hy, he⟩
    have := weiOk_bd ((treeB_iff.1 h).2.2.2 y hy)
    exact ⟨by omega, by rw [Int.toNat_natCast]; exact this.2.2.1 he⟩
  · rintro ⟨h1, h2⟩
    obtain ⟨y, rfl⟩ := Int.eq_ofNat_of_zero_le h1.1
    rw [Int.toNat_natCast] at h2
    have hy : y < P.length := by omega
    exact ⟨y, rfl, hy, (weiOk_bd ((treeB_iff.1 h).2.2.2 y hy)).2.2.2 h2⟩
theorem houseB_all {P W X : List Int} {x s u v : Int} (h : houseB P W X x s u v = true) : (0 ≤ x ∧ x < P.length) ∧ (-20 ≤ s ∧ s ≤ 20) ∧ (-1000000 ≤ u ∧ u ≤ 1000000) ∧ (0 ≤ v ∧ v ≤ 1000) := by
  simp only [houseB, l3B, Bool.and_eq_true, inB_iff] at h
  obtain ⟨⟨⟨⟨⟨h1, h2⟩, h3⟩, h4⟩, h5⟩, h6⟩ := h
  exact ⟨by omega, h4, h5, h6⟩
theorem dPu_bd {s x y : Int} (hs : -20 ≤ s ∧ s ≤ 20) (hx : -999 ≤ x ∧ x ≤ 999) (hy : -999 ≤ y ∧ y ≤ 999) : -39960 ≤ s * (x - y) ∧ s * (x - y) ≤ 39960 := by
  have := natAbs_mul_le (M := 20) (N := 1998) (show ((s).natAbs : Int) ≤ 20 by omega) (show ((x - y).natAbs : Int) ≤ 1998 by omega)
  omega
end Go.Proofs.Ytojipjjfndgbhaa
/- Contracts of spec's PriceMean. -/
set_option linter.unusedVariables false
namespace Go.Proofs.Ytojipjjfndgbhaa
open Go.ChangeShapes Go.WideShapes Go.ChangeAt Go.RowKit

theorem l2Frac_any (w : World) (a b : Int) (ha : -1000000000 ≤ a ∧ a ≤ 1000000000) (hb : 1 ≤ b ∧ b ≤ 1000000) (hg : Int.gcd a b = 1) :
    Calls Try.prog 116 #[.agg #[.int .i64 a, .int .i64 b]] w fun e w' => e = .returned (.bool true) ∧ Fr w w' := by
  have h1 : inB a (-1000000000) 1000000000 = true := inB_iff.2 ha
  have h2 : inB b 1 1000000 = true := inB_iff.2 hb
  have hG : Int.gcd (a.natAbs : Int) b = 1 := by rw [← hg]; simp [Int.gcd]
  have hfr : Fr w (w.alloc (.cells #[.int .i64 a, .int .i64 b] 46)) := (Fr.refl w).alloc _
  have hb0 := Blk.new w #[.int .i64 a, .int .i64 b] 46
  have H0 := Lib.hid hb0
  clear hb0 hg
  have c0 := H0.out.cell (j := 0) rfl; have c1 := H0.out.cell (j := 1) rfl
  go_enter Try.func116, Try.ntmps116
  go_wp2
  go_region_held3 (fun w' => w'.cell? ⟨w.heap.size, 0, none⟩ = some (.int .i64 a) ∧ w'.cell? ⟨w.heap.size, 1, none⟩ = some (.int .i64 b))
    (first
      | go_keep
      | (exact ⟨(H0.out.fr f3).cell rfl, (H0.out.fr f3).cell rfl⟩))
    (first
      | (go_at_call 88; refine (l1In_any _ _ _ _).mono ?_; rintro e w' ⟨rfl, rfl⟩; try simp only [h1, h2])
      | (go_at_call 140; refine (l2Abs_any _ _ (by omega)).mono ?_; rintro e w' ⟨rfl, rfl⟩)
      | (go_at_call 139; refine (l2Gcd_any _ _ _ (by omega) (by omega)).mono ?_; rintro e w3 ⟨rfl, f3'⟩; rw [hG]; have f3 : Fr (w.alloc (.cells #[.int .i64 a, .int .i64 b] 46)) w3 := (by first | exact ((Fr.refl _).drew' 1).trans f3' | exact (Fr.drewN _ 1).trans f3')))
  all_goals
    go_wp2
    go_ret
    exact ⟨rfl, hfr.trans f3⟩

theorem low_frac {p q : Int} (hp : -1000000000 ≤ p ∧ p ≤ 1000000000) (hq : 0 < q ∧ q ≤ 1000000) : (-1000000000 ≤ lowA p q ∧ lowA p q ≤ 1000000000) ∧ (1 ≤ lowB p q ∧ lowB p q ≤ 1000000) ∧ Int.gcd (lowA p q) (lowB p q) = 1 := by
  have hk := lowOk_fit hp hq
  obtain ⟨e1, e2⟩ := lowP_eq hk
  have hg := gcd_pos (a := p) hq.1
  rw [e1, e2]
  simp only [lowOk, Bool.and_eq_true, inB_iff, decide_eq_true_eq] at hk
  have d1 : ((Int.gcd p q : Nat) : Int) ∣ p := Int.gcd_dvd_left p q
  have d2 : ((Int.gcd p q : Nat) : Int) ∣ q := Int.gcd_dvd_right p q
  have t1 : lowP p q = p / (Int.gcd p q : Nat) := by rw [lowP, Int.tdiv_eq_ediv_of_dvd d1]
  have t2 : lowQ p q = q / (Int.gcd p q : Nat) := by rw [lowQ, Int.tdiv_eq_ediv_of_dvd d2]
  have hpos : 1 ≤ lowQ p q := by
    obtain ⟨k, hk2⟩ := d2
    have h3 : lowQ p q = k := by rw [t2]; rw [Int.ediv_eq_of_eq_mul_right (by omega) hk2]
    rw [h3]
    rcases Int.lt_or_le 0 k with h | h
    · omega
    · have := Int.mul_nonpos_of_nonneg_of_nonpos (show (0:Int) ≤ (Int.gcd p q : Nat) by omega) h
      omega
  refine ⟨hk.1, ⟨hpos, hk.2⟩, ?_⟩
  rw [t1, t2]
  exact Int.gcd_ediv_gcd_ediv_gcd_of_ne_zero_right (by omega)

theorem mean_frac {P W V : List Int} (ht : treeB P W = true) (hv : ∀ i, -999 ≤ nth V i ∧ nth V i ≤ 999) {x : Nat} (hx : x < P.length) : (-1000000000 ≤ (meanP P W V x).1 ∧ (meanP P W V x).1 ≤ 1000000000) ∧ (1 ≤ (meanP P W V x).2 ∧ (meanP P W V x).2 ≤ 1000000) ∧ Int.gcd (meanP P W V x).1 (meanP P W V x).2 = 1 := by
  have h1 := sums_pos ht x hx
  have h2 := sums_le ht x
  obtain ⟨g1, _, g3, _⟩ := treeB_iff.1 ht
  have h3 := totals_bd (P := P) (W := W) (V := V) g3 (tree_wei ht) hv g1.2 g1.1 x
  exact low_frac (by omega) (by omega)

theorem l2Kept_any (w : World) (a b : Int) (ha : -1000000000 ≤ a ∧ a ≤ 1000000000) (hb : 1 ≤ b ∧ b ≤ 1000000) (hg : Int.gcd a b = 1) :
    Calls Try.prog 78 #[.agg #[.int .i64 a, .int .i64 b]] w fun e w' => e = .returned (.tuple #[.agg #[.int .i64 a, .int .i64 b], .bool true]) ∧ Fr w w' := by
  have hfr : Fr w ((w.alloc (.cells #[.int .i64 a, .int .i64 b] 46)).alloc (.cells #[.int .i64 0, .int .i64 0] 46)) := ((Fr.refl w).alloc _).alloc _
  have hb0 := (Blk.new w #[.int .i64 a, .int .i64 b] 46).alloc (.cells #[.int .i64 0, .int .i64 0] 46)
  have hb1 := Blk.new (w.alloc (.cells #[.int .i64 a, .int .i64 b] 46)) #[.int .i64 0, .int .i64 0] 46
  rw [World.size_alloc] at hb1
  have H0 := Lib.hid hb0; have H1 := Lib.hid hb1
  clear hb0 hb1
  have c0 := H0.out.cell (j := 0) rfl; have c1 := H0.out.cell (j := 1) rfl
  go_enter Try.func78, Try.ntmps78
  go_wp2_with fail
  clear c0 c1
  refine (l2Frac_any _ _ _ ha hb hg).mono ?_
  rintro e w1 ⟨rfl, f1⟩
  have c0 := (H0.out.fr f1).cell (j := 0) rfl; have c1 := (H0.out.fr f1).cell (j := 1) rfl
  have j0 := (H1.out.fr f1).cell (j := 0) rfl; have j1 := (H1.out.fr f1).cell (j := 1) rfl
  have i0 := (H1.out.fr f1).free 0; have i1 := (H1.out.fr f1).free 1
  go_wp2
  have E := ((H1.out.fr f1).set 0 (.int .i64 a)).set 1 (.int .i64 b)
  simp only [List.setIfInBounds_toArray, List.set_cons_zero, List.set_cons_succ] at E
  refine bodyPost_ret (results_FB Try.results78 _ _ (w.heap.size + 1) (.int .i64 a) (.int .i64 b) _ rfl rfl (E.cell rfl) (E.cell rfl)) rfl ?_
  refine ⟨rfl, ?_⟩
  iterate 2 refine Fr.setCell ?_ (by dsimp only; omega) _
  exact hfr.trans f1

set_option maxRecDepth 100000 in
set_option maxHeartbeats 1000000 in
theorem l12Mean_any (w : World) (p q a : Option Addr) (n c m d l b : Nat) (P W X : List Int) (x s u v : Int) (hP : SL w p n c P) (hW : SL w q m d W) (hX : SL w a l b X) (h : houseB P W X x s u v = true) :
    Calls Try.prog 79 #[.agg #[.slice p n c, .slice q m d, .slice a l b, .int .i64 x, .int .i64 s, .int .i64 u, .int .i64 v]] w fun e w' => e = .returned (.agg #[.int .i64 (meanP P W (pvM P X) x.toNat).1, .int .i64 (meanP P W (pvM P X) x.toNat).2]) ∧ Fr w w' := by
  have HP := Lib.hid hP.len
  have HX := Lib.hid hX.len
  have hfr : Fr w ((w.alloc (.cells #[.slice p n c, .slice q m d, .slice a l b, .int .i64 x, .int .i64 s, .int .i64 u, .int .i64 v] 31)).alloc (.cells #[.int .i64 0, .int .i64 0] 46)) := ((Fr.refl w).alloc _).alloc _
  have hb0 := (Blk.new w #[.slice p n c, .slice q m d, .slice a l b, .int .i64 x, .int .i64 s, .int .i64 u, .int .i64 v] 31).alloc (.cells #[.int .i64 0, .int .i64 0] 46)
  have hb1 := Blk.new (w.alloc (.cells #[.slice p n c, .slice q m d, .slice a l b, .int .i64 x, .int .i64 s, .int .i64 u, .int .i64 v] 31)) #[.int .i64 0, .int .i64 0] 46
  rw [World.size_alloc] at hb1
  have H0 := Lib.hid hb0; have H1 := Lib.hid hb1
  clear hb0 hb1
  obtain ⟨t1, t2, t3, t4⟩ := houseB_parts h
  have Ht := Lib.hid t1
  have Hv := Lib.hid (nth_bd (procB_iff.1 t2).2 (by omega) (by omega))
  obtain ⟨g1, _, g3, _⟩ := treeB_iff.1 t1
  have Hp := Lib.hid g3
  have hln : l = n := by rw [← HX.out, ← HP.out]; exact (procB_iff.1 t2).1
  subst hln
  rw [HP.out] at g1 t4
  obtain ⟨y, rfl⟩ := Int.eq_ofNat_of_zero_le t3
  clear t1 t2 g3 t3 h
  have c0 := H0.out.cell (j := 0) rfl; have c1 := H0.out.cell (j := 1) rfl
  go_enter Try.func79, Try.ntmps79
  go_wp2_with fail
  clear c0 c1
  refine (l2Ends_any _ _ _ _ _ _ _ _ (hP.fr hfr) Hp.out (by omega)).mono ?_
  rintro e w2 ⟨a2, n2, c2, rfl, o2, f2, m2⟩
  have Hn2 := Lib.hid o2.len
  have z2 := f2.size
  simp only [World.size_alloc] at z2 o2
  have hm0 := Own.made0 (B := w2.heap.size) w2 (Nat.le_refl _)
  have hfa : Fr w2 (w2.alloc (.cells #[] 3)) := (Fr.refl _).alloc _
  have hF1 : Fr w w2 := hfr.trans f2
  have G0 := Lib.hid (H0.out.fr f2); have G1 := Lib.hid (H1.out.fr f2)
  have x2 := o2.within
  go_wp2
  go_loopw [4, 5] (fun vv i wr => ∃ (k cc : Nat) (ap : Option Addr), k ≤ n2 ∧ i = .int .i64 k ∧ vv = .slice ap k cc ∧ Own w2.heap.size wr ap k cc (pvTo P X k) ∧ SL wr a2 n2 c2 (endsM P) ∧ Apart ap a2 ∧ Fr w2 wr) (fun _ i _ => n2 - (intOf i).toNat)
  case atStart => exact ⟨0, 0, _, by omega, rfl, rfl, by simpa [pvTo] using hm0, (o2.fr hfa).sl, fun k h1 h2 => by simp [blkOf] at h1; have := x2 k h2; omega, hfa⟩
  case round =>
    have B2 : Hid (∀ k, blkOf a2 = some k → k < w2.heap.size) := Lib.hid (fun k hk => (x2 k hk).2)
    clear hm0 o2 f2 hfa
    obtain ⟨k, cc, ap, hk, rfl, rfl, oP, he, apE, hF⟩ := hrel
    have hFw := hF1.trans hF
    by_cases hlt : k < n2
    · obtain ⟨z, hz, hzl, _⟩ := ends_nth (P := P) (i := k) (by rw [Hn2.out]; exact hlt)
      rw [HP.out] at hzl
      obtain ⟨b2, of2, rfl, hce⟩ := he.cells.resolve_left (by omega)
      replace hce := hce k hlt
      have HS : Hid (pvTo P X (k + 1) = pvTo P X k ++ [nth X z]) := Lib.hid (by rw [pvTo_succ, hz]; rfl)
      rw [hz] at hce
      clear hz
      obtain ⟨bx, ox, rfl, hcx⟩ := (hX.fr hFw).cells.resolve_left (by omega)
      replace hcx := hcx z hzl
      have k2 := (G0.out.fr hF).cell (j := 2) rfl
      have b1 := Hv.out z
      have hsz := hF.size
      obtain ⟨bx', ox', hbx, hcx0⟩ := hX.cells.resolve_left (by omega)
      obtain ⟨rfl, rfl⟩ : bx = bx' ∧ ox = ox' := by simpa using hbx
      have lx := World.block_lt_of_cell? w _ (hcx0 z hzl)
      have le := World.block_lt_of_cell? wr _ hce
      have lw := World.block_lt_of_cell? wr _ k2
      have lx' := World.block_lt_of_cell? wr _ hcx
      clear hcx0 hbx
      have hob := oP.blk
      have e1 : blkOf ap ≠ some w.heap.size := fun e => by have := hob _ e; omega
      have e2 : blkOf ap ≠ some b2 := fun e => apE b2 e rfl
      have e3 : blkOf ap ≠ some bx := fun e => by have := hob _ e; simp only at lx; omega
      go_wp2
      go_region_held3 (fun w' => w'.cell? ⟨w.heap.size, 2, none⟩ = some (.slice (some ⟨bx, ox, none⟩) l b) ∧ w'.cell? ⟨b2, of2 + k, none⟩ = some (.int .i64 z) ∧ w'.cell? ⟨bx, ox + z, none⟩ = some (.int .i64 (nth X z)))
        (first
          | go_keep
          | (go_split_ands
             refine ⟨?_, ?_, ?_⟩
             · (rw [q2'.cell_far _ (by simp; omega) (Ne.symm e1)]; assumption)
             · (rw [q2'.cell_far _ (by simp; omega) (Ne.symm e2)]; assumption)
             · (rw [q2'.cell_far _ (by simp; omega) (Ne.symm e3)]; assumption)))
        ((refine step_ap_int _ rfl _ _ rfl w2.heap.size ap k cc _ (nth X z) wr.heap.size (by rfl) (by rfl) (oP.fr (((Fr.refl _).alloc _).drew' 1)) (by simp; omega) (cell_of_row _ wr.heap.size 0 _ 3 (0, 0) (heap_alloc_new wr _)) (by unfold I64; omega) (by omega) (wr.heap.size + 1) (by simp) ?_; intro g' c' w' q1 q2' q3))
      have q2 : wr.grownBy w' (blkOf ap) := grownBy_trans (Fr.grownBy (((Fr.refl wr).alloc _).drew' 1) _) q2'
      have he2 := he.grown q2 (by
        cases hx : blkOf (some (⟨b2, of2, none⟩ : Addr)) with
        | none => exact .inl rfl
        | some zz => exact .inr fun e => apE zz e.symm hx)
      have ap2 : Apart (some ⟨g', 0, none⟩) (some ⟨b2, of2, none⟩) := by
        intro zz h1 h2
        simp only [blkOf, Option.map_some, Option.some.injEq] at h1
        subst h1
        rcases q3 with h | h
        · exact apE _ h h2
        · have := World.block_lt_of_cell? wr _ hce
          simp only [blkOf, Option.map_some, Option.some.injEq] at h2
          try simp at h
          simp only at this; omega
      have hF3 := hF.grown q2 (fun zz hzz => (oP.blk zz hzz).1)
      go_wp2
      go_roundw
      case rel => exact ⟨k + 1, c', _, by omega, by go_num, rfl, by rw [HS.out]; exact q1, he2, ap2, hF3⟩
      case measure => simp [intOf]; omega
    · obtain rfl : k = n2 := by omega
      have HM : Hid (pvTo P X k = pvM P X) := Lib.hid (by rw [pvM, Hn2.out])
      rw [HM.out] at oP
      have J0 := Lib.hid (G0.out.fr hF); have J1 := Lib.hid (G1.out.fr hF)
      have hP1 := hP.fr hFw
      have hW1 := hW.fr hFw
      have hvv : Hid (∀ i, -999 ≤ nth (pvM P X) i ∧ nth (pvM P X) i ≤ 999) := Lib.hid (fun i => pv_bd Hv.out _ i)
      have c0 := J0.out.cell (j := 0) rfl; have c1 := J0.out.cell (j := 1) rfl; have c2' := J0.out.cell (j := 3) rfl
      have j0 := J1.out.cell (j := 0) rfl; have j1 := J1.out.cell (j := 1) rfl
      have fz0 := J1.out.free 0; have fz1 := J1.out.free 1
      have d0 := (J0.out.fr (Fr.drewN wr 1)).cell (j := 0) rfl; have d1 := (J0.out.fr (Fr.drewN wr 1)).cell (j := 1) rfl; have d2 := (J0.out.fr (Fr.drewN wr 1)).cell (j := 3) rfl
      go_wp2
      go_region_with
        ((go_at_call 85; refine (l2Means_any _ _ _ _ _ _ _ _ _ _ _ _ _ (hP1.fr (by first | exact (Fr.refl wr).drew' 1 | exact Fr.drewN wr 1)) (hW1.fr (by first | exact (Fr.refl wr).drew' 1 | exact Fr.drewN wr 1)) (oP.sl.fr (by first | exact (Fr.refl wr).drew' 1 | exact Fr.drewN wr 1)) Ht.out Hn2.out.symm hvv.out).mono ?_; rintro e w3 ⟨a3, n3, c3, rfl, o3, f3', _⟩; have f3 : Fr wr w3 := (by first | exact ((Fr.refl wr).drew' 1).trans f3' | exact (Fr.drewN wr 1).trans f3'); have N3 : n3 = l := (by rw [← o3.len, meansM_len, HP.out]); subst N3; obtain ⟨g3, rfl, hg1, hg2, hcap, hc3⟩ := o3.op (by omega); obtain ⟨hy0, hy1⟩ := hc3 y (by omega); rw [meansM_nth (by rw [HP.out]; omega), Nat.mul_comm 2 y] at hy0 hy1; have ha3 := f3.size; have k2 := (J0.out.fr f3).cell (j := 3) rfl; have p0 := (J1.out.fr f3).cell (j := 0) rfl; have p1 := (J1.out.fr f3).cell (j := 1) rfl; have q0 := (J1.out.fr f3).free 0; have q1 := (J1.out.fr f3).free 1))
      all_goals
        have E := ((J1.out.fr f3).set 0 (.int .i64 (meanP P W (pvM P X) y).1)).set 1 (.int .i64 (meanP P W (pvM P X) y).2)
        simp only [List.setIfInBounds_toArray, List.set_cons_zero, List.set_cons_succ] at E
        go_wp2
        refine bodyPost_ret (results_F Try.results79 _ _ (w.heap.size + 1) (.int .i64 (meanP P W (pvM P X) y).1) (.int .i64 (meanP P W (pvM P X) y).2) rfl (E.cell rfl) (E.cell rfl)) rfl ?_
        refine ⟨rfl, ?_⟩
        iterate 2 refine Fr.setCell ?_ (by dsimp only; omega) _
        exact hFw.trans f3

set_option maxRecDepth 100000 in
set_option maxHeartbeats 1000000 in
theorem spec_PriceMean_any (w : World) (p q a : Option Addr) (n c m d l b : Nat) (P W X : List Int) (x s u v : Int) (hP : SL w p n c P) (hW : SL w q m d W) (hX : SL w a l b X) :
    Calls Try.prog 31 #[.agg #[.slice p n c, .slice q m d, .slice a l b, .int .i64 x, .int .i64 s, .int .i64 u, .int .i64 v]] w fun e w' => e = .returned (.tuple #[.agg #[.int .i64 (pmV P W X x s u v).1, .int .i64 (pmV P W X x s u v).2], .bool (houseB P W X x s u v)]) ∧ Fr w w' := by
  have hfr : Fr w ((w.alloc (.cells #[.slice p n c, .slice q m d, .slice a l b, .int .i64 x, .int .i64 s, .int .i64 u, .int .i64 v] 31)).alloc (.cells #[.int .i64 0, .int .i64 0] 46)) := ((Fr.refl w).alloc _).alloc _
  have hb0 := (Blk.new w #[.slice p n c, .slice q m d, .slice a l b, .int .i64 x, .int .i64 s, .int .i64 u, .int .i64 v] 31).alloc (.cells #[.int .i64 0, .int .i64 0] 46)
  have hb1 := Blk.new (w.alloc (.cells #[.slice p n c, .slice q m d, .slice a l b, .int .i64 x, .int .i64 s, .int .i64 u, .int .i64 v] 31)) #[.int .i64 0, .int .i64 0] 46
  rw [World.size_alloc] at hb1
  have H0 := Lib.hid hb0; have H1 := Lib.hid hb1
  clear hb0 hb1
  have c0 := H0.out.cell (j := 0) rfl; have c1 := H0.out.cell (j := 1) rfl; have c2 := H0.out.cell (j := 2) rfl; have c3 := H0.out.cell (j := 3) rfl; have c4 := H0.out.cell (j := 4) rfl; have c5 := H0.out.cell (j := 5) rfl; have c6 := H0.out.cell (j := 6) rfl
  go_enter Try.func31, Try.ntmps31
  go_wp2_with fail
  clear c0 c1 c2 c3 c4 c5 c6
  refine (l12Good_any _ _ _ _ _ _ _ _ _ _ _ _ _ (hP.fr hfr) (hW.fr hfr) (hX.fr hfr) _ _ _ _).mono ?_
  rintro e w1 ⟨rfl, f1⟩
  have hF1 := hfr.trans f1
  have G0 := Lib.hid (H0.out.fr f1); have G1 := Lib.hid (H1.out.fr f1)
  cases h : houseB P W X x s u v
  · have HB := Lib.hid h
    have HH : Hid (pmV P W X x s u v = (0, 0)) := Lib.hid (by rw [pmV, h]; rfl)
    have j0 := G1.out.cell (j := 0) rfl; have j1 := G1.out.cell (j := 1) rfl
    have i0 := G1.out.free 0; have i1 := G1.out.free 1
    go_wp2
    have E := (G1.out.set 0 (.int .i64 0)).set 1 (.int .i64 0)
    refine bodyPost_ret (results_FB Try.results31 _ _ (w.heap.size + 1) (.int .i64 0) (.int .i64 0) _ rfl rfl (E.cell rfl) (E.cell rfl)) rfl ?_
    refine ⟨by rw [HH.out, HB.out]; rfl, ?_⟩
    iterate 2 refine Fr.setCell ?_ (by dsimp only; omega) _
    exact hF1
  · have HB := Lib.hid h
    have HH : Hid (pmV P W X x s u v = meanP P W (pvM P X) x.toNat) := Lib.hid (by rw [pmV, h]; rfl)
    obtain ⟨t1, t2, t3, t4⟩ := houseB_parts h
    obtain ⟨m1, m2, m3⟩ := mean_frac (V := pvM P X) t1 (fun i => pv_bd (nth_bd (procB_iff.1 t2).2 (by omega) (by omega)) _ i) (x := x.toNat) (by omega)
    have M := Lib.hid (And.intro m1 (And.intro m2 m3))
    clear m1 m2 m3 t1 t2 t3 t4
    have c0 := G0.out.cell (j := 0) rfl; have c1 := G0.out.cell (j := 1) rfl; have c2 := G0.out.cell (j := 2) rfl; have c3 := G0.out.cell (j := 3) rfl; have c4 := G0.out.cell (j := 4) rfl; have c5 := G0.out.cell (j := 5) rfl; have c6 := G0.out.cell (j := 6) rfl
    go_wp2_with fail
    clear c0 c1 c2 c3 c4 c5 c6 h
    refine (l12Mean_any _ _ _ _ _ _ _ _ _ _ _ _ _ _ _ _ _ (hP.fr hF1) (hW.fr hF1) (hX.fr hF1) HB.out).mono ?_
    rintro e w2 ⟨rfl, f2⟩
    go_wp2_with fail
    refine (l2Kept_any _ _ _ M.out.1 M.out.2.1 M.out.2.2).mono ?_
    rintro e w3 ⟨rfl, f3⟩
    have J1 := Lib.hid ((G1.out.fr f2).fr f3)
    have j0 := J1.out.cell (j := 0) rfl; have j1 := J1.out.cell (j := 1) rfl
    have i0 := J1.out.free 0; have i1 := J1.out.free 1
    go_wp2
    have E := (J1.out.set 0 (.int .i64 (meanP P W (pvM P X) x.toNat).1)).set 1 (.int .i64 (meanP P W (pvM P X) x.toNat).2)
    simp only [List.setIfInBounds_toArray, List.set_cons_zero, List.set_cons_succ] at E
    refine bodyPost_ret (results_FB Try.results31 _ _ (w.heap.size + 1) (.int .i64 (meanP P W (pvM P X) x.toNat).1) (.int .i64 (meanP P W (pvM P X) x.toNat).2) _ rfl rfl (E.cell rfl) (E.cell rfl)) rfl ?_
    refine ⟨by rw [HH.out, HB.out]; rfl, ?_⟩
    iterate 2 refine Fr.setCell ?_ (by dsimp only; omega) _
    exact (hF1.trans f2).trans f3

end Go.Proofs.Ytojipjjfndgbhaa
