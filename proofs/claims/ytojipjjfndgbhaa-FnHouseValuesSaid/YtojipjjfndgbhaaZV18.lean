import Derived.Test.YtojipjjfndgbhaaZV15
import Derived.ChangeKeysEq
import Derived.Test.YtojipjjfndgbhaaZV17
import Derived.Test.YtojipjjfndgbhaaZV12
import Derived.Deep.DeepMust
import Derived.Test.YtojipjjfndgbhaaZV14
import Derived.Deep.DeepCutAuto
import Derived.Deep.CutRange
import Derived.Deep.QuietTactic
/- Contracts of ShouldStop. -/
set_option linter.unusedVariables false
namespace Go.Proofs.Ytojipjjfndgbhaa
open Go.ChangeShapes Go.WideShapes Go.ChangeAt Go.RowKit

theorem eql_pair (w : World) (a b c d : Int) : (binOp .eql 46 (.agg #[.int .i64 a, .int .i64 b]) (.agg #[.int .i64 c, .int .i64 d])).run Try.prog w = .ok (.bool ((a == c) && (b == d))) w := by
  obtain ⟨i, hi, _⟩ := info_parts infoInt
  have hc : Try.prog.cellsOf 3 = 1 := by kernel_rfl
  rw [run_eql_struct, Go.run_equalIn_array w 9999 (t := 46) (e := 3) (n := 2) _ _ Try.underlying46 hi, hc]
  by_cases h : a = c
  · simp [Op.eqItems, List.range, List.range.loop, go_sem, Try.underlying3, h]
    by_cases h2 : b = d <;> simp [h2]
  · simp [Op.eqItems, List.range, List.range.loop, go_sem, Try.underlying3, h]
def ssV (P W X : List Int) (x s u v : Int) : Bool := houseB P W X x s u v && (((hvV P W X x s u v).1 == nth X x.toNat) && ((hvV P W X x s u v).2 == 1))

set_option maxRecDepth 100000 in
theorem impl_ShouldStop_any (w : World) (p q a : Option Addr) (n c m d l b : Nat) (P W X : List Int) (x s u v : Int) (hP : SL w p n c P) (hW : SL w q m d W) (hX : SL w a l b X) :
    Calls Try.prog 37 #[.agg #[.slice p n c, .slice q m d, .slice a l b, .int .i64 x, .int .i64 s, .int .i64 u, .int .i64 v]] w fun e w' => e = .returned (.tuple #[.bool (ssV P W X x s u v), .bool (houseB P W X x s u v)]) ∧ Fr w w' := by
  have HP := Lib.hid hP.len
  have HX := Lib.hid hX.len
  have hfr : Fr w (w.alloc (.cells #[.slice p n c, .slice q m d, .slice a l b, .int .i64 x, .int .i64 s, .int .i64 u, .int .i64 v] 31)) := (Fr.refl w).alloc _
  have H0 := Lib.hid (Blk.new w #[.slice p n c, .slice q m d, .slice a l b, .int .i64 x, .int .i64 s, .int .i64 u, .int .i64 v] 31)
  have c0 := H0.out.cell (j := 0) rfl; have c1 := H0.out.cell (j := 1) rfl; have c2 := H0.out.cell (j := 2) rfl; have c3 := H0.out.cell (j := 3) rfl; have c4 := H0.out.cell (j := 4) rfl; have c5 := H0.out.cell (j := 5) rfl; have c6 := H0.out.cell (j := 6) rfl
  go_enter Try.func37, Try.ntmps37
  go_wp2_with fail
  clear c0 c1 c2 c3 c4 c5 c6
  refine (impl_HouseValue_any _ _ _ _ _ _ _ _ _ _ _ _ _ _ _ _ _ (hP.fr hfr) (hW.fr hfr) (hX.fr hfr)).mono ?_
  rintro e w1 ⟨rfl, f1⟩
  have hF1 := hfr.trans f1
  have HV : Hid (ssV P W X x s u v = (houseB P W X x s u v && (((hvV P W X x s u v).1 == nth X x.toNat) && ((hvV P W X x s u v).2 == 1)))) := Lib.hid rfl
  generalize (hvV P W X x s u v).1 = ha at HV ⊢
  generalize (hvV P W X x s u v).2 = hb at HV ⊢
  cases h : houseB P W X x s u v
  · have HS : Hid (ssV P W X x s u v = false) := Lib.hid (by rw [ssV, h]; rfl)
    have HB := Lib.hid h
    go_wp2
    go_ret2
    exact ⟨by rw [HS.out, HB.out]; rfl, hF1.alloc _⟩
  · have HS : Hid (ssV P W X x s u v = ((ha == nth X x.toNat) && (hb == 1))) := Lib.hid (by rw [HV.out, h]; rfl)
    have HB := Lib.hid h
    obtain ⟨t1, t2, t3, t4⟩ := houseB_parts h
    have hln : l = n := by rw [← HX.out, ← HP.out]; exact (procB_iff.1 t2).1
    subst hln
    rw [HP.out] at t4
    obtain ⟨y, rfl⟩ := Int.eq_ofNat_of_zero_le t3
    have hyl : y < l := by omega
    clear t1 t2 t3
    have G0 := (H0.out.fr f1).alloc (.cells #[.int .i64 ha, .int .i64 hb] 46)
    have c1 := G0.cell (j := 2) rfl; have c2 := G0.cell (j := 3) rfl
    obtain ⟨bx, ox, rfl, hcx⟩ := (hX.fr (hF1.alloc (.cells #[.int .i64 ha, .int .i64 hb] 46))).cells.resolve_left (by omega)
    have i1 : (0 : Int) ≤ (y : Int) := by omega
    have i2 : (y : Int) < (l : Int) := by omega
    replace hcx := hcx y hyl
    have heq := fun w => eql_pair w ha hb (nth X y) 1
    go_wp2
    go_quiet (fail)
    go_wp2
    go_ret2
    exact ⟨by rw [HS.out, HB.out]; rfl, (hF1.alloc _).drew' _⟩

set_option maxRecDepth 100000 in
theorem spec_ShouldStop_any (w : World) (p q a : Option Addr) (n c m d l b : Nat) (P W X : List Int) (x s u v : Int) (hP : SL w p n c P) (hW : SL w q m d W) (hX : SL w a l b X) :
    Calls Try.prog 36 #[.agg #[.slice p n c, .slice q m d, .slice a l b, .int .i64 x, .int .i64 s, .int .i64 u, .int .i64 v]] w fun e w' => e = .returned (.tuple #[.bool (ssV P W X x s u v), .bool (houseB P W X x s u v)]) ∧ Fr w w' := by
  have HP := Lib.hid hP.len
  have HX := Lib.hid hX.len
  have hfr : Fr w (w.alloc (.cells #[.slice p n c, .slice q m d, .slice a l b, .int .i64 x, .int .i64 s, .int .i64 u, .int .i64 v] 31)) := (Fr.refl w).alloc _
  have H0 := Lib.hid (Blk.new w #[.slice p n c, .slice q m d, .slice a l b, .int .i64 x, .int .i64 s, .int .i64 u, .int .i64 v] 31)
  have c0 := H0.out.cell (j := 0) rfl; have c1 := H0.out.cell (j := 1) rfl; have c2 := H0.out.cell (j := 2) rfl; have c3 := H0.out.cell (j := 3) rfl; have c4 := H0.out.cell (j := 4) rfl; have c5 := H0.out.cell (j := 5) rfl; have c6 := H0.out.cell (j := 6) rfl
  go_enter Try.func36, Try.ntmps36
  go_wp2_with fail
  clear c0 c1 c2 c3 c4 c5 c6
  refine (spec_HouseValue_any _ _ _ _ _ _ _ _ _ _ _ _ _ _ _ _ _ (hP.fr hfr) (hW.fr hfr) (hX.fr hfr)).mono ?_
  rintro e w1 ⟨rfl, f1⟩
  have hF1 := hfr.trans f1
  have HV : Hid (ssV P W X x s u v = (houseB P W X x s u v && (((hvV P W X x s u v).1 == nth X x.toNat) && ((hvV P W X x s u v).2 == 1)))) := Lib.hid rfl
  generalize (hvV P W X x s u v).1 = ha at HV ⊢
  generalize (hvV P W X x s u v).2 = hb at HV ⊢
  cases h : houseB P W X x s u v
  · have HS : Hid (ssV P W X x s u v = false) := Lib.hid (by rw [ssV, h]; rfl)
    have HB := Lib.hid h
    go_wp2
    go_ret2
    exact ⟨by rw [HS.out, HB.out]; rfl, hF1.alloc _⟩
  · have HS : Hid (ssV P W X x s u v = ((ha == nth X x.toNat) && (hb == 1))) := Lib.hid (by rw [HV.out, h]; rfl)
    have HB := Lib.hid h
    obtain ⟨t1, t2, t3, t4⟩ := houseB_parts h
    have hln : l = n := by rw [← HX.out, ← HP.out]; exact (procB_iff.1 t2).1
    subst hln
    rw [HP.out] at t4
    obtain ⟨y, rfl⟩ := Int.eq_ofNat_of_zero_le t3
    have hyl : y < l := by omega
    clear t1 t2 t3
    have G0 := (H0.out.fr f1).alloc (.cells #[.int .i64 ha, .int .i64 hb] 46)
    have c1 := G0.cell (j := 2) rfl; have c2 := G0.cell (j := 3) rfl
    obtain ⟨bx, ox, rfl, hcx⟩ := (hX.fr (hF1.alloc (.cells #[.int .i64 ha, .int .i64 hb] 46))).cells.resolve_left (by omega)
    have i1 : (0 : Int) ≤ (y : Int) := by omega
    have i2 : (y : Int) < (l : Int) := by omega
    replace hcx := hcx y hyl
    have heq := fun w => eql_pair w ha hb (nth X y) 1
    go_wp2
    go_quiet (fail)
    go_wp2
    go_ret2
    exact ⟨by rw [HS.out, HB.out]; rfl, (hF1.alloc _).drew' _⟩

end Go.Proofs.Ytojipjjfndgbhaa
/- The value of a house, its price and its mean. Plain part. -/
set_option linter.unusedVariables false
namespace Go.Proofs.Ytojipjjfndgbhaa
open Go.ChangeShapes Go.WideShapes Go.ChangeAt Go.RowKit
theorem gcd_mul_self (x B : Int) (hB : 1 ≤ B) (h : Int.gcd (x * B) B = 1) : B = 1 := by
  have h1 : B.natAbs ∣ Int.gcd (x * B) B := Nat.dvd_gcd (by rw [Int.natAbs_mul]; exact Nat.dvd_mul_left _ _) (Nat.dvd_refl _)
  rw [h] at h1
  have := Nat.dvd_one.1 h1
  omega
theorem low_whole {x s : Int} (hx : -999 ≤ x ∧ x ≤ 999) (hs : 0 < s ∧ s ≤ 480) : lowA (s * x) s = x ∧ lowB (s * x) s = 1 := by
  have hb := natAbs_mul_le (x := s) (y := x) (M := 480) (N := 999) (by omega) (by omega)
  have f1 : -1000000000 ≤ s * x ∧ s * x ≤ 1000000000 := by omega
  obtain ⟨c1, c2⟩ := low_cross f1 (show 0 < s ∧ s ≤ 1000000 by omega)
  obtain ⟨_, d2, d3⟩ := low_frac f1 (show 0 < s ∧ s ≤ 1000000 by omega)
  have e : lowA (s * x) s = x * lowB (s * x) s := by
    refine Int.eq_of_mul_eq_mul_right (a := s) (by omega) ?_
    rw [c1, Int.mul_comm s x, Int.mul_right_comm]
  rw [e] at d3
  have hB := gcd_mul_self x _ d2.1 d3
  rw [e, hB]; exact ⟨Int.mul_one x, rfl⟩
/-- a / s is at most b / s: so are the fractions in lowest terms. -/
theorem low_mono {a b s : Int} (ha : -1000000000 ≤ a ∧ a ≤ 1000000000) (hb : -1000000000 ≤ b ∧ b ≤ 1000000000) (hs : 0 < s ∧ s ≤ 1000000) (hab : a ≤ b) : lowA a s * lowB b s ≤ lowA b s * lowB a s := by
  obtain ⟨c1, c2⟩ := low_cross ha hs
  obtain ⟨d1, d2⟩ := low_cross hb hs
  generalize lowA a s = A at *
  generalize lowB a s = B at *
  generalize lowA b s = C at *
  generalize lowB b s = D at *
  refine Int.le_of_mul_le_mul_right (a := s) ?_ hs.1
  have k1 : A * D * s = a * (B * D) := by rw [Int.mul_right_comm, c1, Int.mul_assoc]
  have k2 : C * B * s = b * (B * D) := by rw [Int.mul_right_comm, d1, Int.mul_assoc, Int.mul_comm D B]
  rw [k1, k2]
  exact Int.mul_le_mul_of_nonneg_right hab (Int.mul_nonneg (by omega) (by omega))
theorem hvK {P W X : List Int} {x s u v : Int} (h : houseB P W X x s u v = true) :
    ((-1000000000 ≤ (hvV P W X x s u v).1 ∧ (hvV P W X x s u v).1 ≤ 1000000000) ∧ (1 ≤ (hvV P W X x s u v).2 ∧ (hvV P W X x s u v).2 ≤ 1000000)) ∧
    ((-1000000000 ≤ (pmV P W X x s u v).1 ∧ (pmV P W X x s u v).1 ≤ 1000000000) ∧ (1 ≤ (pmV P W X x s u v).2 ∧ (pmV P W X x s u v).2 ≤ 1000000)) ∧
    (-999 ≤ nth X x.toNat ∧ nth X x.toNat ≤ 999) ∧ ((0 ≤ x ∧ x < P.length) ∧ X.length = P.length ∧ P.length ≤ 24) ∧
    nth X x.toNat * (hvV P W X x s u v).2 ≤ (hvV P W X x s u v).1 ∧
    (pmV P W X x s u v).1 * (hvV P W X x s u v).2 ≤ (hvV P W X x s u v).1 * (pmV P W X x s u v).2 ∧
    (flatV P W X = true → (pmV P W X x s u v).1 = nth X x.toNat ∧ (pmV P W X x s u v).2 = 1) ∧
    (fallV P W X = true → (hvV P W X x s u v).1 = nth X x.toNat ∧ (hvV P W X x s u v).2 = 1) ∧
    l3B P W X = true ∧
    ssV P W X x s u v = (((hvV P W X x s u v).1 == nth X x.toNat) && ((hvV P W X x s u v).2 == 1)) := by
  obtain ⟨t1, t2, t3, t4⟩ := houseB_parts h
  have hs : ssV P W X x s u v = (((hvV P W X x s u v).1 == nth X x.toNat) && ((hvV P W X x s u v).2 == 1)) := by rw [ssV, h]; rfl
  have hl3 : l3B P W X = true := by rw [l3B, t1, t2]; rfl
  rw [hs]
  have e1 : hvV P W X x s u v = envP P W X x.toNat := by rw [hvV, h]; rfl
  have e2 : pmV P W X x s u v = meanP P W (pvM P X) x.toNat := by rw [pmV, h]; rfl
  rw [e1, e2]
  obtain ⟨y, rfl⟩ := Int.eq_ofNat_of_zero_le t3
  rw [Int.toNat_natCast]
  have hy : y < P.length := by omega
  obtain ⟨hn, hW, hp, hwe⟩ := treeB_iff.1 t1
  have hX : ∀ i, -999 ≤ nth X i ∧ nth X i ≤ 999 := nth_bd (procB_iff.1 t2).2 (by omega) (by omega)
  have s1 := sums_pos t1 y hy
  have s2 := sums_le t1 y
  have sb : 0 < nth (gathM P W) y ∧ nth (gathM P W) y ≤ 1000000 := by omega
  have cb := capM_bd t1 hX y hy
  have cb2 : -1000000000 ≤ nth (capM P W X) y ∧ nth (capM P W X) y ≤ 1000000000 := by omega
  have tb := totals_bd (V := pvM P X) hp (fun i => tree_wei t1 i) (fun i => pv_bd hX _ i) hn.2 hn.1 y
  have tb2 : -1000000000 ≤ nth (totalsM P W (pvM P X)) y ∧ nth (totalsM P W (pvM P X)) y ≤ 1000000000 := by omega
  have p1 := cap_pay (X := X) t1 y hy
  have p2 := cap_tot (X := X) t1 y hy
  have w1 := low_whole (hX y) (show 0 < nth (gathM P W) y ∧ nth (gathM P W) y ≤ 480 by omega)
  have hb := natAbs_mul_le (x := nth (gathM P W) y) (y := nth X y) (M := 480) (N := 999) (by omega) (by have := hX y; omega)
  have m1 := low_mono (a := nth (gathM P W) y * nth X y) (by omega) cb2 sb p1
  have m2 := low_mono tb2 cb2 sb p2
  rw [w1.1, w1.2, Int.mul_one] at m1
  obtain ⟨a1, a2, _⟩ := low_frac cb2 sb
  obtain ⟨b1, b2, _⟩ := low_frac tb2 sb
  refine ⟨⟨a1, a2⟩, ⟨b1, b2⟩, hX y, ⟨by omega, (procB_iff.1 t2).1, hn.2⟩, m1, m2, fun hf => ?_, fun hf => ?_, hl3, rfl⟩
  · rw [flatV, Bool.and_eq_true] at hf
    have := flat_tot t1 hf.2 y hy
    show lowA (nth (totalsM P W (pvM P X)) y) _ = _ ∧ lowB (nth (totalsM P W (pvM P X)) y) _ = _
    rw [this]; exact w1
  · rw [fallV, Bool.and_eq_true] at hf
    have := fall_cap t1 hf.2 y hy
    show lowA (nth (capM P W X) y) _ = _ ∧ lowB (nth (capM P W X) y) _ = _
    rw [this]; exact w1
end Go.Proofs.Ytojipjjfndgbhaa
/- Draws for the largest numbers on the way. -/
set_option linter.unusedVariables false
namespace Go.Proofs.Ytojipjjfndgbhaa
open Go.ChangeShapes Go.WideShapes Go.ChangeAt Go.RowKit
theorem results_TSS {fn : Func} {k r s : Nat} (hr : fn.results = #[.cell k 29, .tmp r, .tmp s]) (tmps : Array Value) (w : World) (g : Nat) (v0 v1 : Value) (bb cc : Value) (h : tmps[k]?.getD undef = .pointer (some ⟨g, 0, none⟩)) (hb : tmps[r]?.getD undef = bb) (hc : tmps[s]?.getD undef = cc)
    (h0 : w.cell? ⟨g, 0, none⟩ = some v0) (h1 : w.cell? ⟨g, 1, none⟩ = some v1) : (results fn tmps).run Try.prog w = .ok (.tuple #[.agg #[v0, v1], bb, cc]) w := by
  simp [results, hr, go_sem, h, hb, hc, h0, h1]
theorem TrR.dr {B g A : Nat} {w w' : World} {p : Option Addr} {n c : Nat} {q : Option Addr} {m d : Nat} {a : Option Addr} {k j : Nat} (h : TrR B w p n c q m d a k j) (E : Dr g A w w') (hg : g < B) : TrR B w' p n c q m d a k j := by
  obtain ⟨⟨P, h1⟩, ⟨W, h2⟩, ⟨X, h3⟩, h4, h5, h6⟩ := h
  exact ⟨⟨P, E.own h1 hg⟩, ⟨W, E.own h2 hg⟩, ⟨X, E.own h3 hg⟩, h4, h5, h6⟩
theorem TrR.fr {B : Nat} {w w' : World} {p : Option Addr} {n c : Nat} {q : Option Addr} {m d : Nat} {a : Option Addr} {k j : Nat} (h : TrR B w p n c q m d a k j) (E : Fr w w') : TrR B w' p n c q m d a k j := by
  obtain ⟨⟨P, h1⟩, ⟨W, h2⟩, ⟨X, h3⟩, h4, h5, h6⟩ := h
  exact ⟨⟨P, h1.fr E⟩, ⟨W, h2.fr E⟩, ⟨X, h3.fr E⟩, h4, h5, h6⟩
/-- The tree is stored in the result's box. -/
theorem TrR.done {B B0 : Nat} {wr : World} {r : Nat} {p : Option Addr} {n c : Nat} {q : Option Addr} {m d : Nat} {a : Option Addr} {k j : Nat} {T : TypeId} {v0 v1 : Value} (h : TrR B wr p n c q m d a k j) (H : Blk wr r #[v0, v1] T) (hr : r < B) (hB : B0 ≤ B) :
    Blk ((wr.setCell ⟨r, 0, none⟩ (.slice p n c)).setCell ⟨r, 1, none⟩ (.slice q m d)) r #[.slice p n c, .slice q m d] T ∧ TrR B0 ((wr.setCell ⟨r, 0, none⟩ (.slice p n c)).setCell ⟨r, 1, none⟩ (.slice q m d)) p n c q m d a k j := by
  obtain ⟨⟨P, h2⟩, ⟨W, h3⟩, ⟨X, h4⟩, h6, h7, hle⟩ := h
  have E := (H.set 0 (.slice p n c)).set 1 (.slice q m d)
  simp only [List.setIfInBounds_toArray, List.set_cons_zero, List.set_cons_succ] at E
  have n1 : blkOf p ≠ some r := fun e => by have := (h2.blk r e).1; omega
  have n2 : blkOf q ≠ some r := fun e => by have := (h3.blk r e).1; omega
  have n3 : blkOf a ≠ some r := fun e => by have := (h4.blk r e).1; omega
  exact ⟨E, ⟨⟨P, ((h2.setOther (p := ⟨r, 0, none⟩) n1 _).setOther (p := ⟨r, 1, none⟩) n1 _).mono (by omega)⟩, ⟨W, ((h3.setOther (p := ⟨r, 0, none⟩) n2 _).setOther (p := ⟨r, 1, none⟩) n2 _).mono (by omega)⟩, ⟨X, ((h4.setOther (p := ⟨r, 0, none⟩) n3 _).setOther (p := ⟨r, 1, none⟩) n3 _).mono (by omega)⟩, h6, h7, hle⟩⟩
theorem HvI.trR {φ ψ : List Int → Prop} {w wr : World} {g A gt : Nat} {p : Option Addr} {n c : Nat} {q : Option Addr} {m d : Nat} {a : Option Addr} {k j : Nat} (h : HvI φ ψ w g A gt p n c q m d a k j wr) (hle : n ≤ 25 ∧ m ≤ 50 ∧ k ≤ 25) : TrR w.heap.size wr p n c q m d a k j := by
  obtain ⟨h1, ⟨P, h2, h2'⟩, ⟨W, h3⟩, ⟨X, h4, h4'⟩, h5, h6, h7, h8, h9⟩ := h
  exact ⟨⟨P, h2⟩, ⟨W, h3⟩, ⟨X, h4⟩, h6, h7, hle⟩
theorem TrR.hvI {w wr : World} {g A : Nat} {p : Option Addr} {n c : Nat} {q : Option Addr} {m d : Nat} {a : Option Addr} {k j : Nat} (h : TrR w.heap.size wr p n c q m d a k j) (D : Dr g A w wr) : HvI (fun _ => True) (fun _ => True) w g A wr.heap.size p n c q m d a k j (wr.alloc (.cells #[.slice p n c, .slice q m d] 29)) := by
  obtain ⟨⟨P, h2⟩, ⟨W, h3⟩, ⟨X, h4⟩, h6, h7, hle⟩ := h
  have f := (Fr.refl wr).alloc (.cells #[.slice p n c, .slice q m d] 29)
  exact ⟨Blk.new _ _ _, ⟨P, h2.fr f, trivial⟩, ⟨W, h3.fr f⟩, ⟨X, h4.fr f, trivial⟩, fun e => by have := (h4.blk _ e).2; omega, h6, h7, D.fr f, D.size⟩
set_option maxRecDepth 100000 in
theorem DrawLargestMean_any (w : World) (a : Option Addr) (n cap : Nat) (zs : List Int) (h : SLB w a n cap zs) :
    Calls Try.prog 53 #[.slice a n cap] w fun e w' => ∃ (p : Option Addr) (n c : Nat) (q : Option Addr) (m d : Nat) (a : Option Addr) (k j : Nat), e = .returned (.tuple #[.agg #[.slice p n c, .slice q m d], .slice a k j]) ∧ TrR w.heap.size w' p n c q m d a k j ∧ Fr w w' := by
  have f0 := (Fr.refl w).alloc (.cells #[.slice none 0 0, .slice none 0 0] 29)
  have D0 := Dr.start (h.fr f0)
  have HB := (Blk.new w #[.slice none 0 0, .slice none 0 0] 29).alloc (.cells #[.slice a n cap, .int .i64 0, .int .u64 0] 110)
  have HE : Hid (∀ (A : Nat) (w' : World), Dr (w.alloc (.cells #[.slice none 0 0, .slice none 0 0] 29)).heap.size A ((w.alloc (.cells #[.slice none 0 0, .slice none 0 0] 29)).alloc (.cells #[.slice a n cap, .int .i64 0, .int .u64 0] 110)) w' → Fr w w') := Lib.hid fun A w' h => f0.trans (h.ends rfl)
  have hg : w.heap.size + 1 < ((w.alloc (.cells #[.slice none 0 0, .slice none 0 0] 29)).alloc (.cells #[.slice a n cap, .int .i64 0, .int .u64 0] 110)).heap.size := by simp
  clear h f0
  rw [World.size_alloc] at D0 HE
  go_enter Try.func53, Try.ntmps53
  go_upto_region 2 with fail
  generalize (w.alloc (.cells #[.slice none 0 0, .slice none 0 0] 29)).alloc (.cells #[.slice a n cap, .int .i64 0, .int .u64 0] 110) = v0 at D0 HB HE hg ⊢
  go_wp2_with fail
  refine (halves_dr _ D0 (by omega)).mono ?_
  rintro e w1 ⟨p, n, c, q, m, d, a, k, j, rfl, R, D1, E1⟩
  have HBH := Lib.hid HB
  have hle := R.le
  have S0 := R.hvI D1
  clear D0 HB E1 R D1
  generalize hgt : w1.heap.size = gt at S0
  go_wp2
  clear hgt
  generalize w1.alloc _ = w2 at S0 ⊢
  go_loopw [7] (fun i wr => ∃ x : Nat, x ≤ k ∧ i = .int .i64 x ∧ HvI (fun _ => True) (fun _ => True) v0 (w.heap.size + 1) (0 + 1000 + 2 * x) gt p n c q m d a k j wr) (fun i _ => k - (intOf i).toNat)
  case atStart => exact ⟨0, Nat.zero_le _, rfl, S0⟩
  case round =>
    clear S0
    obtain ⟨x, hx, rfl, S⟩ := hrel
    obtain ⟨wo, rfl⟩ : ∃ wo : World, wo = wr := ⟨_, rfl⟩
    have vx0 : (0 : Int) ≤ (x : Int) := by omega
    by_cases hlt : x < k
    · have vx : (x : Int) < (k : Int) := by omega
      go_wp2_with fail
      refine (one_dr _ 30 S.D (by omega) (by unfold I64; omega)).mono ?_
      rintro e w3 ⟨b, rfl, D3, E3⟩
      have S3 := S.step hg E3
      clear S D3 E3
      cases b
      · obtain ⟨X, oX, _⟩ := S3.ox
        obtain ⟨ga, rfl, _, _, qX, zX⟩ := oX.op (by omega)
        replace qX := qX x hlt
        replace zX := zX x
        have hI := oX.sl.rngAt x
        generalize nth X x = t at qX hI
        clear oX
        go_wp2_with fail
        refine (l1Least_any _ _ _).mono ?_
        rintro e w' ⟨rfl, rfl⟩
        have S4 := S3.setX hg hlt (v := min (wrap64 (t + 10)) 999) (by unfold I64 wrap64; omega)
        clear S3
        go_wp2
        go_roundw
        case rel => exact ⟨x + 1, by omega, by go_num, S4.mono (by omega)⟩
        case measure => simp [intOf]; omega
      · have HB2 := S3.D.blk HBH.out (by omega)
        have R3 := S3.trR hle
        have f0 := HB2.free 0; have f1 := HB2.free 1
        have i0 := HB2.cell (j := 0) rfl; have i1 := HB2.cell (j := 1) rfl
        have c0 := S3.B.cell (j := 0) rfl; have c1 := S3.B.cell (j := 1) rfl
        have FIN := Lib.hid (And.intro (R3.done HB2 (by omega) (show w.heap.size ≤ v0.heap.size by omega)) (((HE.out _ _ S3.D).setCell (p := ⟨w.heap.size, 0, none⟩) (Nat.le_refl _) (.slice p n c)).setCell (p := ⟨w.heap.size, 1, none⟩) (Nat.le_refl _) (.slice q m d)))
        clear S3 HB2 R3
        go_wp2
        refine bodyPost_ret (results_TS Try.results53 _ _ w.heap.size (.slice p n c) (.slice q m d) _ rfl rfl (FIN.out.1.1.cell rfl) (FIN.out.1.1.cell rfl)) rfl ?_
        exact ⟨_, _, _, _, _, _, _, _, _, rfl, FIN.out.1.2, FIN.out.2⟩
    · have vx : ¬ (x : Int) < (k : Int) := by omega
      have S3 := S
      have HB2 := S3.D.blk HBH.out (by omega)
      have R3 := S3.trR hle
      have f0 := HB2.free 0; have f1 := HB2.free 1
      have i0 := HB2.cell (j := 0) rfl; have i1 := HB2.cell (j := 1) rfl
      have c0 := S3.B.cell (j := 0) rfl; have c1 := S3.B.cell (j := 1) rfl
      have FIN := Lib.hid (And.intro (R3.done HB2 (by omega) (show w.heap.size ≤ v0.heap.size by omega)) (((HE.out _ _ S3.D).setCell (p := ⟨w.heap.size, 0, none⟩) (Nat.le_refl _) (.slice p n c)).setCell (p := ⟨w.heap.size, 1, none⟩) (Nat.le_refl _) (.slice q m d)))
      clear S S3 HB2 R3
      go_wp2
      refine bodyPost_ret (results_TS Try.results53 _ _ w.heap.size (.slice p n c) (.slice q m d) _ rfl rfl (FIN.out.1.1.cell rfl) (FIN.out.1.1.cell rfl)) rfl ?_
      exact ⟨_, _, _, _, _, _, _, _, _, rfl, FIN.out.1.2, FIN.out.2⟩
theorem lit8L (V : World) : ∀ i, i < 8 → ∃ x, (V.alloc (.cells #[.int .i64 10, .int .i64 12, .int .i64 8, .int .i64 15, .int .i64 1, .int .i64 999, .int .i64 1000, .int .i64 0] 3)).cell? ⟨V.heap.size, i, none⟩ = some (.int .i64 x) ∧ (0 ≤ x ∧ x ≤ 1000) := fun i hi => by
  have h : i = 0 ∨ i = 1 ∨ i = 2 ∨ i = 3 ∨ i = 4 ∨ i = 5 ∨ i = 6 ∨ i = 7 := by omega
  rcases h with rfl | rfl | rfl | rfl | rfl | rfl | rfl | rfl
  all_goals exact ⟨_, by rw [cell_of_row _ _ _ _ _ _ (heap_alloc_new _ _)]; rfl, by omega⟩
set_option maxRecDepth 100000 in
theorem DrawLargestChance_any (w : World) (a : Option Addr) (n cap : Nat) (zs : List Int) (h : SLB w a n cap zs) :
    Calls Try.prog 52 #[.slice a n cap] w fun e w' => ∃ (p : Option Addr) (n c : Nat) (q : Option Addr) (m d : Nat) (a : Option Addr) (k j : Nat) (v : Int), e = .returned (.tuple #[.agg #[.slice p n c, .slice q m d], .slice a k j, .int .i64 v]) ∧ (0 ≤ v ∧ v ≤ 1000) ∧ TrR w.heap.size w' p n c q m d a k j ∧ Fr w w' := by
  have f0 := (Fr.refl w).alloc (.cells #[.slice none 0 0, .slice none 0 0] 29)
  have D0 := Dr.start (h.fr f0)
  have h2 := h.fr (f0.alloc (.cells #[.slice a n cap, .int .i64 0, .int .u64 0] 110))
  have HB := (Blk.new w #[.slice none 0 0, .slice none 0 0] 29).alloc (.cells #[.slice a n cap, .int .i64 0, .int .u64 0] 110)
  have HE : Hid (∀ (A : Nat) (w' : World), Dr (w.alloc (.cells #[.slice none 0 0, .slice none 0 0] 29)).heap.size A ((w.alloc (.cells #[.slice none 0 0, .slice none 0 0] 29)).alloc (.cells #[.slice a n cap, .int .i64 0, .int .u64 0] 110)) w' → Fr w w') := Lib.hid fun A w' h => f0.trans (h.ends rfl)
  have hg : w.heap.size + 1 < ((w.alloc (.cells #[.slice none 0 0, .slice none 0 0] 29)).alloc (.cells #[.slice a n cap, .int .i64 0, .int .u64 0] 110)).heap.size := by simp
  clear h f0
  rw [World.size_alloc] at D0 HE
  go_enter Try.func52, Try.ntmps52
  go_upto_region 2 with fail
  generalize (w.alloc (.cells #[.slice none 0 0, .slice none 0 0] 29)).alloc (.cells #[.slice a n cap, .int .i64 0, .int .u64 0] 110) = v0 at D0 HB HE hg h2 ⊢
  go_wp2_with fail
  refine (DrawLargestMean_any _ _ _ _ _ h2).mono ?_
  rintro e w1 ⟨p, n, c, q, m, d, a, k, j, rfl, R, f1⟩
  have D1 := D0.fr f1
  have HB1 := HB.fr f1
  have S := R.hvI D1
  have hle := R.le
  have HA : Blk (w1.alloc (.cells #[.slice p n c, .slice q m d] 29)) w.heap.size #[.slice none 0 0, .slice none 0 0] 29 := HB1.alloc _
  have R1 := S.trR hle
  have hlt1 := S.D.cur.lt
  have HNE : Hid (w.heap.size + 1 ≠ w.heap.size) := Lib.hid (by omega)
  clear D0 D1 HB HB1 R f1 h2
  generalize hgt : w1.heap.size = gt at S
  go_upto_region 3 with fail
  clear hgt
  generalize w1.alloc (.cells #[.slice p n c, .slice q m d] 29) = w2 at S HA R1 hlt1 ⊢
  have SB : HvI (fun _ => True) (fun _ => True) v0 (w.heap.size + 1) 0 gt p n c q m d a k j w2.drew := S.fr (Fr.drewN w2 1)
  have SC : HvI (fun _ => True) (fun _ => True) v0 (w.heap.size + 1) 0 gt p n c q m d a k j (w2.alloc (.cells #[.int .i64 10, .int .i64 12, .int .i64 8, .int .i64 15, .int .i64 1, .int .i64 999, .int .i64 1000, .int .i64 0] 3)) := S.fr ((Fr.refl w2).alloc _)
  have SD : HvI (fun _ => True) (fun _ => True) v0 (w.heap.size + 1) 0 gt p n c q m d a k j (w2.alloc (.cells #[.int .i64 10, .int .i64 12, .int .i64 8, .int .i64 15, .int .i64 1, .int .i64 999, .int .i64 1000, .int .i64 0] 3)).drew := S.fr (((Fr.refl w2).alloc _).drew' 1)
  have HD : Blk (w2.alloc (.cells #[.int .i64 10, .int .i64 12, .int .i64 8, .int .i64 15, .int .i64 1, .int .i64 999, .int .i64 1000, .int .i64 0] 3)).drew w.heap.size #[.slice none 0 0, .slice none 0 0] 29 := HA.fr (((Fr.refl w2).alloc _).drew' 1)
  have HC : Blk (w2.alloc (.cells #[.int .i64 10, .int .i64 12, .int .i64 8, .int .i64 15, .int .i64 1, .int .i64 999, .int .i64 1000, .int .i64 0] 3)) w.heap.size #[.slice none 0 0, .slice none 0 0] 29 := HA.fr ((Fr.refl w2).alloc _)
  have a0 := S.B.cell (j := 0) rfl; have a1 := S.B.cell (j := 1) rfl
  have b0 := SB.B.cell (j := 0) rfl; have b1 := SB.B.cell (j := 1) rfl
  have c0 := SC.B.cell (j := 0) rfl; have c1 := SC.B.cell (j := 1) rfl
  have d0 := SD.B.cell (j := 0) rfl; have d1 := SD.B.cell (j := 1) rfl
  have LC := lit8L w2
  have LD : ∀ i, i < 8 → ∃ x, (w2.alloc (.cells #[.int .i64 10, .int .i64 12, .int .i64 8, .int .i64 15, .int .i64 1, .int .i64 999, .int .i64 1000, .int .i64 0] 3)).drew.cell? ⟨w2.heap.size, i, none⟩ = some (.int .i64 x) ∧ (0 ≤ x ∧ x ≤ 1000) := LC
  go_region_with (go_at_call 96; go_must (refine (among_any (w.heap.size + 1) _ w2.heap.size 8 8 (fun x => 0 ≤ x ∧ x ≤ 1000) _ (by first | with_reducible exact SD.D.cur | with_reducible exact SC.D.cur) (by omega) (by omega) (by omega) (by omega) (by first | with_reducible exact LD | with_reducible exact LC)).mono ?_; rintro e wb ⟨z, rfl, hz, Cb, gB⟩; have EB : Dr (w.heap.size + 1) _ _ wb := ⟨Cb, gB⟩; have PB : HvI (fun _ => True) (fun _ => True) v0 (w.heap.size + 1) (0 + 2) gt p n c q m d a k j wb := (by first | with_reducible exact SD.step hg EB | with_reducible exact SC.step hg EB); have BB : Blk wb w.heap.size #[.slice none 0 0, .slice none 0 0] 29 := (by first | with_reducible exact EB.blk HD HNE.out | with_reducible exact EB.blk HC HNE.out); have e0 := PB.B.cell (j := 0) rfl; have e1 := PB.B.cell (j := 1) rfl; have i0 := BB.cell (j := 0) rfl; have i1 := BB.cell (j := 1) rfl; have f0 := BB.free 0; have f1 := BB.free 1; have FIN := Lib.hid (And.intro ((PB.trR hle).done BB (show w.heap.size < v0.heap.size by omega) (show w.heap.size ≤ v0.heap.size by omega)) (((HE.out _ _ PB.D).setCell (p := ⟨w.heap.size, 0, none⟩) (Nat.le_refl _) (.slice p n c)).setCell (p := ⟨w.heap.size, 1, none⟩) (Nat.le_refl _) (.slice q m d)))))
  all_goals
    go_wp2
    refine bodyPost_ret (results_TSS Try.results52 _ _ w.heap.size (.slice p n c) (.slice q m d) _ _ rfl rfl rfl (FIN.out.1.1.cell rfl) (FIN.out.1.1.cell rfl)) rfl ?_
    exact ⟨_, _, _, _, _, _, _, _, _, _, rfl, by omega, FIN.out.1.2, FIN.out.2⟩
end Go.Proofs.Ytojipjjfndgbhaa
/- The law FnLargest. -/
set_option linter.unusedVariables false
namespace Go.Proofs.Ytojipjjfndgbhaa
open Go.ChangeShapes Go.WideShapes Go.ChangeAt Go.RowKit
theorem neq_pair (w : World) (a b : Int) : (binOp .neq 46 (.agg #[.int .i64 a, .int .i64 b]) (.agg #[.int .i64 a, .int .i64 b])).run Try.prog w = .ok (.bool false) w := by
  obtain ⟨i, hi, _⟩ := info_parts infoInt
  have hc : Try.prog.cellsOf 3 = 1 := by kernel_rfl
  rw [run_neq_struct, Go.run_equalIn_array w 9999 (t := 46) (e := 3) (n := 2) _ _ Try.underlying46 hi, hc]
  simp [Op.eqItems, List.range, List.range.loop, go_sem, Try.underlying3]
theorem eql_pair_same (w : World) (a b : Int) : (binOp .eql 46 (.agg #[.int .i64 a, .int .i64 b]) (.agg #[.int .i64 a, .int .i64 b])).run Try.prog w = .ok (.bool true) w := by
  rw [eql_pair]; simp
/-- A drawn tree and list in a law. -/
structure LgI (w : World) (a : Option Addr) (n cap : Nat) (zs : List Int) (g : Nat) (p : Option Addr) (np cp : Nat) (P : List Int) (q : Option Addr) (nq cq : Nat) (W : List Int) (l : Option Addr) (nl cl : Nat) (X : List Int) (wr : World) : Prop where
  C : SLB wr a n cap zs
  P : SL wr p np cp P
  W : SL wr q nq cq W
  X : SL wr l nl cl X
  B : Blk wr g #[.slice p np cp, .slice q nq cq] 29
  F : Fr w wr
theorem LgI.fr {w : World} {a : Option Addr} {n cap : Nat} {zs : List Int} {g : Nat} {p : Option Addr} {np cp : Nat} {P : List Int} {q : Option Addr} {nq cq : Nat} {W : List Int} {l : Option Addr} {nl cl : Nat} {X : List Int} {wr w' : World} (h : LgI w a n cap zs g p np cp P q nq cq W l nl cl X wr) (f : Fr wr w') : LgI w a n cap zs g p np cp P q nq cq W l nl cl X w' :=
  ⟨h.C.fr f, h.P.fr f, h.W.fr f, h.X.fr f, h.B.fr f, h.F.trans f⟩
theorem LgI.start {w wr : World} {a : Option Addr} {n cap : Nat} {zs : List Int} {p : Option Addr} {np cp : Nat} {q : Option Addr} {nq cq : Nat} {l : Option Addr} {nl cl B : Nat} (hC : SLB wr a n cap zs) (R : TrR B wr p np cp q nq cq l nl cl) (F : Fr w wr) : ∃ P W X, LgI w a n cap zs wr.heap.size p np cp P q nq cq W l nl cl X (wr.alloc (.cells #[.slice p np cp, .slice q nq cq] 29)) := by
  obtain ⟨⟨P, h1⟩, ⟨W, h2⟩, ⟨X, h3⟩, _⟩ := R
  have f := (Fr.refl wr).alloc (.cells #[.slice p np cp, .slice q nq cq] 29)
  exact ⟨P, W, X, hC.fr f, h1.sl.fr f, h2.sl.fr f, h3.sl.fr f, Blk.new _ _ _, F.trans f⟩
theorem lcV_bd {P W X : List Int} {v : Int} (h : lcB P W X v = true) : (-1000000000 ≤ (lcV P W X v).1 ∧ (lcV P W X v).1 ≤ 1000000000) ∧ (1 ≤ (lcV P W X v).2 ∧ (lcV P W X v).2 ≤ 1000000) := by
  obtain ⟨he, hv⟩ := lcB_parts h
  obtain ⟨f1, f2⟩ := lc_fit he v
  rw [lcV, h]; simp only [cond_true]
  exact ⟨(low_frac f1 f2).1, (low_frac f1 f2).2.1⟩
theorem lmV_bd {P W X : List Int} (h : evenB P W X = true) : (-1000000000 ≤ (lmV P W X).1 ∧ (lmV P W X).1 ≤ 1000000000) ∧ (1 ≤ (lmV P W X).2 ∧ (lmV P W X).2 ≤ 1000000) := by
  obtain ⟨f1, f2⟩ := lm_fit h
  rw [lmV, h]; simp only [cond_true]
  exact ⟨(low_frac f1 f2).1, (low_frac f1 f2).2.1⟩
/-- What is known of the values. -/
theorem lcK {P W X : List Int} {v : Int} (h : lcB P W X v = true) : ¬ nth X 0 * (lcV P W X v).2 < (lcV P W X v).1 * v ∧ ((-1000000000 ≤ (lcV P W X v).1 ∧ (lcV P W X v).1 ≤ 1000000000) ∧ (1 ≤ (lcV P W X v).2 ∧ (lcV P W X v).2 ≤ 1000000)) ∧ evenB P W X = true ∧ (1 ≤ v ∧ v ≤ 999) :=
  ⟨chance_le h, lcV_bd h, lcB_parts h⟩
theorem lmK {P W X : List Int} (h : evenB P W X = true) : nth X 0 * (lmV P W X).2 ≤ (lmV P W X).1 ∧ ((-1000000000 ≤ (lmV P W X).1 ∧ (lmV P W X).1 ≤ 1000000000) ∧ (1 ≤ (lmV P W X).2 ∧ (lmV P W X).2 ≤ 1000000)) ∧ (0 ≤ nth X 0 ∧ nth X 0 ≤ 999) ∧ 1 ≤ X.length := by
  obtain ⟨ht, hx, _, hX⟩ := evenB_parts h
  have hn := (treeB_iff.1 ht).1.1
  exact ⟨largest_ge h, lmV_bd h, hX 0, by rw [(procB_iff.1 hx).1]; exact hn⟩
theorem seer_of {P W X : List Int} (h : evenB P W X = true) : lowA (lmS P W X) (nth (gathM P W) 0) = (lmV P W X).1 ∧ lowB (lmS P W X) (nth (gathM P W) 0) = (lmV P W X).2 := by
  rw [lmV, h]; exact ⟨rfl, rfl⟩
set_option maxRecDepth 100000 in
set_option maxHeartbeats 4000000 in
theorem walk_FnLargest (a : Option Addr) (n cap : Nat) (zs : List Int) (w : World) (h : SLB w a n cap zs) :
    Calls Try.prog 12 #[.slice a n cap] w fun e w' => e = .returned (.bool true) ∧ Fr w w' := by
  have hle := h.le; have hmx := h.mx
  have HV := Lib.hid (rBig_any w a n cap (by omega))
  by_cases hbig : 65536 < n
  · have hd : decide (65536 < n) = true := decide_eq_true hbig
    rw [hd] at HV
    go_enter Try.func12, Try.ntmps12
    go_wp2_with fail
    refine HV.out.mono ?_
    rintro e w' ⟨rfl, rfl⟩
    go_wp2
    go_ret
    exact ⟨rfl, Fr.refl _⟩
  · have hd : decide (65536 < n) = false := decide_eq_false hbig
    rw [hd] at HV
    have H := Lib.hid h
    clear h
    go_enter Try.func12, Try.ntmps12
    go_wp2_with fail
    refine HV.out.mono ?_
    rintro e w' ⟨rfl, rfl⟩
    clear HV hd
    go_wp2_with fail
    refine (DrawLargestChance_any w a n cap zs H.out).mono ?_
    rintro e w1 ⟨p, np, cp, q, nq, cq, l, nl, cl, v, rfl, hv, R, f⟩
    obtain ⟨P, W, X, S⟩ := LgI.start (H.out.fr f) R f
    clear R f
    have Q1 := Lib.hid (fun V h1 h2 h3 h4 => impl_LargestChance_any V p q l np cp nq cq nl cl P W X v h1 h2 h3 h4)
    have Q2 := Lib.hid (fun V h1 h2 h3 h4 => spec_LargestChance_any V p q l np cp nq cq nl cl P W X v h1 h2 h3 h4)
    have Q3 := Lib.hid (fun V h1 h2 h3 => impl_LargestMean_any V p q l np cp nq cq nl cl P W X h1 h2 h3)
    have Q4 := Lib.hid (fun V h1 h2 h3 => spec_LargestMean_any V p q l np cp nq cq nl cl P W X h1 h2 h3)
    have Q5 := Lib.hid (fun (V : World) (h1 : SL V p np cp P) (h2 : SL V q nq cq W) (h3 : SL V l nl cl X) (he : evenB P W X = true) => SeerMean_yes V p q l np cp nq cq nl cl P W X h1 h2 h3 (evenB_parts he).1 (evenB_parts he).2.1)
    have K1 := Lib.hid (fun h : lcB P W X v = true => lcK h)
    have K2 := Lib.hid (fun h : evenB P W X = true => lmK h)
    have K3 := Lib.hid (fun h : evenB P W X = true => seer_of h)
    generalize lowA (lmS P W X) (nth (gathM P W) 0) = sa at Q5 K3
    generalize lowB (lmS P W X) (nth (gathM P W) 0) = sb at Q5 K3
    generalize (lcV P W X v).1 = ca at Q1 Q2 K1
    generalize (lcV P W X v).2 = cb at Q1 Q2 K1
    generalize lcB P W X v = okb at Q1 Q2 K1
    generalize (lmV P W X).1 = ma at Q3 Q4 K2 K3
    generalize (lmV P W X).2 = mb at Q3 Q4 K2 K3
    generalize evenB P W X = one at Q3 Q4 Q5 K1 K2 K3
    generalize hg3 : w1.heap.size = g3 at S
    have IV : Hid (I64 v) := Lib.hid (by unfold I64; omega)
    go_upto_region 4 with fail
    clear hg3
    generalize w1.alloc _ = w2 at S ⊢
    have c0 := S.B.cell (j := 0) rfl; have c1 := S.B.cell (j := 1) rfl
    go_wp2_with fail
    refine (Q1.out _ S.P S.W S.X IV.out).mono ?_
    rintro e w3 ⟨rfl, f⟩
    replace S := S.fr f
    have B6 := Blk.new w3 #[.int .i64 ca, .int .i64 cb] 46
    have f6 := (Fr.refl w3).alloc (.cells #[.int .i64 ca, .int .i64 cb] 46)
    replace S := S.fr f6
    generalize hg6 : w3.heap.size = g6 at B6
    clear c0 c1 f f6 Q1
    go_upto_region 5 with fail
    clear hg6
    generalize w3.alloc _ = w4 at S B6 ⊢
    have c0 := S.B.cell (j := 0) rfl; have c1 := S.B.cell (j := 1) rfl
    go_wp2_with fail
    refine (Q2.out _ S.P S.W S.X IV.out).mono ?_
    rintro e w5 ⟨rfl, f⟩
    replace S := S.fr f
    replace B6 := B6.fr f
    have B8 := Blk.new w5 #[.int .i64 ca, .int .i64 cb] 46
    have f8 := (Fr.refl w5).alloc (.cells #[.int .i64 ca, .int .i64 cb] 46)
    replace S := S.fr f8
    replace B6 := B6.fr f8
    generalize hg8 : w5.heap.size = g8 at B8
    clear c0 c1 f f8 Q2
    go_upto_region 6 with fail
    clear hg8
    generalize w5.alloc _ = w6 at S B6 B8 ⊢
    have c0 := B6.cell (j := 0) rfl; have c1 := B6.cell (j := 1) rfl
    have c2 := B8.cell (j := 0) rfl; have c3 := B8.cell (j := 1) rfl
    have d0 := S.B.cell (j := 0) rfl; have d1 := S.B.cell (j := 1) rfl
    have hne := fun u => neq_pair u ca cb
    have hbb : (okb != okb) = false := by cases okb <;> rfl
    go_wp2_with fail
    refine (Q3.out _ S.P S.W S.X).mono ?_
    rintro e w7 ⟨rfl, f⟩
    replace S := S.fr f
    replace B6 := B6.fr f
    have BA := Blk.new w7 #[.int .i64 ma, .int .i64 mb] 46
    have fA := (Fr.refl w7).alloc (.cells #[.int .i64 ma, .int .i64 mb] 46)
    replace S := S.fr fA
    replace B6 := B6.fr fA
    generalize hgA : w7.heap.size = gA at BA
    clear c0 c1 c2 c3 d0 d1 hne hbb f fA Q3 B8
    go_upto_region 9 with fail
    clear hgA
    generalize w7.alloc _ = w8 at S B6 BA ⊢
    have c0 := S.B.cell (j := 0) rfl; have c1 := S.B.cell (j := 1) rfl
    go_wp2_with fail
    refine (Q4.out _ S.P S.W S.X).mono ?_
    rintro e w9 ⟨rfl, f⟩
    replace S := S.fr f
    replace B6 := B6.fr f
    replace BA := BA.fr f
    have BC := Blk.new w9 #[.int .i64 ma, .int .i64 mb] 46
    have fC := (Fr.refl w9).alloc (.cells #[.int .i64 ma, .int .i64 mb] 46)
    replace S := S.fr fC
    replace B6 := B6.fr fC
    replace BA := BA.fr fC
    generalize hgC : w9.heap.size = gC at BC
    clear c0 c1 f fC Q4
    go_upto_region 10 with fail
    clear hgC
    generalize w9.alloc _ = w10 at S B6 BA BC ⊢
    have c0 := BA.cell (j := 0) rfl; have c1 := BA.cell (j := 1) rfl
    have c2 := BC.cell (j := 0) rfl; have c3 := BC.cell (j := 1) rfl
    have hne := fun u => neq_pair u ma mb
    go_cut [78] from 64 to 78 (fun s wx => s = .bool false ∧ wx = w10)
    case first =>
      as_aux_lemma =>
        cases okb
        · cases one
          · go_wp2_with fail; go_meet; exact ⟨rfl, rfl⟩
          · go_wp2_with fail; go_meet; exact ⟨rfl, rfl⟩
        · obtain ⟨_, _, rfl, _⟩ := K1.out rfl
          go_wp2_with fail; go_meet; exact ⟨rfl, rfl⟩
    case rest =>
      obtain ⟨rfl, rfl⟩ := hcut
      obtain ⟨w11, rfl⟩ : ∃ wz : World, wz = wc := ⟨_, rfl⟩
      clear c0 c1 c2 c3 hne BC
      go_wp2_with fail
      refine (DrawLargestMean_any _ a n cap zs S.C).mono ?_
      rintro e w12 ⟨p2, np2, cp2, q2, nq2, cq2, l2, nl2, cl2, rfl, R, f⟩
      replace S := S.fr f
      replace B6 := B6.fr f
      replace BA := BA.fr f
      obtain ⟨P2, W2, X2, T⟩ := LgI.start S.C R S.F
      have fT := (Fr.refl w12).alloc (.cells #[.slice p2 np2 cp2, .slice q2 nq2 cq2] 29)
      replace S := S.fr fT
      replace B6 := B6.fr fT
      replace BA := BA.fr fT
      clear R f fT
      have R3 := Lib.hid (fun V h1 h2 h3 => impl_LargestMean_any V p2 q2 l2 np2 cp2 nq2 cq2 nl2 cl2 P2 W2 X2 h1 h2 h3)
      have R4 := Lib.hid (fun V h1 h2 h3 => spec_LargestMean_any V p2 q2 l2 np2 cp2 nq2 cq2 nl2 cl2 P2 W2 X2 h1 h2 h3)
      generalize (lmV P2 W2 X2).1 = na at R3 R4
      generalize (lmV P2 W2 X2).2 = nb at R3 R4
      generalize evenB P2 W2 X2 = two at R3 R4
      generalize hgT : w12.heap.size = gT at T
      go_upto_region 13 with fail
      clear hgT
      generalize w12.alloc _ = w13 at S B6 BA T ⊢
      have c0 := T.B.cell (j := 0) rfl; have c1 := T.B.cell (j := 1) rfl
      go_wp2_with fail
      refine (R3.out _ T.P T.W T.X).mono ?_
      rintro e w14 ⟨rfl, f⟩
      have BG := Blk.new w14 #[.int .i64 na, .int .i64 nb] 46
      have fG := f.alloc (.cells #[.int .i64 na, .int .i64 nb] 46)
      replace S := S.fr fG
      replace B6 := B6.fr fG
      replace BA := BA.fr fG
      replace T := T.fr fG
      generalize hgG : w14.heap.size = gG at BG
      clear c0 c1 f fG R3
      go_upto_region 14 with fail
      clear hgG
      generalize w14.alloc _ = w15 at S B6 BA T BG ⊢
      have c0 := T.B.cell (j := 0) rfl; have c1 := T.B.cell (j := 1) rfl
      go_wp2_with fail
      refine (R4.out _ T.P T.W T.X).mono ?_
      rintro e w16 ⟨rfl, f⟩
      have BI := Blk.new w16 #[.int .i64 na, .int .i64 nb] 46
      have fI := f.alloc (.cells #[.int .i64 na, .int .i64 nb] 46)
      replace S := S.fr fI
      replace B6 := B6.fr fI
      replace BA := BA.fr fI
      replace BG := BG.fr fI
      generalize hgI : w16.heap.size = gI at BI
      clear c0 c1 f fI R4 T
      go_upto_region 15 with fail
      clear hgI
      generalize w16.alloc _ = w17 at S B6 BA BG BI ⊢
      have c0 := BG.cell (j := 0) rfl; have c1 := BG.cell (j := 1) rfl
      have c2 := BI.cell (j := 0) rfl; have c3 := BI.cell (j := 1) rfl
      have hne := fun u => neq_pair u na nb
      have hbb : (two != two) = false := by cases two <;> rfl
      go_upto_region 17 with fail
      clear c0 c1 c2 c3 hne hbb BG BI
      go_cut [117] from 104 to 117 (fun s wx => s = .bool false ∧ Fr w17 wx)
      case first =>
        as_aux_lemma =>
          cases okb
          · go_quiet (fail)
            go_wp2_with fail; go_meet; exact ⟨rfl, (Fr.refl _).drew' _⟩
          · obtain ⟨k1, ⟨k2, k3⟩, rfl, k4⟩ := K1.out rfl
            obtain ⟨_, _, tc, td⟩ := K2.out rfl
            have HL := Lib.hid S.X.len
            obtain ⟨bl, ol, rfl, ql⟩ := S.X.cells.resolve_left (by rw [← HL.out]; omega)
            have vn : (0 : Int) < (nl : Int) := by rw [← HL.out]; omega
            replace ql := ql 0 (by rw [← HL.out]; omega)
            rw [Nat.add_zero] at ql
            have c0 := B6.cell (j := 0) rfl; have c1 := B6.cell (j := 1) rfl
            generalize nth X 0 = x at *
            have e1 : IntKind.i64.wrap (ca * v) = ca * v := IntWalk.i64_in _ (by have := natAbs_mul_le (x := ca) (y := v) (M := 1000000000) (N := 999) (by omega) (by omega); omega)
            have e2 : IntKind.i64.wrap (x * cb) = x * cb := IntWalk.i64_in _ (by have := natAbs_mul_le (x := x) (y := cb) (M := 999) (N := 1000000) (by omega) (by omega); omega)
            go_quiet (fail)
            go_wp2_with fail; go_meet; exact ⟨congrArg Value.bool (decide_eq_false (by omega)), (Fr.refl _).drew' _⟩
      case rest =>
        obtain ⟨rfl, f⟩ := hcut
        obtain ⟨w18, rfl⟩ : ∃ wz : World, wz = wc := ⟨_, rfl⟩
        replace S := S.fr f
        replace BA := BA.fr f
        clear f B6 K1
        have c0 := S.B.cell (j := 0) rfl; have c1 := S.B.cell (j := 1) rfl
        cases one
        · have F := S.F
          go_wp2
          go_ret
          exact ⟨rfl, F⟩
        · skip
          obtain ⟨ta, tb, tc, td⟩ := K2.out rfl
          obtain ⟨k1, k2⟩ := K3.out rfl
          have HL := Lib.hid S.X.len
          go_wp2_with fail
          refine (Q5.out _ S.P S.W S.X (by first | rfl | trivial)).mono ?_
          rintro e w19 ⟨rfl, f⟩
          rw [k1, k2]
          clear c0 c1 k1 k2 Q5 K3 K2
          replace S := S.fr f
          replace BA := BA.fr f
          have BK := Blk.new w19 #[.int .i64 ma, .int .i64 mb] 46
          have fK := (Fr.refl w19).alloc (.cells #[.int .i64 ma, .int .i64 mb] 46)
          replace S := S.fr fK
          replace BA := BA.fr fK
          generalize hgK : w19.heap.size = gK at BK
          clear f fK
          go_upto_region 22 with fail
          clear hgK
          generalize w19.alloc _ = w20 at S BA BK ⊢
          have c0 := BA.cell (j := 0) rfl; have c1 := BA.cell (j := 1) rfl
          have c2 := BK.cell (j := 0) rfl; have c3 := BK.cell (j := 1) rfl
          obtain ⟨bl, ol, rfl, ql⟩ := S.X.cells.resolve_left (by rw [← HL.out]; omega)
          have vn : (0 : Int) < (nl : Int) := by rw [← HL.out]; omega
          replace ql := ql 0 (by rw [← HL.out]; omega)
          rw [Nat.add_zero] at ql
          have F := S.F
          have heq := fun u => eql_pair_same u ma mb
          generalize nth X 0 = x at *
          have e1 : IntKind.i64.wrap (x * mb) = x * mb := IntWalk.i64_in _ (by have := natAbs_mul_le (x := x) (y := mb) (M := 999) (N := 1000000) (by omega) (by omega); omega)
          clear S BA BK HL
          go_quiet (fail)
          go_wp2
          go_ret
          exact ⟨rfl, F.drew' _⟩
end Go.Proofs.Ytojipjjfndgbhaa
/- The law FnHouseValues. -/
set_option linter.unusedVariables false
namespace Go.Proofs.Ytojipjjfndgbhaa
open Go.ChangeShapes Go.WideShapes Go.ChangeAt Go.RowKit
theorem vLess_any (w : World) (a b c d : Int) (ha : -1000000000 ≤ a ∧ a ≤ 1000000000) (hb : 1 ≤ b ∧ b ≤ 1000000) (hc : -1000000000 ≤ c ∧ c ≤ 1000000000) (hd : 1 ≤ d ∧ d ≤ 1000000) :
    Calls Try.prog 64 #[.agg #[.int .i64 a, .int .i64 b], .agg #[.int .i64 c, .int .i64 d]] w fun e w' => e = .returned (.bool (decide (a * d < c * b))) ∧ Fr w w' := by
  have e1 : IntKind.i64.wrap (a * d) = a * d := IntWalk.i64_in _ (by have := natAbs_mul_le (x := a) (y := d) (M := 1000000000) (N := 1000000) (by omega) (by omega); omega)
  have e2 : IntKind.i64.wrap (c * b) = c * b := IntWalk.i64_in _ (by have := natAbs_mul_le (x := c) (y := b) (M := 1000000000) (N := 1000000) (by omega) (by omega); omega)
  have f : Fr w ((w.alloc (.cells #[.int .i64 a, .int .i64 b] 46)).alloc (.cells #[.int .i64 c, .int .i64 d] 46)) := ((Fr.refl w).alloc _).alloc _
  go_enter Try.func64, Try.ntmps64
  go_wp2
  go_ret
  exact ⟨by first | rfl | simp [e1, e2], f⟩
/-- A drawn house in a law. -/
structure WvI (w : World) (k : Nat) (p q a : Option Addr) (n c m d l b : Nat) (h : HSt) (wr : World) : Prop where
  B : Blk wr k #[.slice p n c, .slice q m d, .slice a l b, .int .i64 h.t, .int .i64 h.s, .int .i64 h.u, .int .i64 h.v] 31
  P : SL wr p n c h.P
  W : SL wr q m d h.W
  X : SL wr a l b h.X
  F : Fr w wr
section
variable {w : World} {k : Nat} {p q a : Option Addr} {n c m d l b : Nat} {h : HSt} {wr w' : World}
theorem WvI.fr (H : WvI w k p q a n c m d l b h wr) (f : Fr wr w') : WvI w k p q a n c m d l b h w' := ⟨H.B.fr f, H.P.fr f, H.W.fr f, H.X.fr f, H.F.trans f⟩
theorem WvI.start {L B : Nat} (N : HsN L B wr p q a n c m d l b h) (F : Fr w wr) : WvI w wr.heap.size p q a n c m d l b h (wr.alloc (.cells #[.slice p n c, .slice q m d, .slice a l b, .int .i64 h.t, .int .i64 h.s, .int .i64 h.u, .int .i64 h.v] 31)) := by
  have f := (Fr.refl wr).alloc (.cells #[.slice p n c, .slice q m d, .slice a l b, .int .i64 h.t, .int .i64 h.s, .int .i64 h.u, .int .i64 h.v] 31)
  exact ⟨Blk.new _ _ _, N.op.sl.fr f, N.oq.sl.fr f, N.ox.sl.fr f, F.trans f⟩
theorem WvI.c0 (H : WvI w k p q a n c m d l b h wr) : wr.cell? ⟨k, 0, none⟩ = some (.slice p n c) := H.B.cell (j := 0) rfl
theorem WvI.c1 (H : WvI w k p q a n c m d l b h wr) : wr.cell? ⟨k, 1, none⟩ = some (.slice q m d) := H.B.cell (j := 1) rfl
theorem WvI.c2 (H : WvI w k p q a n c m d l b h wr) : wr.cell? ⟨k, 2, none⟩ = some (.slice a l b) := H.B.cell (j := 2) rfl
theorem WvI.c3 (H : WvI w k p q a n c m d l b h wr) : wr.cell? ⟨k, 3, none⟩ = some (.int .i64 h.t) := H.B.cell (j := 3) rfl
theorem WvI.c4 (H : WvI w k p q a n c m d l b h wr) : wr.cell? ⟨k, 4, none⟩ = some (.int .i64 h.s) := H.B.cell (j := 4) rfl
theorem WvI.c5 (H : WvI w k p q a n c m d l b h wr) : wr.cell? ⟨k, 5, none⟩ = some (.int .i64 h.u) := H.B.cell (j := 5) rfl
theorem WvI.c6 (H : WvI w k p q a n c m d l b h wr) : wr.cell? ⟨k, 6, none⟩ = some (.int .i64 h.v) := H.B.cell (j := 6) rfl
end
set_option maxRecDepth 100000 in
set_option maxHeartbeats 4000000 in
theorem walk_FnHouseValues (a : Option Addr) (n cap : Nat) (zs : List Int) (w : World) (h : SLB w a n cap zs) :
    Calls Try.prog 14 #[.slice a n cap] w fun e w' => e = .returned (.bool true) ∧ Fr w w' := by
  have hle := h.le; have hmx := h.mx
  have HV := Lib.hid (vBig_any w a n cap (by omega))
  by_cases hbig : 65536 < n
  · have hd : decide (65536 < n) = true := decide_eq_true hbig
    rw [hd] at HV
    go_enter Try.func14, Try.ntmps14
    go_wp2_with fail
    refine HV.out.mono ?_
    rintro e w' ⟨rfl, rfl⟩
    go_wp2
    go_ret
    exact ⟨rfl, Fr.refl _⟩
  · have hd : decide (65536 < n) = false := decide_eq_false hbig
    rw [hd] at HV
    have H := Lib.hid h
    clear h
    go_enter Try.func14, Try.ntmps14
    go_wp2_with fail
    refine HV.out.mono ?_
    rintro e w' ⟨rfl, rfl⟩
    clear HV hd
    go_wp2_with fail
    refine (DrawHouseValue_any w a n cap zs H.out).mono ?_
    rintro e w1 ⟨h, p, q, a, n, c, m, d, l, b, rfl, N, f⟩
    have hI := N.I
    have S := WvI.start N f
    clear N f
    have Q1 := Lib.hid (fun V h1 h2 h3 => impl_HouseValue_any V p q a n c m d l b h.P h.W h.X h.t h.s h.u h.v h1 h2 h3)
    have Q2 := Lib.hid (fun V h1 h2 h3 => spec_HouseValue_any V p q a n c m d l b h.P h.W h.X h.t h.s h.u h.v h1 h2 h3)
    have Q3 := Lib.hid (fun V h1 h2 h3 => impl_PriceMean_any V p q a n c m d l b h.P h.W h.X h.t h.s h.u h.v h1 h2 h3)
    have Q4 := Lib.hid (fun V h1 h2 h3 => spec_PriceMean_any V p q a n c m d l b h.P h.W h.X h.t h.s h.u h.v h1 h2 h3)
    have Q5 := Lib.hid (fun V h1 h2 h3 => impl_ShouldStop_any V p q a n c m d l b h.P h.W h.X h.t h.s h.u h.v h1 h2 h3)
    have Q6 := Lib.hid (fun V h1 h2 h3 => spec_ShouldStop_any V p q a n c m d l b h.P h.W h.X h.t h.s h.u h.v h1 h2 h3)
    have Q7 := Lib.hid (fun V h1 h2 h3 => IsFairProcess_any V p q a n c m d l b h.P h.W h.X h1 h2 h3)
    have Q8 := Lib.hid (fun V h1 h2 h3 => IsFalling_any V p q a n c m d l b h.P h.W h.X h1 h2 h3)
    have K := Lib.hid (fun h0 : houseB h.P h.W h.X h.t h.s h.u h.v = true => hvK h0)
    generalize (hvV h.P h.W h.X h.t h.s h.u h.v).1 = va at Q1 Q2 K
    generalize (hvV h.P h.W h.X h.t h.s h.u h.v).2 = vb at Q1 Q2 K
    generalize (pmV h.P h.W h.X h.t h.s h.u h.v).1 = ma at Q3 Q4 K
    generalize (pmV h.P h.W h.X h.t h.s h.u h.v).2 = mb at Q3 Q4 K
    generalize ssV h.P h.W h.X h.t h.s h.u h.v = ss at Q5 Q6 K
    generalize houseB h.P h.W h.X h.t h.s h.u h.v = okb at Q1 Q2 Q3 Q4 Q5 Q6 K
    generalize flatV h.P h.W h.X = fair at Q7 K
    generalize fallV h.P h.W h.X = falls at Q8 K
    generalize l3B h.P h.W h.X = known at Q7 Q8 K
    generalize hg3 : w1.heap.size = g3 at S
    go_upto_region 4 with fail
    clear hg3
    generalize w1.alloc _ = w2 at S ⊢
    have c0 := S.c0; have c1 := S.c1; have c2 := S.c2; have c3 := S.c3; have c4 := S.c4; have c5 := S.c5; have c6 := S.c6
    go_wp2_with fail
    refine (Q1.out _ S.P S.W S.X).mono ?_
    rintro e w3 ⟨rfl, f⟩
    have fz := f.alloc (.cells #[.int .i64 va, .int .i64 vb] 46)
    have G0 := Blk.new w3 #[.int .i64 va, .int .i64 vb] 46
    replace S := S.fr fz
    generalize hgx : w3.heap.size = g0x at G0
    clear c0 c1 c2 c3 c4 c5 c6 f fz Q1
    go_upto_region 5 with fail
    clear hgx
    generalize w3.alloc _ = w4 at S G0  ⊢
    have c0 := S.c0; have c1 := S.c1; have c2 := S.c2; have c3 := S.c3; have c4 := S.c4; have c5 := S.c5; have c6 := S.c6
    go_wp2_with fail
    refine (Q2.out _ S.P S.W S.X).mono ?_
    rintro e w5 ⟨rfl, f⟩
    have fz := f.alloc (.cells #[.int .i64 va, .int .i64 vb] 46)
    have G1 := Blk.new w5 #[.int .i64 va, .int .i64 vb] 46
    replace S := S.fr fz
    replace G0 := G0.fr fz
    generalize hgx : w5.heap.size = g1x at G1
    clear c0 c1 c2 c3 c4 c5 c6 f fz Q2
    go_upto_region 6 with fail
    clear hgx
    generalize w5.alloc _ = w6 at S G1 G0 ⊢
    have c0 := S.c0; have c1 := S.c1; have c2 := S.c2; have c3 := S.c3; have c4 := S.c4; have c5 := S.c5; have c6 := S.c6
    go_wp2_with fail
    refine (Q3.out _ S.P S.W S.X).mono ?_
    rintro e w7 ⟨rfl, f⟩
    have fz := f.alloc (.cells #[.int .i64 ma, .int .i64 mb] 46)
    have G2 := Blk.new w7 #[.int .i64 ma, .int .i64 mb] 46
    replace S := S.fr fz
    replace G0 := G0.fr fz
    replace G1 := G1.fr fz
    generalize hgx : w7.heap.size = g2x at G2
    clear c0 c1 c2 c3 c4 c5 c6 f fz Q3
    go_upto_region 7 with fail
    clear hgx
    generalize w7.alloc _ = w8 at S G2 G0 G1 ⊢
    have c0 := S.c0; have c1 := S.c1; have c2 := S.c2; have c3 := S.c3; have c4 := S.c4; have c5 := S.c5; have c6 := S.c6
    go_wp2_with fail
    refine (Q4.out _ S.P S.W S.X).mono ?_
    rintro e w9 ⟨rfl, f⟩
    have fz := f.alloc (.cells #[.int .i64 ma, .int .i64 mb] 46)
    have G3 := Blk.new w9 #[.int .i64 ma, .int .i64 mb] 46
    replace S := S.fr fz
    replace G0 := G0.fr fz
    replace G1 := G1.fr fz
    replace G2 := G2.fr fz
    generalize hgx : w9.heap.size = g3x at G3
    clear c0 c1 c2 c3 c4 c5 c6 f fz Q4
    go_upto_region 8 with fail
    clear hgx
    generalize w9.alloc _ = w10 at S G3 G0 G1 G2 ⊢
    have c0 := S.c0; have c1 := S.c1; have c2 := S.c2; have c3 := S.c3; have c4 := S.c4; have c5 := S.c5; have c6 := S.c6
    go_wp2_with fail
    refine (Q5.out _ S.P S.W S.X).mono ?_
    rintro e w11 ⟨rfl, f⟩
    replace S := S.fr f
    replace G0 := G0.fr f
    replace G1 := G1.fr f
    replace G2 := G2.fr f
    replace G3 := G3.fr f
    clear c0 c1 c2 c3 c4 c5 c6 f Q5
    go_upto_region 9 with fail
    have c0 := S.c0; have c1 := S.c1; have c2 := S.c2; have c3 := S.c3; have c4 := S.c4; have c5 := S.c5; have c6 := S.c6
    go_wp2_with fail
    refine (Q6.out _ S.P S.W S.X).mono ?_
    rintro e w12 ⟨rfl, f⟩
    replace S := S.fr f
    replace G0 := G0.fr f
    replace G1 := G1.fr f
    replace G2 := G2.fr f
    replace G3 := G3.fr f
    clear c0 c1 c2 c3 c4 c5 c6 f Q6
    go_upto_region 10 with fail
    have k0 := G0.cell (j := 0) (v := .int .i64 va) rfl; have k1 := G0.cell (j := 1) (v := .int .i64 vb) rfl
    have k2 := G1.cell (j := 0) (v := .int .i64 va) rfl; have k3 := G1.cell (j := 1) (v := .int .i64 vb) rfl
    have k4 := G2.cell (j := 0) (v := .int .i64 ma) rfl; have k5 := G2.cell (j := 1) (v := .int .i64 mb) rfl
    have k6 := G3.cell (j := 0) (v := .int .i64 ma) rfl; have k7 := G3.cell (j := 1) (v := .int .i64 mb) rfl
    have hne1 := fun u => neq_pair u va vb
    have hne2 := fun u => neq_pair u ma mb
    have hbb : (okb != okb) = false := by cases okb <;> rfl
    have hss : (ss != ss) = false := by cases ss <;> rfl
    go_upto_region 12 with fail
    clear k0 k1 k2 k3 k4 k5 k6 k7 hne1 hne2 hbb hss G1 G3
    cases okb
    · have F := S.F
      go_wp2
      go_ret
      exact ⟨rfl, F⟩
    · obtain ⟨⟨va1, vb1⟩, ⟨ma1, mb1⟩, px1, ⟨⟨t0, t1⟩, hXl, hPl⟩, m1, m2, hf1, hf2, rfl, hs⟩ := K.out rfl
      clear K
      obtain ⟨y, hy⟩ := Int.eq_ofNat_of_zero_le t0
      have ey : h.t.toNat = y := by omega
      rw [ey] at px1 m1 hf1 hf2 hs
      have HXL := Lib.hid S.X.len
      have hyl : y < l := by have := HXL.out; omega
      obtain ⟨bx, ox, rfl, qX⟩ := S.X.cells.resolve_left (by omega)
      replace qX := qX y hyl
      generalize nth h.X y = px at px1 m1 hf1 hf2 hs qX
      have c2 := S.c2
      have c3 := S.c3
      rw [hy] at c3
      have i1 : (0 : Int) ≤ (y : Int) := by omega
      have i2 : (y : Int) < (l : Int) := by omega
      clear t0 t1 hXl hPl hy ey
      have HS := Lib.hid hs
      clear hs
      generalize hwp : w12.alloc (.cells #[.int .i64 px, .int .i64 1] 46) = w13
      have GP : Blk w13 w12.heap.size #[.int .i64 px, .int .i64 1] 46 := by rw [← hwp]; exact Blk.new _ _ _
      have fz : Fr w12 w13 := by rw [← hwp]; exact (Fr.refl _).alloc _
      replace S := S.fr fz
      replace G0 := G0.fr fz
      replace G2 := G2.fr fz
      go_upto_region 15 with fail

      clear c2 c3 qX i1 i2 fz hwp
      generalize w12.heap.size = gp at GP ⊢
      have k0 := G0.cell (j := 0) (v := .int .i64 va) rfl; have k1 := G0.cell (j := 1) (v := .int .i64 vb) rfl
      have k2 := GP.cell (j := 0) (v := .int .i64 px) rfl; have k3 := GP.cell (j := 1) (v := .int .i64 1) rfl
      go_wp2_with fail
      refine (vLess_any _ va vb px 1 va1 vb1 (by omega) (by omega)).mono ?_
      rintro e w15 ⟨rfl, f⟩
      have d1 : decide (va * 1 < px * vb) = false := decide_eq_false (by omega)
      rw [d1]
      replace S := S.fr f
      replace G0 := G0.fr f
      replace G2 := G2.fr f
      replace GP := GP.fr f
      clear k0 k1 k2 k3 f d1
      have k0 := G0.cell (j := 0) (v := .int .i64 va) rfl; have k1 := G0.cell (j := 1) (v := .int .i64 vb) rfl
      have k2 := GP.cell (j := 0) (v := .int .i64 px) rfl; have k3 := GP.cell (j := 1) (v := .int .i64 1) rfl
      have k4 := G2.cell (j := 0) (v := .int .i64 ma) rfl; have k5 := G2.cell (j := 1) (v := .int .i64 mb) rfl
      have heq := fun u => eql_pair u va vb px 1
      rw [← HS.out] at heq
      have hss : (ss != ss) = false := by cases ss <;> rfl
      go_wp2_with fail
      refine (vLess_any _ va vb ma mb va1 vb1 ma1 mb1).mono ?_
      rintro e w16 ⟨rfl, f⟩
      have d1 : decide (va * mb < ma * vb) = false := decide_eq_false (by omega)
      rw [d1]
      replace S := S.fr f
      replace G2 := G2.fr f
      replace GP := GP.fr f
      clear k0 k1 k2 k3 k4 k5 f d1 heq hss G0
      go_upto_region 17 with fail
      have c0 := S.c0; have c1 := S.c1; have c2 := S.c2
      go_wp2_with fail
      refine (Q7.out _ S.P S.W S.X).mono ?_
      rintro e w17 ⟨rfl, f⟩
      replace S := S.fr f
      replace G2 := G2.fr f
      replace GP := GP.fr f
      clear c0 c1 c2 f Q7
      go_upto_region 18 with fail
      have c0 := S.c0; have c1 := S.c1; have c2 := S.c2
      go_wp2_with fail
      refine (Q8.out _ S.P S.W S.X).mono ?_
      rintro e w18 ⟨rfl, f⟩
      replace S := S.fr f
      replace G2 := G2.fr f
      replace GP := GP.fr f
      clear c0 c1 c2 f Q8
      go_upto_region 19 with fail
      have F := S.F
      have k2 := GP.cell (j := 0) (v := .int .i64 px) rfl; have k3 := GP.cell (j := 1) (v := .int .i64 1) rfl
      have k4 := G2.cell (j := 0) (v := .int .i64 ma) rfl; have k5 := G2.cell (j := 1) (v := .int .i64 mb) rfl
      have heq := fun u => eql_pair u ma mb px 1
      have hb1 : fair = true → ((ma == px) && (mb == 1)) = true := fun hf => by obtain ⟨e1, e2⟩ := hf1 hf; rw [e1, e2]; simp
      have hb2 : falls = true → ss = true := fun hf => by obtain ⟨e1, e2⟩ := hf2 hf; rw [HS.out, e1, e2]; simp
      clear S G2 GP m1 m2 hf1 hf2
      cases fair
      · cases falls
        · go_wp2
          go_ret
          exact ⟨rfl, F⟩
        · obtain rfl := hb2 rfl
          go_wp2
          go_ret
          exact ⟨rfl, F⟩
      · rw [hb1 rfl] at heq
        cases falls
        · go_wp2
          go_ret
          exact ⟨rfl, F⟩
        · obtain rfl := hb2 rfl
          go_wp2
          go_ret
          exact ⟨rfl, F⟩
end Go.Proofs.Ytojipjjfndgbhaa
