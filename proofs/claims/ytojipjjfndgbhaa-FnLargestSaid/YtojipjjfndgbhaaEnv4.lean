import Derived.Test.YtojipjjfndgbhaaEnv3
import Derived.ChangeKeysEq
/- Contracts of ShouldStop. -/
set_option linter.unusedVariables false
namespace Go.Proofs.Ytojipjjfndgbhaa
open Go.ChangeShapes Go.WideShapes Go.ChangeAt Go.RowKit

theorem eql_pair (w : World) (a b c d : Int) : (binOp .eql 46 (.agg #[.int .i64 a, .int .i64 b]) (.agg #[.int .i64 c, .int .i64 d])).run Try.prog w = .ok (.bool ((a == c) && (b == d))) w := by
  obtain ⟨i, hi, _⟩ := info_parts infoInt
  have hc : Try.prog.cellsOf 3 = 1 := by kernel_rfl
  rw [run_eql_struct, Go.run_equalIn_array w 9999 (t := 46) (e := 3) (n := 2) _ _ Try.underlying46 hi, hc]
  by_cases h : a = c
  · simp [Op.eqItems, List.range, List.range.loop, go_sem, Try.underlying3, h]
    by_cases h2 : b = d <;> simp [h2]
  · simp [Op.eqItems, List.range, List.range.loop, go_sem, Try.underlying3, h]
def ssV (P W X : List Int) (x s u v : Int) : Bool := houseB P W X x s u v && (((hvV P W X x s u v).1 == nth X x.toNat) && ((hvV P W X x s u v).2 == 1))

set_option maxRecDepth 100000 in
theorem impl_ShouldStop_any (w : World) (p q a : Option Addr) (n c m d l b : Nat) (P W X : List Int) (x s u v : Int) (hP : SL w p n c P) (hW : SL w q m d W) (hX : SL w a l b X) :
    Calls Try.prog 37 #[.agg #[.slice p n c, .slice q m d, .slice a l b, .int .i64 x, .int .i64 s, .int .i64 u, .int .i64 v]] w fun e w' => e = .returned (.tuple #[.bool (ssV P W X x s u v), .bool (houseB P W X x s u v)]) ∧ Fr w w' := by
  have HP := Lib.hid hP.len
  have HX := Lib.hid hX.len
  have hfr : Fr w (w.alloc (.cells #[.slice p n c, .slice q m d, .slice a l b, .int .i64 x, .int .i64 s, .int .i64 u, .int .i64 v] 31)) := (Fr.refl w).alloc _
  have H0 := Lib.hid (Blk.new w #[.slice p n c, .slice q m d, .slice a l b, .int .i64 x, .int .i64 s, .int .i64 u, .int .i64 v] 31)
  have c0 := H0.out.cell (j := 0) rfl; have c1 := H0.out.cell (j := 1) rfl; have c2 := H0.out.cell (j := 2) rfl; have c3 := H0.out.cell (j := 3) rfl; have c4 := H0.out.cell (j := 4) rfl; have c5 := H0.out.cell (j := 5) rfl; have c6 := H0.out.cell (j := 6) rfl
  go_enter Try.func37, Try.ntmps37
  go_wp2_with fail
  clear c0 c1 c2 c3 c4 c5 c6
  refine (impl_HouseValue_any _ _ _ _ _ _ _ _ _ _ _ _ _ _ _ _ _ (hP.fr hfr) (hW.fr hfr) (hX.fr hfr)).mono ?_
  rintro e w1 ⟨rfl, f1⟩
  have hF1 := hfr.trans f1
  have HV : Hid (ssV P W X x s u v = (houseB P W X x s u v && (((hvV P W X x s u v).1 == nth X x.toNat) && ((hvV P W X x s u v).2 == 1)))) := Lib.hid rfl
  generalize (hvV P W X x s u v).1 = ha at HV ⊢
  generalize (hvV P W X x s u v).2 = hb at HV ⊢
  cases h : houseB P W X x s u v
  · have HS : Hid (ssV P W X x s u v = false) := Lib.hid (by rw [ssV, h]; rfl)
    have HB := Lib.hid h
    go_wp2
    go_ret2
    exact ⟨by rw [HS.out, HB.out]; rfl, hF1.alloc _⟩
  · have HS : Hid (ssV P W X x s u v = ((ha == nth X x.toNat) && (hb == 1))) := Lib.hid (by rw [HV.out, h]; rfl)
    have HB := Lib.hid h
    obtain ⟨t1, t2, t3, t4⟩ := houseB_parts h
    have hln : l = n := by rw [← HX.out, ← HP.out]; exact (procB_iff.1 t2).1
    subst hln
    rw [HP.out] at t4
    obtain ⟨y, rfl⟩ := Int.eq_ofNat_of_zero_le t3
    have hyl : y < l := by omega
    clear t1 t2 t3
    have G0 := (H0.out.fr f1).alloc (.cells #[.int .i64 ha, .int .i64 hb] 46)
    have c1 := G0.cell (j := 2) rfl; have c2 := G0.cell (j := 3) rfl
    obtain ⟨bx, ox, rfl, hcx⟩ := (hX.fr (hF1.alloc (.cells #[.int .i64 ha, .int .i64 hb] 46))).cells.resolve_left (by omega)
    have i1 : (0 : Int) ≤ (y : Int) := by omega
    have i2 : (y : Int) < (l : Int) := by omega
    replace hcx := hcx y hyl
    have heq := fun w => eql_pair w ha hb (nth X y) 1
    go_wp2
    go_quiet (fail)
    go_wp2
    go_ret2
    exact ⟨by rw [HS.out, HB.out]; rfl, (hF1.alloc _).drew' _⟩

set_option maxRecDepth 100000 in
theorem spec_ShouldStop_any (w : World) (p q a : Option Addr) (n c m d l b : Nat) (P W X : List Int) (x s u v : Int) (hP : SL w p n c P) (hW : SL w q m d W) (hX : SL w a l b X) :
    Calls Try.prog 36 #[.agg #[.slice p n c, .slice q m d, .slice a l b, .int .i64 x, .int .i64 s, .int .i64 u, .int .i64 v]] w fun e w' => e = .returned (.tuple #[.bool (ssV P W X x s u v), .bool (houseB P W X x s u v)]) ∧ Fr w w' := by
  have HP := Lib.hid hP.len
  have HX := Lib.hid hX.len
  have hfr : Fr w (w.alloc (.cells #[.slice p n c, .slice q m d, .slice a l b, .int .i64 x, .int .i64 s, .int .i64 u, .int .i64 v] 31)) := (Fr.refl w).alloc _
  have H0 := Lib.hid (Blk.new w #[.slice p n c, .slice q m d, .slice a l b, .int .i64 x, .int .i64 s, .int .i64 u, .int .i64 v] 31)
  have c0 := H0.out.cell (j := 0) rfl; have c1 := H0.out.cell (j := 1) rfl; have c2 := H0.out.cell (j := 2) rfl; have c3 := H0.out.cell (j := 3) rfl; have c4 := H0.out.cell (j := 4) rfl; have c5 := H0.out.cell (j := 5) rfl; have c6 := H0.out.cell (j := 6) rfl
  go_enter Try.func36, Try.ntmps36
  go_wp2_with fail
  clear c0 c1 c2 c3 c4 c5 c6
  refine (spec_HouseValue_any _ _ _ _ _ _ _ _ _ _ _ _ _ _ _ _ _ (hP.fr hfr) (hW.fr hfr) (hX.fr hfr)).mono ?_
  rintro e w1 ⟨rfl, f1⟩
  have hF1 := hfr.trans f1
  have HV : Hid (ssV P W X x s u v = (houseB P W X x s u v && (((hvV P W X x s u v).1 == nth X x.toNat) && ((hvV P W X x s u v).2 == 1)))) := Lib.hid rfl
  generalize (hvV P W X x s u v).1 = ha at HV ⊢
  generalize (hvV P W X x s u v).2 = hb at HV ⊢
  cases h : houseB P W X x s u v
  · have HS : Hid (ssV P W X x s u v = false) := Lib.hid (by rw [ssV, h]; rfl)
    have HB := Lib.hid h
    go_wp2
    go_ret2
    exact ⟨by rw [HS.out, HB.out]; rfl, hF1.alloc _⟩
  · have HS : Hid (ssV P W X x s u v = ((ha == nth X x.toNat) && (hb == 1))) := Lib.hid (by rw [HV.out, h]; rfl)
    have HB := Lib.hid h
    obtain ⟨t1, t2, t3, t4⟩ := houseB_parts h
    have hln : l = n := by rw [← HX.out, ← HP.out]; exact (procB_iff.1 t2).1
    subst hln
    rw [HP.out] at t4
    obtain ⟨y, rfl⟩ := Int.eq_ofNat_of_zero_le t3
    have hyl : y < l := by omega
    clear t1 t2 t3
    have G0 := (H0.out.fr f1).alloc (.cells #[.int .i64 ha, .int .i64 hb] 46)
    have c1 := G0.cell (j := 2) rfl; have c2 := G0.cell (j := 3) rfl
    obtain ⟨bx, ox, rfl, hcx⟩ := (hX.fr (hF1.alloc (.cells #[.int .i64 ha, .int .i64 hb] 46))).cells.resolve_left (by omega)
    have i1 : (0 : Int) ≤ (y : Int) := by omega
    have i2 : (y : Int) < (l : Int) := by omega
    replace hcx := hcx y hyl
    have heq := fun w => eql_pair w ha hb (nth X y) 1
    go_wp2
    go_quiet (fail)
    go_wp2
    go_ret2
    exact ⟨by rw [HS.out, HB.out]; rfl, (hF1.alloc _).drew' _⟩

end Go.Proofs.Ytojipjjfndgbhaa
