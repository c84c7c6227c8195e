import Derived.Test.YtolnloeapbplkaaDoorTreeLaw2
import Derived.Test.YtolnloeapbplkaaDoorOpenS
import Derived.Test.YtolnloeapbplkaaDoorOpenL
import Derived.Test.YtolnloeapbplkaaDoorLog3
/- Consoles: what came in, contracts of IsValidConsole and of the laws' helpers. -/
set_option linter.unusedVariables false
namespace Go.Proofs.YtolnloeapbplkaaDoor
open Go.ChangeShapes Go.WideShapes Go.ChangeAt Go.RowKit Go.Deep

section
variable {H : Type} {enc : TypeId × Value → H} {w : World} {base : Nat} {held : Bool}
set_option maxRecDepth 100000 in
theorem house_of_trod {n : Nat} {c0 c1 c2 c3 c4 c5 c6 : Value} {y : DataW H × List MemPlace} (hf : DataW.trod enc Tryd.prog w base (fun _ => true) held n 56 [c0, c1, c2, c3, c4, c5, c6] = some y) :
    ∃ p l c P q m d W a k b X x s u z, c0 = .slice p l c ∧ c1 = .slice q m d ∧ c2 = .slice a k b ∧ c3 = .int .i64 x ∧ c4 = .int .i64 s ∧ c5 = .int .i64 u ∧ c6 = .int .i64 z ∧ SL w p l c P ∧ SL w q m d W ∧ SL w a k b X ∧ I64 x ∧ I64 s ∧ I64 u ∧ I64 z := by
  obtain ⟨xs, k, _, _, _, hlen, hg⟩ := DataW.trod_struct Tryd.underlying56 hf
  obtain ⟨y0, hy0⟩ := some_of_len (i := 0) hlen (by decide)
  obtain ⟨y1, hy1⟩ := some_of_len (i := 1) hlen (by decide)
  obtain ⟨y2, hy2⟩ := some_of_len (i := 2) hlen (by decide)
  obtain ⟨y3, hy3⟩ := some_of_len (i := 3) hlen (by decide)
  obtain ⟨y4, hy4⟩ := some_of_len (i := 4) hlen (by decide)
  obtain ⟨y5, hy5⟩ := some_of_len (i := 5) hlen (by decide)
  have e0 : Tryd.prog.cellsOf 52 = 1 := by kernel_rfl
  have e1 : Tryd.prog.cellsOf 3 = 1 := by kernel_rfl
  have e2 : Tryd.prog.cellsOf 54 = 2 := by kernel_rfl
  have g0 : DataW.trod enc Tryd.prog w base (fun _ => true) held k 54 (([c0, c1, c2, c3, c4, c5, c6].drop 0).take (Tryd.prog.cellsOf 54)) = xs[0]? := hg 0 _ rfl
  have g1 : DataW.trod enc Tryd.prog w base (fun _ => true) held k 52 (([c0, c1, c2, c3, c4, c5, c6].drop 2).take (Tryd.prog.cellsOf 52)) = xs[1]? := hg 1 _ rfl
  have g2 : DataW.trod enc Tryd.prog w base (fun _ => true) held k 3 (([c0, c1, c2, c3, c4, c5, c6].drop 3).take (Tryd.prog.cellsOf 3)) = xs[2]? := hg 2 _ rfl
  have g3 : DataW.trod enc Tryd.prog w base (fun _ => true) held k 3 (([c0, c1, c2, c3, c4, c5, c6].drop 4).take (Tryd.prog.cellsOf 3)) = xs[3]? := hg 3 _ rfl
  have g4 : DataW.trod enc Tryd.prog w base (fun _ => true) held k 3 (([c0, c1, c2, c3, c4, c5, c6].drop 5).take (Tryd.prog.cellsOf 3)) = xs[4]? := hg 4 _ rfl
  have g5 : DataW.trod enc Tryd.prog w base (fun _ => true) held k 3 (([c0, c1, c2, c3, c4, c5, c6].drop 6).take (Tryd.prog.cellsOf 3)) = xs[5]? := hg 5 _ rfl
  rw [e2, hy0] at g0
  rw [e0, hy1] at g1
  rw [e1, hy2] at g2
  rw [e1, hy3] at g3
  rw [e1, hy4] at g4
  rw [e1, hy5] at g5
  obtain ⟨p, l, c, q, m, d, P, W, rfl, rfl, hP, hW⟩ := tree_of_trod g0
  obtain ⟨a, k, b, X, rfl, hX⟩ := sl_of_trod g1
  obtain ⟨x, rfl, ix⟩ := int_of_trod g2
  obtain ⟨s, rfl, is⟩ := int_of_trod g3
  obtain ⟨u, rfl, iu⟩ := int_of_trod g4
  obtain ⟨z, rfl, iz⟩ := int_of_trod g5
  exact ⟨p, l, c, P, q, m, d, W, a, k, b, X, x, s, u, z, rfl, rfl, rfl, rfl, rfl, rfl, rfl, hP, hW, hX, ix, is, iu, iz⟩
set_option maxRecDepth 100000 in
theorem log_of_trod {n : Nat} {c0 c1 c2 : Value} {y : DataW H × List MemPlace} (hf : DataW.trod enc Tryd.prog w base (fun _ => true) held n 57 [c0, c1, c2] = some y) :
    ∃ s t k, c0 = .string s ∧ c1 = .string t ∧ c2 = .int .i64 k ∧ s.size ≤ maxLen ∧ t.size ≤ maxLen ∧ I64 k := by
  obtain ⟨xs, k, _, _, _, hlen, hg⟩ := DataW.trod_struct Tryd.underlying57 hf
  obtain ⟨y0, hy0⟩ := some_of_len (i := 0) hlen (by decide)
  obtain ⟨y1, hy1⟩ := some_of_len (i := 1) hlen (by decide)
  obtain ⟨y2, hy2⟩ := some_of_len (i := 2) hlen (by decide)
  have e1 : Tryd.prog.cellsOf 9 = 1 := by kernel_rfl
  have e2 : Tryd.prog.cellsOf 3 = 1 := by kernel_rfl
  have g0 : DataW.trod enc Tryd.prog w base (fun _ => true) held k 9 (([c0, c1, c2].drop 0).take (Tryd.prog.cellsOf 9)) = xs[0]? := hg 0 _ rfl
  have g1 : DataW.trod enc Tryd.prog w base (fun _ => true) held k 9 (([c0, c1, c2].drop 1).take (Tryd.prog.cellsOf 9)) = xs[1]? := hg 1 _ rfl
  have g2 : DataW.trod enc Tryd.prog w base (fun _ => true) held k 3 (([c0, c1, c2].drop 2).take (Tryd.prog.cellsOf 3)) = xs[2]? := hg 2 _ rfl
  rw [e1, hy0] at g0
  rw [e1, hy1] at g1
  rw [e2, hy2] at g2
  obtain ⟨s, rfl, is⟩ := str_of_trod g0
  obtain ⟨t, rfl, it⟩ := str_of_trod g1
  obtain ⟨k, rfl, ik⟩ := int_of_trod g2
  exact ⟨s, t, k, rfl, rfl, rfl, is, it, ik⟩
set_option maxRecDepth 100000 in
theorem open_console {r : Reach} {b0 : Nat} {v : Value} {d : DataW H} {pl : List MemPlace} (hv : Value.okWide Tryd.prog w r b0 59 v) (h : DataW.Trod enc Tryd.prog w base (fun _ => true) held 59 v d pl) :
    ∃ p l c P q m d W a k b X x s u z sd sp n, v = .agg #[.slice p l c, .slice q m d, .slice a k b, .int .i64 x, .int .i64 s, .int .i64 u, .int .i64 z, .string sd, .string sp, .int .i64 n] ∧ SL w p l c P ∧ SL w q m d W ∧ SL w a k b X ∧ I64 x ∧ I64 s ∧ I64 u ∧ I64 z ∧ sd.size ≤ maxLen ∧ sp.size ≤ maxLen ∧ I64 n := by
  obtain ⟨cs, rfl, hsz⟩ := okWide_struct Tryd.underlying59 hv
  have e : Tryd.prog.cellsOf 59 = 10 := by kernel_rfl
  rw [e] at hsz
  obtain ⟨l⟩ := cs
  match l, hsz with
  | [c0, c1, c2, c3, c4, c5, c6, c7, c8, c9], _ =>
    obtain ⟨fuel, hf⟩ := h
    obtain ⟨xs, k, _, _, _, hlen, hg⟩ := DataW.trod_struct Tryd.underlying59 hf
    obtain ⟨y0, hy0⟩ := some_of_len (i := 0) hlen (by decide)
    obtain ⟨y1, hy1⟩ := some_of_len (i := 1) hlen (by decide)
    have e0 : Tryd.prog.cellsOf 56 = 7 := by kernel_rfl
    have e1 : Tryd.prog.cellsOf 57 = 3 := by kernel_rfl
    have g0 : DataW.trod enc Tryd.prog w base (fun _ => true) held k 56 (([c0, c1, c2, c3, c4, c5, c6, c7, c8, c9].drop 0).take (Tryd.prog.cellsOf 56)) = xs[0]? := hg 0 _ rfl
    have g1 : DataW.trod enc Tryd.prog w base (fun _ => true) held k 57 (([c0, c1, c2, c3, c4, c5, c6, c7, c8, c9].drop 7).take (Tryd.prog.cellsOf 57)) = xs[1]? := hg 1 _ rfl
    rw [e0, hy0] at g0
    rw [e1, hy1] at g1
    obtain ⟨p, l, c, P, q, m, d, W, a, k, b, X, x, s, u, z, rfl, rfl, rfl, rfl, rfl, rfl, rfl, h1, h2, h3, h4, h5, h6, h7⟩ := house_of_trod g0
    obtain ⟨sd, sp, n, rfl, rfl, rfl, h8, h9, h10⟩ := log_of_trod g1
    exact ⟨p, l, c, P, q, m, d, W, a, k, b, X, x, s, u, z, sd, sp, n, rfl, h1, h2, h3, h4, h5, h6, h7, h8, h9, h10⟩
end

def szC (n m k sd sp : Nat) (l : Int) : Int := if szH n m k l < 0 then -1 else if szR sd sp (szH n m k l) < 0 then -1 else szR sd sp (szH n m k l)
theorem szC_fit {n m k sd sp : Nat} {l : Int} (h : ¬ szC n m k sd sp l < 0) : (n : Int) ≤ l ∧ (m : Int) ≤ l ∧ (k : Int) ≤ l ∧ (sd : Int) + sp ≤ l := by
  unfold szC at h
  by_cases h1 : szH n m k l < 0
  · rw [if_pos h1] at h; simp at h
  · rw [if_neg h1] at h
    by_cases h2 : szR sd sp (szH n m k l) < 0
    · rw [if_pos h2] at h; simp at h
    · have := szH_fit h1; have := szR_fit h2; omega
/-- Is a console valid? -/
def consB (P W X : List Int) (x s u v : Int) (d p : ByteArray) (c : Int) : Bool := houseB P W X x s u v && logB (bl d) (bl p) c

theorem szConsole_any (w : World) (p q a : Option Addr) (n c m d k b : Nat) (x s u v : Int) (sd sp : ByteArray) (z l : Int) (hn : n ≤ 9223372036854775807) (hm : m ≤ 9223372036854775807) (hk : k ≤ 9223372036854775807) (hd : sd.size ≤ 9223372036854775807) (hp : sp.size ≤ 9223372036854775807) (h0 : 0 ≤ l) (h1 : l ≤ 1048576) :
    Calls Tryd.prog 38 #[.agg #[.slice p n c, .slice q m d, .slice a k b, .int .i64 x, .int .i64 s, .int .i64 u, .int .i64 v, .string sd, .string sp, .int .i64 z], .int .i64 l] w fun e w' => e = .returned (.int .i64 (szC n m k sd.size sp.size l)) ∧ Fr w w' := by
  have hfr : Fr w (w.alloc (.cells #[.slice p n c, .slice q m d, .slice a k b, .int .i64 x, .int .i64 s, .int .i64 u, .int .i64 v, .string sd, .string sp, .int .i64 z] 59)) := (Fr.refl w).alloc _
  have r1 := szH_rng n m k l h0
  by_cases h : szH n m k l < 0
  · have HV : Hid (szC n m k sd.size sp.size l = -1) := Lib.hid (by rw [szC, if_pos h])
    go_enter Tryd.func38, Tryd.ntmps38
    go_wp2_with fail
    refine (szHouse_any _ _ _ _ _ _ _ _ _ _ _ _ _ _ _ hn hm hk h0 h1).mono ?_
    rintro e w1 ⟨rfl, f1⟩
    go_wp2
    go_ret
    exact ⟨by rw [HV.out]; rfl, hfr.trans f1⟩
  · have HV : Hid (szC n m k sd.size sp.size l = if szR sd.size sp.size (szH n m k l) < 0 then -1 else szR sd.size sp.size (szH n m k l)) := Lib.hid (by rw [szC, if_neg h])
    go_enter Tryd.func38, Tryd.ntmps38
    go_wp2_with fail
    refine (szHouse_any _ _ _ _ _ _ _ _ _ _ _ _ _ _ _ hn hm hk h0 h1).mono ?_
    rintro e w1 ⟨rfl, f1⟩
    generalize szH n m k l = y at h r1 HV ⊢
    have b7 := f1.newCell (j := 7) (v := .string sd) rfl
    have b8 := f1.newCell (j := 8) (v := .string sp) rfl
    have b9 := f1.newCell (j := 9) (v := .int .i64 z) rfl
    go_wp2_with fail
    refine (szLog_any sd sp z _ _ hd hp (by omega) (by omega)).mono ?_
    rintro e w2 ⟨rfl, f2⟩
    generalize szR sd.size sp.size y = y2 at HV ⊢
    by_cases h3 : y2 < 0
    · have HX : Hid (szC n m k sd.size sp.size l = -1) := Lib.hid (by rw [HV.out, if_pos h3])
      go_wp2
      go_ret
      exact ⟨by rw [HX.out]; rfl, (hfr.trans f1).trans f2⟩
    · have HX : Hid (szC n m k sd.size sp.size l = y2) := Lib.hid (by rw [HV.out, if_neg h3])
      go_wp2
      go_ret
      exact ⟨by rw [HX.out]; rfl, (hfr.trans f1).trans f2⟩
theorem impl_IsValidConsole_any (w : World) (p q a : Option Addr) (n c m d l k : Nat) (P W X : List Int) (hP : SL w p n c P) (hW : SL w q m d W) (hX : SL w a l k X) (x s u v : Int) (sd sp : ByteArray) (z : Int) (hs : sd.size + sp.size ≤ 1048576) (hE : Env w) :
    Calls Tryd.prog 41 #[.agg #[.slice p n c, .slice q m d, .slice a l k, .int .i64 x, .int .i64 s, .int .i64 u, .int .i64 v, .string sd, .string sp, .int .i64 z]] w fun e w' => e = .returned (.bool (consB P W X x s u v sd sp z)) ∧ Fr w w' := by
  have hfr : Fr w (w.alloc (.cells #[.slice p n c, .slice q m d, .slice a l k, .int .i64 x, .int .i64 s, .int .i64 u, .int .i64 v, .string sd, .string sp, .int .i64 z] 66)) := (Fr.refl w).alloc _
  go_enter Tryd.func41, Tryd.ntmps41
  go_wp2_with fail
  refine (impl_IsHouse_any _ _ _ _ _ _ _ _ _ _ _ _ _ (hP.fr hfr) (hW.fr hfr) (hX.fr hfr) x s u v).mono ?_
  rintro e w1 ⟨rfl, f1⟩
  have b7 := f1.newCell (j := 7) (v := .string sd) rfl
  have b8 := f1.newCell (j := 8) (v := .string sp) rfl
  have b9 := f1.newCell (j := 9) (v := .int .i64 z) rfl
  cases h : houseB P W X x s u v
  · have HV : Hid (consB P W X x s u v sd sp z = false) := Lib.hid (by rw [consB, h]; rfl)
    clear h
    go_wp2
    go_ret
    exact ⟨by rw [HV.out]; rfl, hfr.trans f1⟩
  · have HV : Hid (consB P W X x s u v sd sp z = logB (bl sd) (bl sp) z) := Lib.hid (by rw [consB, h]; rfl)
    clear h
    go_wp2_with fail
    refine (IsValidLog_any sd sp z _ hs ((hE.fr hfr).fr f1)).mono ?_
    rintro e w2 ⟨rfl, f2⟩
    go_wp2
    go_ret
    exact ⟨by rw [HV.out]; rfl, (hfr.trans f1).trans f2⟩
theorem spec_IsValidConsole_any (w : World) (p q a : Option Addr) (n c m d l k : Nat) (P W X : List Int) (hP : SL w p n c P) (hW : SL w q m d W) (hX : SL w a l k X) (x s u v : Int) (sd sp : ByteArray) (z : Int) (hs : sd.size + sp.size ≤ 1048576) :
    Calls Tryd.prog 39 #[.agg #[.slice p n c, .slice q m d, .slice a l k, .int .i64 x, .int .i64 s, .int .i64 u, .int .i64 v, .string sd, .string sp, .int .i64 z]] w fun e w' => e = .returned (.bool (consB P W X x s u v sd sp z)) ∧ Fr w w' := by
  have hfr : Fr w (w.alloc (.cells #[.slice p n c, .slice q m d, .slice a l k, .int .i64 x, .int .i64 s, .int .i64 u, .int .i64 v, .string sd, .string sp, .int .i64 z] 66)) := (Fr.refl w).alloc _
  go_enter Tryd.func39, Tryd.ntmps39
  go_wp2_with fail
  refine (l12Good_any _ _ _ _ _ _ _ _ _ _ _ _ _ (hP.fr hfr) (hW.fr hfr) (hX.fr hfr) x s u v).mono ?_
  rintro e w1 ⟨rfl, f1⟩
  have b7 := f1.newCell (j := 7) (v := .string sd) rfl
  have b8 := f1.newCell (j := 8) (v := .string sp) rfl
  have b9 := f1.newCell (j := 9) (v := .int .i64 z) rfl
  cases h : houseB P W X x s u v
  · have HV : Hid (consB P W X x s u v sd sp z = false) := Lib.hid (by rw [consB, h]; rfl)
    clear h
    go_wp2
    go_ret
    exact ⟨by rw [HV.out]; rfl, hfr.trans f1⟩
  · have HV : Hid (consB P W X x s u v sd sp z = logB (bl sd) (bl sp) z) := Lib.hid (by rw [consB, h]; rfl)
    clear h
    go_wp2_with fail
    refine (l12Valid_any sd sp z _ hs).mono ?_
    rintro e w2 ⟨rfl, f2⟩
    go_wp2
    go_ret
    exact ⟨by rw [HV.out]; rfl, (hfr.trans f1).trans f2⟩
end Go.Proofs.YtolnloeapbplkaaDoor
