import Derived.Test.YtolnloeapbplkaaDoorTreeLaw
/- Contracts of the laws' functions on trees and houses: comparisons, marks. -/
set_option linter.unusedVariables false
namespace Go.Proofs.YtolnloeapbplkaaDoor
open Go.ChangeShapes Go.WideShapes Go.ChangeAt Go.RowKit

theorem eqTree_any (w : World) (p q p' q' : Option Addr) (n c m d n' c' m' d' : Nat) (P W P' W' : List Int) (hP : SL w p n c P) (hW : SL w q m d W) (hP' : SL w p' n' c' P') (hW' : SL w q' m' d' W') :
    Calls Tryd.prog 100 #[.agg #[.slice p n c, .slice q m d], .agg #[.slice p' n' c', .slice q' m' d']] w fun e w' => e = .returned (.bool (decide (P = P') && decide (W = W'))) ∧ Fr w w' := by
  have hfr : Fr w ((w.alloc (.cells #[.slice p n c, .slice q m d] 62)).alloc (.cells #[.slice p' n' c', .slice q' m' d'] 62)) := ((Fr.refl w).alloc _).alloc _
  have H0 := Lib.hid ((Blk.new w #[.slice p n c, .slice q m d] 62).alloc (.cells #[.slice p' n' c', .slice q' m' d'] 62))
  have H1 := Lib.hid (Blk.new (w.alloc (.cells #[.slice p n c, .slice q m d] 62)) #[.slice p' n' c', .slice q' m' d'] 62)
  rw [World.size_alloc] at H1
  have c0 := H0.out.cell (j := 0) rfl
  have c1 := H1.out.cell (j := 0) rfl
  go_enter Tryd.func100, Tryd.ntmps100
  go_wp2_with fail
  refine (eqIntS_any _ _ _ _ _ _ _ _ _ (hP.fr hfr) (hP'.fr hfr)).mono ?_
  rintro e w1 ⟨rfl, f1⟩
  clear c0 c1
  have c0 := (H0.out.fr f1).cell (j := 1) rfl
  have c1 := (H1.out.fr f1).cell (j := 1) rfl
  by_cases h : P = P'
  · have hb : decide (P = P') = true := by simp [h]
    have HB := Lib.hid hb
    clear h
    go_wp2_with fail
    refine (eqIntS_any _ _ _ _ _ _ _ _ _ (hW.fr (hfr.trans f1)) (hW'.fr (hfr.trans f1))).mono ?_
    rintro e w2 ⟨rfl, f2⟩
    clear hb
    by_cases h : W = W'
    · have hb : decide (W = W') = true := by simp [h]
      have HC := Lib.hid hb
      clear h
      go_wp2
      go_ret
      exact ⟨by rw [HB.out, HC.out]; rfl, (hfr.trans f1).trans f2⟩
    · have hb : decide (W = W') = false := by simp [h]
      have HC := Lib.hid hb
      clear h
      go_wp2
      go_ret
      exact ⟨by rw [HB.out, HC.out]; rfl, (hfr.trans f1).trans f2⟩
  · have hb : decide (P = P') = false := by simp [h]
    have HB := Lib.hid hb
    clear h
    go_wp2
    go_ret
    exact ⟨by rw [HB.out]; rfl, hfr.trans f1⟩

theorem eqTree_same (w : World) (p q p' q' : Option Addr) (n c m d n' c' m' d' : Nat) (P W : List Int) (hP : SL w p n c P) (hW : SL w q m d W) (hP' : SL w p' n' c' P) (hW' : SL w q' m' d' W) :
    Calls Tryd.prog 100 #[.agg #[.slice p n c, .slice q m d], .agg #[.slice p' n' c', .slice q' m' d']] w fun e w' => e = .returned (.bool true) ∧ Fr w w' :=
  (eqTree_any w p q p' q' n c m d n' c' m' d' P W P W hP hW hP' hW').mono fun e w' ⟨h1, h2⟩ => ⟨by simpa using h1, h2⟩

def eqH (P W X P' W' X' : List Int) (x s u v x' s' u' v' : Int) : Bool := (decide (P = P') && decide (W = W')) && decide (X = X') && (x == x') && (s == s') && (u == u') && (v == v')
theorem eqH_iff {P W X P' W' X' : List Int} {x s u v x' s' u' v' : Int} : eqH P W X P' W' X' x s u v x' s' u' v' = true ↔ P = P' ∧ W = W' ∧ X = X' ∧ x = x' ∧ s = s' ∧ u = u' ∧ v = v' := by
  simp [eqH, and_assoc]
/-- The comparison of a house with one that is the same. -/
theorem eqHouse_same (w : World) (p q a p' q' a' : Option Addr) (n c m d l b n' c' m' d' l' b' : Nat) (P W X : List Int) (x s u v : Int) (hP : SL w p n c P) (hW : SL w q m d W) (hX : SL w a l b X) (hP' : SL w p' n' c' P) (hW' : SL w q' m' d' W) (hX' : SL w a' l' b' X) :
    Calls Tryd.prog 74 #[.agg #[.slice p n c, .slice q m d, .slice a l b, .int .i64 x, .int .i64 s, .int .i64 u, .int .i64 v], .agg #[.slice p' n' c', .slice q' m' d', .slice a' l' b', .int .i64 x, .int .i64 s, .int .i64 u, .int .i64 v]] w fun e w' => e = .returned (.bool true) ∧ Fr w w' := by
  have hfr : Fr w ((w.alloc (.cells #[.slice p n c, .slice q m d, .slice a l b, .int .i64 x, .int .i64 s, .int .i64 u, .int .i64 v] 64)).alloc (.cells #[.slice p' n' c', .slice q' m' d', .slice a' l' b', .int .i64 x, .int .i64 s, .int .i64 u, .int .i64 v] 64)) := ((Fr.refl w).alloc _).alloc _
  have H0 := Lib.hid ((Blk.new w #[.slice p n c, .slice q m d, .slice a l b, .int .i64 x, .int .i64 s, .int .i64 u, .int .i64 v] 64).alloc (.cells #[.slice p' n' c', .slice q' m' d', .slice a' l' b', .int .i64 x, .int .i64 s, .int .i64 u, .int .i64 v] 64))
  have H1 := Lib.hid (Blk.new (w.alloc (.cells #[.slice p n c, .slice q m d, .slice a l b, .int .i64 x, .int .i64 s, .int .i64 u, .int .i64 v] 64)) #[.slice p' n' c', .slice q' m' d', .slice a' l' b', .int .i64 x, .int .i64 s, .int .i64 u, .int .i64 v] 64)
  rw [World.size_alloc] at H1
  have c0 := H0.out.cell (j := 0) rfl; have c1 := H1.out.cell (j := 0) rfl; have d0 := H0.out.cell (j := 1) rfl; have d1 := H1.out.cell (j := 1) rfl
  go_enter Tryd.func74, Tryd.ntmps74
  go_wp2_with fail
  refine (eqTree_any _ _ _ _ _ _ _ _ _ _ _ _ _ _ _ _ _ (hP.fr hfr) (hW.fr hfr) (hP'.fr hfr) (hW'.fr hfr)).mono ?_
  rintro e w1 ⟨rfl, f1⟩
  clear c0 c1 d0 d1
  have c0 := (H0.out.fr f1).cell (j := 2) rfl; have c1 := (H1.out.fr f1).cell (j := 2) rfl
  have hb : (decide (P = P) && decide (W = W)) = true := by simp
  go_wp2_with fail
  refine (eqIntS_any _ _ _ _ _ _ _ _ _ (hX.fr (hfr.trans f1)) (hX'.fr (hfr.trans f1))).mono ?_
  rintro e w2 ⟨rfl, f2⟩
  clear c0 c1 hb
  have hb : decide (X = X) = true := by simp
  have a0 := ((H0.out.fr f1).fr f2).cell (j := 3) rfl; have a1 := ((H1.out.fr f1).fr f2).cell (j := 3) rfl
  have b0 := ((H0.out.fr f1).fr f2).cell (j := 4) rfl; have b1 := ((H1.out.fr f1).fr f2).cell (j := 4) rfl
  have c0 := ((H0.out.fr f1).fr f2).cell (j := 5) rfl; have c1 := ((H1.out.fr f1).fr f2).cell (j := 5) rfl
  have d0 := ((H0.out.fr f1).fr f2).cell (j := 6) rfl; have d1 := ((H1.out.fr f1).fr f2).cell (j := 6) rfl
  go_wp2
  go_ret
  exact ⟨rfl, (hfr.trans f1).trans f2⟩

theorem Blk.skipIn {w w' : World} {g B H : Nat} {cs : Array Value} {t : TypeId} (h : Blk w g cs t) (G : GrownIn B H w w') (hd : g < B ∨ H ≤ g) : Blk w' g cs t := by
  unfold Blk; rw [G.block g h.lt (by omega)]; exact h

end Go.Proofs.YtolnloeapbplkaaDoor
