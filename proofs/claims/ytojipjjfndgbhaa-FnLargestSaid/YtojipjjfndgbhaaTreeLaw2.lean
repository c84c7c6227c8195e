import Derived.Test.YtojipjjfndgbhaaTreeLaw
/- Contracts of the laws' functions on trees and houses: comparisons, marks. -/
set_option linter.unusedVariables false
namespace Go.Proofs.Ytojipjjfndgbhaa
open Go.ChangeShapes Go.WideShapes Go.ChangeAt Go.RowKit

theorem eqTree_any (w : World) (p q p' q' : Option Addr) (n c m d n' c' m' d' : Nat) (P W P' W' : List Int) (hP : SL w p n c P) (hW : SL w q m d W) (hP' : SL w p' n' c' P') (hW' : SL w q' m' d' W') :
    Calls Try.prog 25 #[.agg #[.slice p n c, .slice q m d], .agg #[.slice p' n' c', .slice q' m' d']] w fun e w' => e = .returned (.bool (decide (P = P') && decide (W = W'))) ∧ Fr w w' := by
  have hfr : Fr w ((w.alloc (.cells #[.slice p n c, .slice q m d] 29)).alloc (.cells #[.slice p' n' c', .slice q' m' d'] 29)) := ((Fr.refl w).alloc _).alloc _
  have H0 := Lib.hid ((Blk.new w #[.slice p n c, .slice q m d] 29).alloc (.cells #[.slice p' n' c', .slice q' m' d'] 29))
  have H1 := Lib.hid (Blk.new (w.alloc (.cells #[.slice p n c, .slice q m d] 29)) #[.slice p' n' c', .slice q' m' d'] 29)
  rw [World.size_alloc] at H1
  have c0 := H0.out.cell (j := 0) rfl
  have c1 := H1.out.cell (j := 0) rfl
  go_enter Try.func25, Try.ntmps25
  go_wp2_with fail
  refine (eqIntS_any _ _ _ _ _ _ _ _ _ (hP.fr hfr) (hP'.fr hfr)).mono ?_
  rintro e w1 ⟨rfl, f1⟩
  clear c0 c1
  have c0 := (H0.out.fr f1).cell (j := 1) rfl
  have c1 := (H1.out.fr f1).cell (j := 1) rfl
  by_cases h : P = P'
  · have hb : decide (P = P') = true := by simp [h]
    have HB := Lib.hid hb
    clear h
    go_wp2_with fail
    refine (eqIntS_any _ _ _ _ _ _ _ _ _ (hW.fr (hfr.trans f1)) (hW'.fr (hfr.trans f1))).mono ?_
    rintro e w2 ⟨rfl, f2⟩
    clear hb
    by_cases h : W = W'
    · have hb : decide (W = W') = true := by simp [h]
      have HC := Lib.hid hb
      clear h
      go_wp2
      go_ret
      exact ⟨by rw [HB.out, HC.out]; rfl, (hfr.trans f1).trans f2⟩
    · have hb : decide (W = W') = false := by simp [h]
      have HC := Lib.hid hb
      clear h
      go_wp2
      go_ret
      exact ⟨by rw [HB.out, HC.out]; rfl, (hfr.trans f1).trans f2⟩
  · have hb : decide (P = P') = false := by simp [h]
    have HB := Lib.hid hb
    clear h
    go_wp2
    go_ret
    exact ⟨by rw [HB.out]; rfl, hfr.trans f1⟩

theorem eqTree_same (w : World) (p q p' q' : Option Addr) (n c m d n' c' m' d' : Nat) (P W : List Int) (hP : SL w p n c P) (hW : SL w q m d W) (hP' : SL w p' n' c' P) (hW' : SL w q' m' d' W) :
    Calls Try.prog 25 #[.agg #[.slice p n c, .slice q m d], .agg #[.slice p' n' c', .slice q' m' d']] w fun e w' => e = .returned (.bool true) ∧ Fr w w' :=
  (eqTree_any w p q p' q' n c m d n' c' m' d' P W P W hP hW hP' hW').mono fun e w' ⟨h1, h2⟩ => ⟨by simpa using h1, h2⟩

def eqH (P W X P' W' X' : List Int) (x s u v x' s' u' v' : Int) : Bool := (decide (P = P') && decide (W = W')) && decide (X = X') && (x == x') && (s == s') && (u == u') && (v == v')
theorem eqH_iff {P W X P' W' X' : List Int} {x s u v x' s' u' v' : Int} : eqH P W X P' W' X' x s u v x' s' u' v' = true ↔ P = P' ∧ W = W' ∧ X = X' ∧ x = x' ∧ s = s' ∧ u = u' ∧ v = v' := by
  simp [eqH, and_assoc]
/-- The comparison of a house with one that is the same. -/
theorem eqHouse_same (w : World) (p q a p' q' a' : Option Addr) (n c m d l b n' c' m' d' l' b' : Nat) (P W X : List Int) (x s u v : Int) (hP : SL w p n c P) (hW : SL w q m d W) (hX : SL w a l b X) (hP' : SL w p' n' c' P) (hW' : SL w q' m' d' W) (hX' : SL w a' l' b' X) :
    Calls Try.prog 19 #[.agg #[.slice p n c, .slice q m d, .slice a l b, .int .i64 x, .int .i64 s, .int .i64 u, .int .i64 v], .agg #[.slice p' n' c', .slice q' m' d', .slice a' l' b', .int .i64 x, .int .i64 s, .int .i64 u, .int .i64 v]] w fun e w' => e = .returned (.bool true) ∧ Fr w w' := by
  have hfr : Fr w ((w.alloc (.cells #[.slice p n c, .slice q m d, .slice a l b, .int .i64 x, .int .i64 s, .int .i64 u, .int .i64 v] 31)).alloc (.cells #[.slice p' n' c', .slice q' m' d', .slice a' l' b', .int .i64 x, .int .i64 s, .int .i64 u, .int .i64 v] 31)) := ((Fr.refl w).alloc _).alloc _
  have H0 := Lib.hid ((Blk.new w #[.slice p n c, .slice q m d, .slice a l b, .int .i64 x, .int .i64 s, .int .i64 u, .int .i64 v] 31).alloc (.cells #[.slice p' n' c', .slice q' m' d', .slice a' l' b', .int .i64 x, .int .i64 s, .int .i64 u, .int .i64 v] 31))
  have H1 := Lib.hid (Blk.new (w.alloc (.cells #[.slice p n c, .slice q m d, .slice a l b, .int .i64 x, .int .i64 s, .int .i64 u, .int .i64 v] 31)) #[.slice p' n' c', .slice q' m' d', .slice a' l' b', .int .i64 x, .int .i64 s, .int .i64 u, .int .i64 v] 31)
  rw [World.size_alloc] at H1
  have c0 := H0.out.cell (j := 0) rfl; have c1 := H1.out.cell (j := 0) rfl; have d0 := H0.out.cell (j := 1) rfl; have d1 := H1.out.cell (j := 1) rfl
  go_enter Try.func19, Try.ntmps19
  go_wp2_with fail
  refine (eqTree_any _ _ _ _ _ _ _ _ _ _ _ _ _ _ _ _ _ (hP.fr hfr) (hW.fr hfr) (hP'.fr hfr) (hW'.fr hfr)).mono ?_
  rintro e w1 ⟨rfl, f1⟩
  clear c0 c1 d0 d1
  have c0 := (H0.out.fr f1).cell (j := 2) rfl; have c1 := (H1.out.fr f1).cell (j := 2) rfl
  have hb : (decide (P = P) && decide (W = W)) = true := by simp
  go_wp2_with fail
  refine (eqIntS_any _ _ _ _ _ _ _ _ _ (hX.fr (hfr.trans f1)) (hX'.fr (hfr.trans f1))).mono ?_
  rintro e w2 ⟨rfl, f2⟩
  clear c0 c1 hb
  have hb : decide (X = X) = true := by simp
  have a0 := ((H0.out.fr f1).fr f2).cell (j := 3) rfl; have a1 := ((H1.out.fr f1).fr f2).cell (j := 3) rfl
  have b0 := ((H0.out.fr f1).fr f2).cell (j := 4) rfl; have b1 := ((H1.out.fr f1).fr f2).cell (j := 4) rfl
  have c0 := ((H0.out.fr f1).fr f2).cell (j := 5) rfl; have c1 := ((H1.out.fr f1).fr f2).cell (j := 5) rfl
  have d0 := ((H0.out.fr f1).fr f2).cell (j := 6) rfl; have d1 := ((H1.out.fr f1).fr f2).cell (j := 6) rfl
  go_wp2
  go_ret
  exact ⟨rfl, (hfr.trans f1).trans f2⟩

theorem Blk.skipIn {w w' : World} {g B H : Nat} {cs : Array Value} {t : TypeId} (h : Blk w g cs t) (G : GrownIn B H w w') (hd : g < B ∨ H ≤ g) : Blk w' g cs t := by
  unfold Blk; rw [G.block g h.lt (by omega)]; exact h

theorem markTree_any (B M H : Nat) (w : World) (p q : Option Addr) (n c m d : Nat) (P W : List Int) (k : Int) (hP : Own B w p n c P) (hW : Own M w q m d W) (hp : Within p B M) (hq : Within q M H) (hBM : B ≤ M) (hMH : M ≤ H) (hH : H ≤ w.heap.size)
    (h0 : 0 ≤ k) (h1 : k ≤ 100000000) (hn : n ≤ 1048576) (hm : m ≤ 1048576) :
    Calls Try.prog 27 #[.agg #[.slice p n c, .slice q m d], .int .i64 k] w fun e w' => e = .returned (.int .i64 (k + n + m)) ∧ Own B w' p n c (marks k n) ∧ Own M w' q m d (marks (k + n) m) ∧ GrownIn B H w w' := by
  have hfr : Fr w (w.alloc (.cells #[.slice p n c, .slice q m d] 29)) := (Fr.refl w).alloc _
  have H0 := Lib.hid (Blk.new w #[.slice p n c, .slice q m d] 29)
  have c0 := H0.out.cell (j := 0) rfl
  go_enter Try.func27, Try.ntmps27
  go_wp2_with fail
  refine (markIntS_any B _ _ _ _ _ _ (hP.fr hfr) h0 (by omega) (by omega)).mono ?_
  rintro e w1 ⟨rfl, o1, g1⟩
  have b1 := H0.out.grown g1 (fun e => by have := hp _ e; omega)
  have o2 := (hW.fr hfr).skip g1 hq hp (.inr (Nat.le_refl _))
  clear c0
  have c0 := b1.cell (j := 1) rfl
  have z1 := g1.size
  rw [World.size_alloc] at z1
  go_wp2_with fail
  refine (markIntS_any M _ _ _ _ _ _ o2 (by omega) (by omega) (by omega)).mono ?_
  rintro e w2 ⟨rfl, o3, g2⟩
  have o4 := o1.skip g2 hp hq (.inl (Nat.le_refl _))
  go_wp2
  go_ret
  have G1 : GrownIn B H w w1 := by
    have := (GrownIn.of g1 (B := B) (H := H) (fun k hk => by have := hp k hk; omega))
    have hf : GrownIn B H w (w.alloc (.cells #[.slice p n c, .slice q m d] 29)) := ⟨hfr.os, hfr.tape, hfr.output, hfr.size, fun i hi _ => hfr.block i hi⟩
    exact hf.trans this
  exact ⟨rfl, o4, o3, G1.trans (GrownIn.of g2 (fun k hk => by have := hq k hk; omega))⟩

theorem heldTree_any (w : World) (p q : Option Addr) (n c m d : Nat) (k : Int) (hP : SL w p n c (marks k n)) (hW : SL w q m d (marks (k + n) m)) (h0 : 0 ≤ k) (h1 : k ≤ 100000000) (hn : n ≤ 1048576) (hm : m ≤ 1048576) :
    Calls Try.prog 76 #[.agg #[.slice p n c, .slice q m d], .int .i64 k] w fun e w' => e = .returned (.int .i64 (k + n + m)) ∧ Fr w w' := by
  have hfr : Fr w (w.alloc (.cells #[.slice p n c, .slice q m d] 29)) := (Fr.refl w).alloc _
  go_enter Try.func76, Try.ntmps76
  go_wp2_with fail
  refine (heldIntS_any _ _ _ _ _ (hP.fr hfr) h0 (by omega) (by omega)).mono ?_
  rintro e w1 ⟨rfl, rfl⟩
  go_wp2_with fail
  refine (heldIntS_any _ _ _ _ _ (hW.fr hfr) (by omega) (by omega) (by omega)).mono ?_
  rintro e w1 ⟨rfl, rfl⟩
  go_wp2
  go_ret
  exact ⟨rfl, hfr⟩

theorem markHouse_any (B M N H : Nat) (w : World) (p q a : Option Addr) (n c m d l b : Nat) (P W X : List Int) (x s u v : Int) (k : Int) (hP : Own B w p n c P) (hW : Own M w q m d W) (hX : Own N w a l b X) (hp : Within p B M) (hq : Within q M N) (ha : Within a N H) (hBM : B ≤ M) (hMN : M ≤ N) (hNH : N ≤ H) (hH : H ≤ w.heap.size)
    (h0 : 0 ≤ k) (h1 : k ≤ 10000000) (hn : n ≤ 1048576) (hm : m ≤ 1048576) (hl : l ≤ 1048576) :
    Calls Try.prog 29 #[.agg #[.slice p n c, .slice q m d, .slice a l b, .int .i64 x, .int .i64 s, .int .i64 u, .int .i64 v], .int .i64 k] w fun e w' => e = .returned (.int .i64 (k + n + m + l)) ∧ Own B w' p n c (marks k n) ∧ Own M w' q m d (marks (k + n) m) ∧ Own N w' a l b (marks (k + n + m) l) ∧ GrownIn B H w w' := by
  have hfr : Fr w (w.alloc (.cells #[.slice p n c, .slice q m d, .slice a l b, .int .i64 x, .int .i64 s, .int .i64 u, .int .i64 v] 31)) := (Fr.refl w).alloc _
  have H0 := Lib.hid (Blk.new w #[.slice p n c, .slice q m d, .slice a l b, .int .i64 x, .int .i64 s, .int .i64 u, .int .i64 v] 31)
  have c0 := H0.out.cell (j := 0) rfl
  have c1 := H0.out.cell (j := 1) rfl
  go_enter Try.func29, Try.ntmps29
  go_wp2_with fail
  refine (markTree_any B M N _ _ _ _ _ _ _ _ _ _ (hP.fr hfr) (hW.fr hfr) hp hq hBM hMN (by simp; omega) h0 (by omega) hn hm).mono ?_
  rintro e w1 ⟨rfl, o1, o2, g1⟩
  have b1 : Blk w1 w.heap.size #[.slice p n c, .slice q m d, .slice a l b, .int .i64 x, .int .i64 s, .int .i64 u, .int .i64 v] 31 := by
    have := H0.out; unfold Blk at this ⊢; rw [g1.block _ (by simp) (by omega)]; exact this
  have o3 := (hX.fr hfr).skipSS g1 ha (.inr (Nat.le_refl _))
  clear c0 c1
  have c0 := b1.cell (j := 2) rfl
  have z1 := g1.size
  rw [World.size_alloc] at z1
  go_wp2_with fail
  refine (markIntS_any N _ _ _ _ _ _ o3 (by omega) (by omega) (by omega)).mono ?_
  rintro e w2 ⟨rfl, o4, g2⟩
  have o5 := o1.skip g2 hp ha (.inl (by omega))
  have o6 := o2.skip g2 hq ha (.inl (by omega))
  go_wp2
  go_ret
  have G1 : GrownIn B H w w1 := by
    have g1' : GrownIn B H (w.alloc (.cells #[.slice p n c, .slice q m d, .slice a l b, .int .i64 x, .int .i64 s, .int .i64 u, .int .i64 v] 31)) w1 := ⟨g1.os, g1.tape, g1.output, g1.size, fun i hi hne => g1.block i hi (by omega)⟩
    have hf : GrownIn B H w (w.alloc (.cells #[.slice p n c, .slice q m d, .slice a l b, .int .i64 x, .int .i64 s, .int .i64 u, .int .i64 v] 31)) := ⟨hfr.os, hfr.tape, hfr.output, hfr.size, fun i hi _ => hfr.block i hi⟩
    exact hf.trans g1'
  exact ⟨rfl, o5, o6, o4, G1.trans (GrownIn.of g2 (fun k hk => by have := ha k hk; omega))⟩

theorem heldHouse_any (w : World) (p q a : Option Addr) (n c m d l b : Nat) (x s u v : Int) (k : Int) (hP : SL w p n c (marks k n)) (hW : SL w q m d (marks (k + n) m)) (hX : SL w a l b (marks (k + n + m) l)) (h0 : 0 ≤ k) (h1 : k ≤ 10000000) (hn : n ≤ 1048576) (hm : m ≤ 1048576) (hl : l ≤ 1048576) :
    Calls Try.prog 30 #[.agg #[.slice p n c, .slice q m d, .slice a l b, .int .i64 x, .int .i64 s, .int .i64 u, .int .i64 v], .int .i64 k] w fun e w' => e = .returned (.int .i64 (k + n + m + l)) ∧ Fr w w' := by
  have hfr : Fr w (w.alloc (.cells #[.slice p n c, .slice q m d, .slice a l b, .int .i64 x, .int .i64 s, .int .i64 u, .int .i64 v] 31)) := (Fr.refl w).alloc _
  go_enter Try.func30, Try.ntmps30
  go_wp2_with fail
  refine (heldTree_any _ _ _ _ _ _ _ _ (hP.fr hfr) (hW.fr hfr) h0 (by omega) hn hm).mono ?_
  rintro e w1 ⟨rfl, f1⟩
  have c0 := f1.newCell (j := 2) (v := .slice a l b) rfl
  go_wp2_with fail
  refine (heldIntS_any _ _ _ _ _ (hX.fr (hfr.trans f1)) (by omega) (by omega) (by omega)).mono ?_
  rintro e w2 ⟨rfl, rfl⟩
  go_wp2
  go_ret
  exact ⟨rfl, hfr.trans f1⟩

end Go.Proofs.Ytojipjjfndgbhaa
