import Derived.Test.YtolnloeapbplkaaOwn
/- Contracts of NewConsole, and the laws' functions on consoles. -/
set_option linter.unusedVariables false
namespace Go.Proofs.Ytolnloeapbplkaa
open Go.ChangeShapes Go.WideShapes Go.ChangeAt Go.RowKit

theorem l3B_iff {P W X : List Int} : l3B P W X = true ↔ treeB P W = true ∧ procB P X = true := by rw [l3B, Bool.and_eq_true]
theorem houseB_len {P W X : List Int} {x s u v : Int} (h : houseB P W X x s u v = true) : 1 ≤ P.length ∧ P.length ≤ 24 ∧ W.length = P.length ∧ X.length = P.length := by
  simp only [houseB, Bool.and_eq_true] at h
  obtain ⟨h1, h2⟩ := l3B_iff.1 h.1.1.1.1
  obtain ⟨g1, g2, _⟩ := treeB_iff.1 h1
  exact ⟨g1.1, g1.2, g2, (procB_iff.1 h2).1⟩
def nhV (b : Bool) (P : List Int) : List Int := bif b then P else []
def dV (b : Bool) (x : Int) : Int := bif b then x else 0
theorem Own.nil (B : Nat) (w : World) : Own B w none 0 0 [] := ⟨World.ownsRow_nil _ _ _ _, by simp⟩
theorem results_CB {fn : Func} {k r : Nat} (hr : fn.results = #[.cell k 41, .tmp r]) (tmps : Array Value) (w : World) (g : Nat) (v0 v1 v2 v3 v4 v5 v6 v7 v8 v9 : Value) (bb : Value) (h : tmps[k]?.getD undef = .pointer (some ⟨g, 0, none⟩)) (hb : tmps[r]?.getD undef = bb) (h0 : w.cell? ⟨g, 0, none⟩ = some v0) (h1 : w.cell? ⟨g, 1, none⟩ = some v1) (h2 : w.cell? ⟨g, 2, none⟩ = some v2) (h3 : w.cell? ⟨g, 3, none⟩ = some v3) (h4 : w.cell? ⟨g, 4, none⟩ = some v4) (h5 : w.cell? ⟨g, 5, none⟩ = some v5) (h6 : w.cell? ⟨g, 6, none⟩ = some v6) (h7 : w.cell? ⟨g, 7, none⟩ = some v7) (h8 : w.cell? ⟨g, 8, none⟩ = some v8) (h9 : w.cell? ⟨g, 9, none⟩ = some v9) :
    (results fn tmps).run Try.prog w = .ok (.tuple #[.agg #[v0, v1, v2, v3, v4, v5, v6, v7, v8, v9], bb]) w := by
  simp [results, hr, go_sem, h, hb, h0, h1, h2, h3, h4, h5, h6, h7, h8, h9]
/-- A new console with an empty log, and a bool. -/
def RetCB (P W X : List Int) (x s u v : Int) (bb : Bool) (w : World) (e : Ending) (w' : World) : Prop := ∃ (p : Option Addr) (n c : Nat) (q : Option Addr) (m d : Nat) (a : Option Addr) (l k M N : Nat),
  e = .returned (.tuple #[.agg #[.slice p n c, .slice q m d, .slice a l k, .int .i64 x, .int .i64 s, .int .i64 u, .int .i64 v, .string ⟨#[]⟩, .string ⟨#[]⟩, .int .i64 0], .bool bb]) ∧
  Own w.heap.size w' p n c P ∧ Own M w' q m d W ∧ Own N w' a l k X ∧ Within p w.heap.size M ∧ Within q M N ∧ w.heap.size ≤ M ∧ M ≤ N ∧ N ≤ w'.heap.size ∧ Fr w w' ∧ n ≤ 1048576 ∧ m ≤ 1048576 ∧ l ≤ 1048576

theorem eqLog_empty (w : World) :
    Calls Try.prog 29 #[.agg #[.string ⟨#[]⟩, .string ⟨#[]⟩, .int .i64 0], .agg #[.string ⟨#[]⟩, .string ⟨#[]⟩, .int .i64 0]] w fun e w' => e = .returned (.bool true) ∧ Fr w w' := by
  go_enter Try.func29, Try.ntmps29
  go_wp2
  go_ret
  exact ⟨rfl, ((Fr.refl w).alloc _).alloc _⟩

set_option maxRecDepth 100000 in
theorem eqConsole_same (w : World) (p q a p' q' a' : Option Addr) (n c m d l b n' c' m' d' l' b' : Nat) (P W X : List Int) (x s u v : Int) (hP : SL w p n c P) (hW : SL w q m d W) (hX : SL w a l b X) (hP' : SL w p' n' c' P) (hW' : SL w q' m' d' W) (hX' : SL w a' l' b' X) :
    Calls Try.prog 13 #[.agg #[.slice p n c, .slice q m d, .slice a l b, .int .i64 x, .int .i64 s, .int .i64 u, .int .i64 v, .string ⟨#[]⟩, .string ⟨#[]⟩, .int .i64 0], .agg #[.slice p' n' c', .slice q' m' d', .slice a' l' b', .int .i64 x, .int .i64 s, .int .i64 u, .int .i64 v, .string ⟨#[]⟩, .string ⟨#[]⟩, .int .i64 0]] w fun e w' => e = .returned (.bool true) ∧ Fr w w' := by
  have hfr : Fr w ((w.alloc (.cells #[.slice p n c, .slice q m d, .slice a l b, .int .i64 x, .int .i64 s, .int .i64 u, .int .i64 v, .string ⟨#[]⟩, .string ⟨#[]⟩, .int .i64 0] 41)).alloc (.cells #[.slice p' n' c', .slice q' m' d', .slice a' l' b', .int .i64 x, .int .i64 s, .int .i64 u, .int .i64 v, .string ⟨#[]⟩, .string ⟨#[]⟩, .int .i64 0] 41)) := ((Fr.refl w).alloc _).alloc _
  have H0 := Lib.hid ((Blk.new w #[.slice p n c, .slice q m d, .slice a l b, .int .i64 x, .int .i64 s, .int .i64 u, .int .i64 v, .string ⟨#[]⟩, .string ⟨#[]⟩, .int .i64 0] 41).alloc (.cells #[.slice p' n' c', .slice q' m' d', .slice a' l' b', .int .i64 x, .int .i64 s, .int .i64 u, .int .i64 v, .string ⟨#[]⟩, .string ⟨#[]⟩, .int .i64 0] 41))
  have H1 := Lib.hid (Blk.new (w.alloc (.cells #[.slice p n c, .slice q m d, .slice a l b, .int .i64 x, .int .i64 s, .int .i64 u, .int .i64 v, .string ⟨#[]⟩, .string ⟨#[]⟩, .int .i64 0] 41)) #[.slice p' n' c', .slice q' m' d', .slice a' l' b', .int .i64 x, .int .i64 s, .int .i64 u, .int .i64 v, .string ⟨#[]⟩, .string ⟨#[]⟩, .int .i64 0] 41)
  rw [World.size_alloc] at H1
  have c0 := H0.out.cell (j := 0) rfl; have c1 := H0.out.cell (j := 1) rfl; have c2 := H0.out.cell (j := 2) rfl; have c3 := H0.out.cell (j := 3) rfl; have c4 := H0.out.cell (j := 4) rfl; have c5 := H0.out.cell (j := 5) rfl; have c6 := H0.out.cell (j := 6) rfl
  have e0 := H1.out.cell (j := 0) rfl; have e1 := H1.out.cell (j := 1) rfl; have e2 := H1.out.cell (j := 2) rfl; have e3 := H1.out.cell (j := 3) rfl; have e4 := H1.out.cell (j := 4) rfl; have e5 := H1.out.cell (j := 5) rfl; have e6 := H1.out.cell (j := 6) rfl
  go_enter Try.func13, Try.ntmps13
  go_wp2_with fail
  clear c0 c1 c2 c3 c4 c5 c6 e0 e1 e2 e3 e4 e5 e6
  refine (eqHouse_same _ _ _ _ _ _ _ _ _ _ _ _ _ _ _ _ _ _ _ _ _ _ _ _ _ _ (hP.fr hfr) (hW.fr hfr) (hX.fr hfr) (hP'.fr hfr) (hW'.fr hfr) (hX'.fr hfr)).mono ?_
  rintro e w1 ⟨rfl, f1⟩
  have c7 := (H0.out.fr f1).cell (j := 7) rfl; have c8 := (H0.out.fr f1).cell (j := 8) rfl; have c9 := (H0.out.fr f1).cell (j := 9) rfl
  have e7 := (H1.out.fr f1).cell (j := 7) rfl; have e8 := (H1.out.fr f1).cell (j := 8) rfl; have e9 := (H1.out.fr f1).cell (j := 9) rfl
  go_wp2_with fail
  refine (eqLog_empty _).mono ?_
  rintro e w2 ⟨rfl, f2⟩
  go_wp2
  go_ret
  exact ⟨rfl, (hfr.trans f1).trans f2⟩

theorem markConsole_any (B M N H : Nat) (w : World) (p q a : Option Addr) (n c m d l b : Nat) (P W X : List Int) (x s u v : Int) (k : Int) (hP : Own B w p n c P) (hW : Own M w q m d W) (hX : Own N w a l b X) (hp : Within p B M) (hq : Within q M N) (ha : Within a N H) (hBM : B ≤ M) (hMN : M ≤ N) (hNH : N ≤ H) (hH : H ≤ w.heap.size)
    (h0 : 0 ≤ k) (h1 : k ≤ 10000000) (hn : n ≤ 1048576) (hm : m ≤ 1048576) (hl : l ≤ 1048576) :
    Calls Try.prog 16 #[.agg #[.slice p n c, .slice q m d, .slice a l b, .int .i64 x, .int .i64 s, .int .i64 u, .int .i64 v, .string ⟨#[]⟩, .string ⟨#[]⟩, .int .i64 0], .int .i64 k] w fun e w' => e = .returned (.int .i64 (k + n + m + l)) ∧ Own B w' p n c (marks k n) ∧ Own M w' q m d (marks (k + n) m) ∧ Own N w' a l b (marks (k + n + m) l) ∧ GrownIn B H w w' := by
  have hfr : Fr w (w.alloc (.cells #[.slice p n c, .slice q m d, .slice a l b, .int .i64 x, .int .i64 s, .int .i64 u, .int .i64 v, .string ⟨#[]⟩, .string ⟨#[]⟩, .int .i64 0] 41)) := (Fr.refl w).alloc _
  have H0 := Lib.hid (Blk.new w #[.slice p n c, .slice q m d, .slice a l b, .int .i64 x, .int .i64 s, .int .i64 u, .int .i64 v, .string ⟨#[]⟩, .string ⟨#[]⟩, .int .i64 0] 41)
  have c0 := H0.out.cell (j := 0) rfl; have c1 := H0.out.cell (j := 1) rfl; have c2 := H0.out.cell (j := 2) rfl; have c3 := H0.out.cell (j := 3) rfl; have c4 := H0.out.cell (j := 4) rfl; have c5 := H0.out.cell (j := 5) rfl; have c6 := H0.out.cell (j := 6) rfl
  go_enter Try.func16, Try.ntmps16
  go_wp2_with fail
  clear c0 c1 c2 c3 c4 c5 c6
  refine (markHouse_any B M N H _ _ _ _ _ _ _ _ _ _ _ _ _ _ _ _ _ _ (hP.fr hfr) (hW.fr hfr) (hX.fr hfr) hp hq ha hBM hMN hNH (by simp; omega) h0 h1 hn hm hl).mono ?_
  rintro e w1 ⟨rfl, o1, o2, o3, g1⟩
  go_wp2
  go_ret
  have hf : GrownIn B H w (w.alloc (.cells #[.slice p n c, .slice q m d, .slice a l b, .int .i64 x, .int .i64 s, .int .i64 u, .int .i64 v, .string ⟨#[]⟩, .string ⟨#[]⟩, .int .i64 0] 41)) := ⟨hfr.os, hfr.tape, hfr.output, hfr.size, fun i hi _ => hfr.block i hi⟩
  have g1' : GrownIn B H (w.alloc (.cells #[.slice p n c, .slice q m d, .slice a l b, .int .i64 x, .int .i64 s, .int .i64 u, .int .i64 v, .string ⟨#[]⟩, .string ⟨#[]⟩, .int .i64 0] 41)) w1 := g1
  exact ⟨rfl, o1, o2, o3, hf.trans g1'⟩

theorem heldConsole_any (w : World) (p q a : Option Addr) (n c m d l b : Nat) (x s u v : Int) (k : Int) (hP : SL w p n c (marks k n)) (hW : SL w q m d (marks (k + n) m)) (hX : SL w a l b (marks (k + n + m) l)) (h0 : 0 ≤ k) (h1 : k ≤ 10000000) (hn : n ≤ 1048576) (hm : m ≤ 1048576) (hl : l ≤ 1048576) :
    Calls Try.prog 17 #[.agg #[.slice p n c, .slice q m d, .slice a l b, .int .i64 x, .int .i64 s, .int .i64 u, .int .i64 v, .string ⟨#[]⟩, .string ⟨#[]⟩, .int .i64 0], .int .i64 k] w fun e w' => e = .returned (.int .i64 (k + n + m + l)) ∧ Fr w w' := by
  have hfr : Fr w (w.alloc (.cells #[.slice p n c, .slice q m d, .slice a l b, .int .i64 x, .int .i64 s, .int .i64 u, .int .i64 v, .string ⟨#[]⟩, .string ⟨#[]⟩, .int .i64 0] 41)) := (Fr.refl w).alloc _
  have H0 := Lib.hid (Blk.new w #[.slice p n c, .slice q m d, .slice a l b, .int .i64 x, .int .i64 s, .int .i64 u, .int .i64 v, .string ⟨#[]⟩, .string ⟨#[]⟩, .int .i64 0] 41)
  have c0 := H0.out.cell (j := 0) rfl; have c1 := H0.out.cell (j := 1) rfl; have c2 := H0.out.cell (j := 2) rfl; have c3 := H0.out.cell (j := 3) rfl; have c4 := H0.out.cell (j := 4) rfl; have c5 := H0.out.cell (j := 5) rfl; have c6 := H0.out.cell (j := 6) rfl
  go_enter Try.func17, Try.ntmps17
  go_wp2_with fail
  clear c0 c1 c2 c3 c4 c5 c6
  refine (heldHouse_any _ _ _ _ _ _ _ _ _ _ _ _ _ _ _ (hP.fr hfr) (hW.fr hfr) (hX.fr hfr) h0 h1 hn hm hl).mono ?_
  rintro e w1 ⟨rfl, f1⟩
  go_wp2
  go_ret
  exact ⟨rfl, hfr.trans f1⟩

set_option maxRecDepth 100000 in
theorem impl_NewConsole_any (w : World) (p q a : Option Addr) (n c m d l b : Nat) (P W X : List Int) (x s u v : Int) (hP : SL w p n c P) (hW : SL w q m d W) (hX : SL w a l b X) :
    Calls Try.prog 12 #[.agg #[.slice p n c, .slice q m d, .slice a l b, .int .i64 x, .int .i64 s, .int .i64 u, .int .i64 v]] w (RetCB (nhV (houseB P W X x s u v) P) (nhV (houseB P W X x s u v) W) (nhV (houseB P W X x s u v) X) (dV (houseB P W X x s u v) x) (dV (houseB P W X x s u v) s) (dV (houseB P W X x s u v) u) (dV (houseB P W X x s u v) v) (houseB P W X x s u v) w) := by
  have HP := Lib.hid hP.len; have HW := Lib.hid hW.len; have HX := Lib.hid hX.len
  have hfr : Fr w ((w.alloc (.cells #[.slice p n c, .slice q m d, .slice a l b, .int .i64 x, .int .i64 s, .int .i64 u, .int .i64 v] 37)).alloc (.cells #[.slice none 0 0, .slice none 0 0, .slice none 0 0, .int .i64 0, .int .i64 0, .int .i64 0, .int .i64 0, .string ⟨#[]⟩, .string ⟨#[]⟩, .int .i64 0] 41)) := ((Fr.refl w).alloc _).alloc _
  have hb0 := (Blk.new w #[.slice p n c, .slice q m d, .slice a l b, .int .i64 x, .int .i64 s, .int .i64 u, .int .i64 v] 37).alloc (.cells #[.slice none 0 0, .slice none 0 0, .slice none 0 0, .int .i64 0, .int .i64 0, .int .i64 0, .int .i64 0, .string ⟨#[]⟩, .string ⟨#[]⟩, .int .i64 0] 41)
  have hb1 := Blk.new (w.alloc (.cells #[.slice p n c, .slice q m d, .slice a l b, .int .i64 x, .int .i64 s, .int .i64 u, .int .i64 v] 37)) #[.slice none 0 0, .slice none 0 0, .slice none 0 0, .int .i64 0, .int .i64 0, .int .i64 0, .int .i64 0, .string ⟨#[]⟩, .string ⟨#[]⟩, .int .i64 0] 41
  simp only [World.size_alloc] at hb1
  have H0 := Lib.hid hb0; have H1 := Lib.hid hb1
  clear hb0 hb1
  have k0 := H0.out.cell (j := 0) rfl; have k1 := H0.out.cell (j := 1) rfl; have k2 := H0.out.cell (j := 2) rfl; have k3 := H0.out.cell (j := 3) rfl; have k4 := H0.out.cell (j := 4) rfl; have k5 := H0.out.cell (j := 5) rfl; have k6 := H0.out.cell (j := 6) rfl
  go_enter Try.func12, Try.ntmps12
  go_wp2_with fail
  clear k0 k1 k2 k3 k4 k5 k6
  refine (impl_IsHouse_any _ _ _ _ _ _ _ _ _ _ _ _ _ (hP.fr hfr) (hW.fr hfr) (hX.fr hfr) _ _ _ _).mono ?_
  rintro e w1 ⟨rfl, f1⟩
  have z1 := f1.size
  simp only [World.size_alloc] at z1
  have hF1 := hfr.trans f1
  have G0 := Lib.hid (H0.out.fr f1); have G1 := Lib.hid (H1.out.fr f1)
  clear H0 H1 f1
  cases h : houseB P W X x s u v
  · have HL := Lib.hid h
    have j0 := G1.out.cell (j := 0) rfl; have j1 := G1.out.cell (j := 1) rfl; have j2 := G1.out.cell (j := 2) rfl; have j3 := G1.out.cell (j := 3) rfl; have j4 := G1.out.cell (j := 4) rfl; have j5 := G1.out.cell (j := 5) rfl; have j6 := G1.out.cell (j := 6) rfl; have j7 := G1.out.cell (j := 7) rfl; have j8 := G1.out.cell (j := 8) rfl; have j9 := G1.out.cell (j := 9) rfl
    have i0 := G1.out.free 0; have i1 := G1.out.free 1; have i2 := G1.out.free 2; have i3 := G1.out.free 3; have i4 := G1.out.free 4; have i5 := G1.out.free 5; have i6 := G1.out.free 6; have i7 := G1.out.free 7; have i8 := G1.out.free 8; have i9 := G1.out.free 9
    clear h
    go_wp2
    have E := ((((((((((G1.out.set 0 (.slice none 0 0)).set 1 (.slice none 0 0)).set 2 (.slice none 0 0)).set 3 (.int .i64 0)).set 4 (.int .i64 0)).set 5 (.int .i64 0)).set 6 (.int .i64 0)).set 7 (.string ⟨#[]⟩)).set 8 (.string ⟨#[]⟩)).set 9 (.int .i64 0))
    simp only [List.setIfInBounds_toArray, List.set_cons_zero, List.set_cons_succ] at E
    refine bodyPost_ret (results_CB Try.results12 _ _ (w.heap.size + 1) _ _ _ _ _ _ _ _ _ _ _ rfl rfl (E.cell rfl) (E.cell rfl) (E.cell rfl) (E.cell rfl) (E.cell rfl) (E.cell rfl) (E.cell rfl) (E.cell rfl) (E.cell rfl) (E.cell rfl)) rfl ?_
    rw [HL.out]
    refine ⟨none, 0, 0, none, 0, 0, none, 0, 0, w.heap.size, w.heap.size, rfl, Own.nil _ _, Own.nil _ _, Own.nil _ _, fun k hk => by simp [blkOf] at hk, fun k hk => by simp [blkOf] at hk, Nat.le_refl _, Nat.le_refl _, ?_, ?_, by omega, by omega, by omega⟩
    · have := hF1.size; simpa using this
    · iterate 10 refine Fr.setCell ?_ (by dsimp only; omega) _
      exact hF1
  · have HL := Lib.hid h
    have hl := houseB_len h
    rw [HP.out] at hl
    have hl2 : m ≤ 1048576 := by rw [← HW.out]; omega
    have hl3 : l ≤ 1048576 := by rw [← HX.out]; omega
    have hl1 : n ≤ 1048576 := by omega
    clear hl
    have k0 := G0.out.cell (j := 0) rfl; have k1 := G0.out.cell (j := 1) rfl; have k2 := G0.out.cell (j := 2) rfl; have k3 := G0.out.cell (j := 3) rfl; have k4 := G0.out.cell (j := 4) rfl; have k5 := G0.out.cell (j := 5) rfl; have k6 := G0.out.cell (j := 6) rfl
    go_wp2_with fail
    clear h k0 k1 k2 k3 k4 k5 k6
    refine (own_any _ _ _ _ _ _ _ _ _ _ _ _ _ _ _ _ _ (hP.fr hF1) (hW.fr hF1) (hX.fr hF1) hl1 hl2 hl3).mono ?_
    rintro e w2 ⟨p2, n2, c2, q2, m2, d2, a2, l2, b2, M, N, rfl, o1, o2, o3, W1, W2, y1, y2, y3, f2, e1, e2, e3⟩
    have D1 := Lib.hid (G1.out.fr f2)
    have j0 := D1.out.cell (j := 0) rfl; have j1 := D1.out.cell (j := 1) rfl; have j2 := D1.out.cell (j := 2) rfl; have j3 := D1.out.cell (j := 3) rfl; have j4 := D1.out.cell (j := 4) rfl; have j5 := D1.out.cell (j := 5) rfl; have j6 := D1.out.cell (j := 6) rfl; have j7 := D1.out.cell (j := 7) rfl; have j8 := D1.out.cell (j := 8) rfl; have j9 := D1.out.cell (j := 9) rfl
    have i0 := D1.out.free 0; have i1 := D1.out.free 1; have i2 := D1.out.free 2; have i3 := D1.out.free 3; have i4 := D1.out.free 4; have i5 := D1.out.free 5; have i6 := D1.out.free 6; have i7 := D1.out.free 7; have i8 := D1.out.free 8; have i9 := D1.out.free 9
    go_wp2
    have E := ((((((((((D1.out.set 0 (.slice p2 n2 c2)).set 1 (.slice q2 m2 d2)).set 2 (.slice a2 l2 b2)).set 3 (.int .i64 x)).set 4 (.int .i64 s)).set 5 (.int .i64 u)).set 6 (.int .i64 v)).set 7 (.string ⟨#[]⟩)).set 8 (.string ⟨#[]⟩)).set 9 (.int .i64 0))
    simp only [List.setIfInBounds_toArray, List.set_cons_zero, List.set_cons_succ] at E
    refine bodyPost_ret (results_CB Try.results12 _ _ (w.heap.size + 1) _ _ _ _ _ _ _ _ _ _ _ rfl rfl (E.cell rfl) (E.cell rfl) (E.cell rfl) (E.cell rfl) (E.cell rfl) (E.cell rfl) (E.cell rfl) (E.cell rfl) (E.cell rfl) (E.cell rfl)) rfl ?_
    rw [HL.out]
    refine ⟨p2, n2, c2, q2, m2, d2, a2, l2, b2, M, N, rfl, ?_, ?_, ?_, fun k hk => by have := W1 k hk; omega, W2, by omega, y2, by simpa using y3, ?_, e1, e2, e3⟩
    · refine Own.mono ?_ (show w.heap.size ≤ w1.heap.size by omega)
      iterate 10 refine Own.past ?_ (by dsimp only; omega) _
      exact o1
    · iterate 10 refine Own.past ?_ (by dsimp only; omega) _
      exact o2
    · iterate 10 refine Own.past ?_ (by dsimp only; omega) _
      exact o3
    · iterate 10 refine Fr.setCell ?_ (by dsimp only; omega) _
      exact hF1.trans f2

set_option maxRecDepth 100000 in
theorem spec_NewConsole_any (w : World) (p q a : Option Addr) (n c m d l b : Nat) (P W X : List Int) (x s u v : Int) (hP : SL w p n c P) (hW : SL w q m d W) (hX : SL w a l b X) :
    Calls Try.prog 10 #[.agg #[.slice p n c, .slice q m d, .slice a l b, .int .i64 x, .int .i64 s, .int .i64 u, .int .i64 v]] w (RetCB (nhV (houseB P W X x s u v) P) (nhV (houseB P W X x s u v) W) (nhV (houseB P W X x s u v) X) (dV (houseB P W X x s u v) x) (dV (houseB P W X x s u v) s) (dV (houseB P W X x s u v) u) (dV (houseB P W X x s u v) v) (houseB P W X x s u v) w) := by
  have HP := Lib.hid hP.len; have HW := Lib.hid hW.len; have HX := Lib.hid hX.len
  have hfr : Fr w ((w.alloc (.cells #[.slice p n c, .slice q m d, .slice a l b, .int .i64 x, .int .i64 s, .int .i64 u, .int .i64 v] 37)).alloc (.cells #[.slice none 0 0, .slice none 0 0, .slice none 0 0, .int .i64 0, .int .i64 0, .int .i64 0, .int .i64 0, .string ⟨#[]⟩, .string ⟨#[]⟩, .int .i64 0] 41)) := ((Fr.refl w).alloc _).alloc _
  have hb0 := (Blk.new w #[.slice p n c, .slice q m d, .slice a l b, .int .i64 x, .int .i64 s, .int .i64 u, .int .i64 v] 37).alloc (.cells #[.slice none 0 0, .slice none 0 0, .slice none 0 0, .int .i64 0, .int .i64 0, .int .i64 0, .int .i64 0, .string ⟨#[]⟩, .string ⟨#[]⟩, .int .i64 0] 41)
  have hb1 := Blk.new (w.alloc (.cells #[.slice p n c, .slice q m d, .slice a l b, .int .i64 x, .int .i64 s, .int .i64 u, .int .i64 v] 37)) #[.slice none 0 0, .slice none 0 0, .slice none 0 0, .int .i64 0, .int .i64 0, .int .i64 0, .int .i64 0, .string ⟨#[]⟩, .string ⟨#[]⟩, .int .i64 0] 41
  simp only [World.size_alloc] at hb1
  have H0 := Lib.hid hb0; have H1 := Lib.hid hb1
  clear hb0 hb1
  have k0 := H0.out.cell (j := 0) rfl; have k1 := H0.out.cell (j := 1) rfl; have k2 := H0.out.cell (j := 2) rfl; have k3 := H0.out.cell (j := 3) rfl; have k4 := H0.out.cell (j := 4) rfl; have k5 := H0.out.cell (j := 5) rfl; have k6 := H0.out.cell (j := 6) rfl
  go_enter Try.func10, Try.ntmps10
  go_wp2_with fail
  clear k0 k1 k2 k3 k4 k5 k6
  refine (l12Good_any _ _ _ _ _ _ _ _ _ _ _ _ _ (hP.fr hfr) (hW.fr hfr) (hX.fr hfr) _ _ _ _).mono ?_
  rintro e w1 ⟨rfl, f1⟩
  have z1 := f1.size
  simp only [World.size_alloc] at z1
  have hF1 := hfr.trans f1
  have G0 := Lib.hid (H0.out.fr f1); have G1 := Lib.hid (H1.out.fr f1)
  clear H0 H1 f1
  cases h : houseB P W X x s u v
  · have HL := Lib.hid h
    have j0 := G1.out.cell (j := 0) rfl; have j1 := G1.out.cell (j := 1) rfl; have j2 := G1.out.cell (j := 2) rfl; have j3 := G1.out.cell (j := 3) rfl; have j4 := G1.out.cell (j := 4) rfl; have j5 := G1.out.cell (j := 5) rfl; have j6 := G1.out.cell (j := 6) rfl; have j7 := G1.out.cell (j := 7) rfl; have j8 := G1.out.cell (j := 8) rfl; have j9 := G1.out.cell (j := 9) rfl
    have i0 := G1.out.free 0; have i1 := G1.out.free 1; have i2 := G1.out.free 2; have i3 := G1.out.free 3; have i4 := G1.out.free 4; have i5 := G1.out.free 5; have i6 := G1.out.free 6; have i7 := G1.out.free 7; have i8 := G1.out.free 8; have i9 := G1.out.free 9
    clear h
    go_wp2
    have E := ((((((((((G1.out.set 0 (.slice none 0 0)).set 1 (.slice none 0 0)).set 2 (.slice none 0 0)).set 3 (.int .i64 0)).set 4 (.int .i64 0)).set 5 (.int .i64 0)).set 6 (.int .i64 0)).set 7 (.string ⟨#[]⟩)).set 8 (.string ⟨#[]⟩)).set 9 (.int .i64 0))
    simp only [List.setIfInBounds_toArray, List.set_cons_zero, List.set_cons_succ] at E
    refine bodyPost_ret (results_CB Try.results10 _ _ (w.heap.size + 1) _ _ _ _ _ _ _ _ _ _ _ rfl rfl (E.cell rfl) (E.cell rfl) (E.cell rfl) (E.cell rfl) (E.cell rfl) (E.cell rfl) (E.cell rfl) (E.cell rfl) (E.cell rfl) (E.cell rfl)) rfl ?_
    rw [HL.out]
    refine ⟨none, 0, 0, none, 0, 0, none, 0, 0, w.heap.size, w.heap.size, rfl, Own.nil _ _, Own.nil _ _, Own.nil _ _, fun k hk => by simp [blkOf] at hk, fun k hk => by simp [blkOf] at hk, Nat.le_refl _, Nat.le_refl _, ?_, ?_, by omega, by omega, by omega⟩
    · have := hF1.size; simpa using this
    · iterate 10 refine Fr.setCell ?_ (by dsimp only; omega) _
      exact hF1
  · have HL := Lib.hid h
    have hl := houseB_len h
    rw [HP.out] at hl
    have hl2 : m ≤ 1048576 := by rw [← HW.out]; omega
    have hl3 : l ≤ 1048576 := by rw [← HX.out]; omega
    have hl1 : n ≤ 1048576 := by omega
    clear hl
    have k0 := G0.out.cell (j := 0) rfl; have k1 := G0.out.cell (j := 1) rfl; have k2 := G0.out.cell (j := 2) rfl; have k3 := G0.out.cell (j := 3) rfl; have k4 := G0.out.cell (j := 4) rfl; have k5 := G0.out.cell (j := 5) rfl; have k6 := G0.out.cell (j := 6) rfl
    go_wp2_with fail
    clear h k0 k1 k2 k3 k4 k5 k6
    refine (l12Own_any _ _ _ _ _ _ _ _ _ _ _ _ _ _ _ _ _ (hP.fr hF1) (hW.fr hF1) (hX.fr hF1) hl1 hl2 hl3).mono ?_
    rintro e w2 ⟨p2, n2, c2, q2, m2, d2, a2, l2, b2, M, N, rfl, o1, o2, o3, W1, W2, y1, y2, y3, f2, e1, e2, e3⟩
    have D1 := Lib.hid (G1.out.fr f2)
    have j0 := D1.out.cell (j := 0) rfl; have j1 := D1.out.cell (j := 1) rfl; have j2 := D1.out.cell (j := 2) rfl; have j3 := D1.out.cell (j := 3) rfl; have j4 := D1.out.cell (j := 4) rfl; have j5 := D1.out.cell (j := 5) rfl; have j6 := D1.out.cell (j := 6) rfl; have j7 := D1.out.cell (j := 7) rfl; have j8 := D1.out.cell (j := 8) rfl; have j9 := D1.out.cell (j := 9) rfl
    have i0 := D1.out.free 0; have i1 := D1.out.free 1; have i2 := D1.out.free 2; have i3 := D1.out.free 3; have i4 := D1.out.free 4; have i5 := D1.out.free 5; have i6 := D1.out.free 6; have i7 := D1.out.free 7; have i8 := D1.out.free 8; have i9 := D1.out.free 9
    go_wp2
    have E := ((((((((((D1.out.set 0 (.slice p2 n2 c2)).set 1 (.slice q2 m2 d2)).set 2 (.slice a2 l2 b2)).set 3 (.int .i64 x)).set 4 (.int .i64 s)).set 5 (.int .i64 u)).set 6 (.int .i64 v)).set 7 (.string ⟨#[]⟩)).set 8 (.string ⟨#[]⟩)).set 9 (.int .i64 0))
    simp only [List.setIfInBounds_toArray, List.set_cons_zero, List.set_cons_succ] at E
    refine bodyPost_ret (results_CB Try.results10 _ _ (w.heap.size + 1) _ _ _ _ _ _ _ _ _ _ _ rfl rfl (E.cell rfl) (E.cell rfl) (E.cell rfl) (E.cell rfl) (E.cell rfl) (E.cell rfl) (E.cell rfl) (E.cell rfl) (E.cell rfl) (E.cell rfl)) rfl ?_
    rw [HL.out]
    refine ⟨p2, n2, c2, q2, m2, d2, a2, l2, b2, M, N, rfl, ?_, ?_, ?_, fun k hk => by have := W1 k hk; omega, W2, by omega, y2, by simpa using y3, ?_, e1, e2, e3⟩
    · refine Own.mono ?_ (show w.heap.size ≤ w1.heap.size by omega)
      iterate 10 refine Own.past ?_ (by dsimp only; omega) _
      exact o1
    · iterate 10 refine Own.past ?_ (by dsimp only; omega) _
      exact o2
    · iterate 10 refine Own.past ?_ (by dsimp only; omega) _
      exact o3
    · iterate 10 refine Fr.setCell ?_ (by dsimp only; omega) _
      exact hF1.trans f2

end Go.Proofs.Ytolnloeapbplkaa
