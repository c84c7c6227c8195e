import Derived.Test.YtolnloeapbplkaaDoorCons
import Derived.Deep.RegionHeld3
/- Contracts of the laws' helpers for consoles. -/
set_option linter.unusedVariables false
namespace Go.Proofs.YtolnloeapbplkaaDoor
open Go.ChangeShapes Go.WideShapes Go.ChangeAt Go.RowKit

theorem results_C {fn : Func} {k : Nat} (hr : fn.results = #[.cell k 66]) (tmps : Array Value) (w : World) (g : Nat) (v0 v1 v2 v3 v4 v5 v6 v7 v8 v9 : Value) (h : tmps[k]?.getD undef = .pointer (some ⟨g, 0, none⟩))
    (h0 : w.cell? ⟨g, 0, none⟩ = some v0) (h1 : w.cell? ⟨g, 1, none⟩ = some v1) (h2 : w.cell? ⟨g, 2, none⟩ = some v2) (h3 : w.cell? ⟨g, 3, none⟩ = some v3) (h4 : w.cell? ⟨g, 4, none⟩ = some v4) (h5 : w.cell? ⟨g, 5, none⟩ = some v5) (h6 : w.cell? ⟨g, 6, none⟩ = some v6) (h7 : w.cell? ⟨g, 7, none⟩ = some v7) (h8 : w.cell? ⟨g, 8, none⟩ = some v8) (h9 : w.cell? ⟨g, 9, none⟩ = some v9) :
    (results fn tmps).run Tryd.prog w = .ok (.agg #[v0, v1, v2, v3, v4, v5, v6, v7, v8, v9]) w := by
  simp [results, hr, go_sem, h, h0, h1, h2, h3, h4, h5, h6, h7, h8, h9]
/-- A new console. -/
def RetC (P W X : List Int) (x s u v : Int) (sd sp : ByteArray) (z : Int) (w : World) (e : Ending) (w' : World) : Prop := ∃ (p : Option Addr) (n c : Nat) (q : Option Addr) (m d : Nat) (a : Option Addr) (l b M N : Nat),
  e = .returned (.agg #[.slice p n c, .slice q m d, .slice a l b, .int .i64 x, .int .i64 s, .int .i64 u, .int .i64 v, .string sd, .string sp, .int .i64 z]) ∧
  Own w.heap.size w' p n c P ∧ Own M w' q m d W ∧ Own N w' a l b X ∧ Within p w.heap.size M ∧ Within q M N ∧ w.heap.size ≤ M ∧ M ≤ N ∧ N ≤ w'.heap.size ∧ Fr w w' ∧ n ≤ 1048576 ∧ m ≤ 1048576 ∧ l ≤ 1048576
set_option maxRecDepth 100000 in
set_option maxHeartbeats 2000000 in
theorem toConsole_any (w : World) (p q a : Option Addr) (n c m d l b : Nat) (P W X : List Int) (x s u v : Int) (sd sp : ByteArray) (z : Int) (hP : SL w p n c P) (hW : SL w q m d W) (hX : SL w a l b X) (hn : n ≤ 1048576) (hm : m ≤ 1048576) (hl : l ≤ 1048576) :
    Calls Tryd.prog 40 #[.agg #[.slice p n c, .slice q m d, .slice a l b, .int .i64 x, .int .i64 s, .int .i64 u, .int .i64 v, .string sd, .string sp, .int .i64 z]] w (RetC P W X x s u v sd sp z w) := by
  have hb0 := ((Blk.new w #[.slice p n c, .slice q m d, .slice a l b, .int .i64 x, .int .i64 s, .int .i64 u, .int .i64 v, .string sd, .string sp, .int .i64 z] 59).alloc (.cells #[.slice none 0 0, .slice none 0 0, .slice none 0 0, .int .i64 0, .int .i64 0, .int .i64 0, .int .i64 0, .string ⟨#[]⟩, .string ⟨#[]⟩, .int .i64 0] 66)).alloc (.cells #[.slice none 0 0, .slice none 0 0, .slice none 0 0, .int .i64 0, .int .i64 0, .int .i64 0, .int .i64 0, .string ⟨#[]⟩, .string ⟨#[]⟩, .int .i64 0] 66)
  have hb1 := (Blk.new (w.alloc (.cells #[.slice p n c, .slice q m d, .slice a l b, .int .i64 x, .int .i64 s, .int .i64 u, .int .i64 v, .string sd, .string sp, .int .i64 z] 59)) #[.slice none 0 0, .slice none 0 0, .slice none 0 0, .int .i64 0, .int .i64 0, .int .i64 0, .int .i64 0, .string ⟨#[]⟩, .string ⟨#[]⟩, .int .i64 0] 66).alloc (.cells #[.slice none 0 0, .slice none 0 0, .slice none 0 0, .int .i64 0, .int .i64 0, .int .i64 0, .int .i64 0, .string ⟨#[]⟩, .string ⟨#[]⟩, .int .i64 0] 66)
  have hb2 := Blk.new ((w.alloc (.cells #[.slice p n c, .slice q m d, .slice a l b, .int .i64 x, .int .i64 s, .int .i64 u, .int .i64 v, .string sd, .string sp, .int .i64 z] 59)).alloc (.cells #[.slice none 0 0, .slice none 0 0, .slice none 0 0, .int .i64 0, .int .i64 0, .int .i64 0, .int .i64 0, .string ⟨#[]⟩, .string ⟨#[]⟩, .int .i64 0] 66)) #[.slice none 0 0, .slice none 0 0, .slice none 0 0, .int .i64 0, .int .i64 0, .int .i64 0, .int .i64 0, .string ⟨#[]⟩, .string ⟨#[]⟩, .int .i64 0] 66
  have hfr : Fr w (((w.alloc (.cells #[.slice p n c, .slice q m d, .slice a l b, .int .i64 x, .int .i64 s, .int .i64 u, .int .i64 v, .string sd, .string sp, .int .i64 z] 59)).alloc (.cells #[.slice none 0 0, .slice none 0 0, .slice none 0 0, .int .i64 0, .int .i64 0, .int .i64 0, .int .i64 0, .string ⟨#[]⟩, .string ⟨#[]⟩, .int .i64 0] 66)).alloc (.cells #[.slice none 0 0, .slice none 0 0, .slice none 0 0, .int .i64 0, .int .i64 0, .int .i64 0, .int .i64 0, .string ⟨#[]⟩, .string ⟨#[]⟩, .int .i64 0] 66)) := (((Fr.refl w).alloc _).alloc _).alloc _
  simp only [World.size_alloc] at hb1 hb2
  have H0 := Lib.hid hb0; have H1 := Lib.hid hb1; have H2 := Lib.hid hb2
  clear hb0 hb1 hb2
  have c00 := H0.out.cell (j := 0) (v := .slice p n c) rfl
  have c01 := H0.out.cell (j := 1) (v := .slice q m d) rfl
  have c02 := H0.out.cell (j := 2) (v := .slice a l b) rfl
  have c03 := H0.out.cell (j := 3) (v := .int .i64 x) rfl
  have c04 := H0.out.cell (j := 4) (v := .int .i64 s) rfl
  have c05 := H0.out.cell (j := 5) (v := .int .i64 u) rfl
  have c06 := H0.out.cell (j := 6) (v := .int .i64 v) rfl
  go_enter Tryd.func40, Tryd.ntmps40
  go_wp2_with fail
  refine (toHouse_any _ _ _ _ _ _ _ _ _ _ _ _ _ _ _ _ _ (hP.fr hfr) (hW.fr hfr) (hX.fr hfr) hn hm hl).mono ?_
  rintro e w1 ⟨a1, n1, c1, a2, n2, c2, a3, n3, c3, M, N, rfl, o1, o2, o3, W1, W2, y1, y2, y3, f1, m1, m2, m3⟩
  have z1 := f1.size
  simp only [World.size_alloc] at z1 y1
  have g0 := Lib.hid (H0.out.fr f1); have g1 := Lib.hid (H1.out.fr f1); have g2 := Lib.hid (H2.out.fr f1)
  clear c00 c01 c02 c03 c04 c05 c06 H0 H1 H2
  have k7 := g0.out.cell (j := 7) (v := .string sd) rfl
  have k8 := g0.out.cell (j := 8) (v := .string sp) rfl
  have k9 := g0.out.cell (j := 9) (v := .int .i64 z) rfl
  have kk0 := g2.out.cell (j := 0) rfl; have ff0 := g2.out.free 0
  have kk1 := g2.out.cell (j := 1) rfl; have ff1 := g2.out.free 1
  have kk2 := g2.out.cell (j := 2) rfl; have ff2 := g2.out.free 2
  have kk3 := g2.out.cell (j := 3) rfl; have ff3 := g2.out.free 3
  have kk4 := g2.out.cell (j := 4) rfl; have ff4 := g2.out.free 4
  have kk5 := g2.out.cell (j := 5) rfl; have ff5 := g2.out.free 5
  have kk6 := g2.out.cell (j := 6) rfl; have ff6 := g2.out.free 6
  go_wp2_with fail
  have hF1 := ((((((((hfr.trans f1).setCell (p := ⟨w.heap.size + 1 + 1, 0, none⟩) (by simp; omega) (.slice a1 n1 c1)).setCell (p := ⟨w.heap.size + 1 + 1, 1, none⟩) (by simp; omega) (.slice a2 n2 c2)).setCell (p := ⟨w.heap.size + 1 + 1, 2, none⟩) (by simp; omega) (.slice a3 n3 c3)).setCell (p := ⟨w.heap.size + 1 + 1, 3, none⟩) (by simp; omega) (.int .i64 x)).setCell (p := ⟨w.heap.size + 1 + 1, 4, none⟩) (by simp; omega) (.int .i64 s)).setCell (p := ⟨w.heap.size + 1 + 1, 5, none⟩) (by simp; omega) (.int .i64 u)).setCell (p := ⟨w.heap.size + 1 + 1, 6, none⟩) (by simp; omega) (.int .i64 v))
  have o1' := (((((((o1.past (p := ⟨w.heap.size + 1 + 1, 0, none⟩) (by simp) (.slice a1 n1 c1)).past (p := ⟨w.heap.size + 1 + 1, 1, none⟩) (by simp) (.slice a2 n2 c2)).past (p := ⟨w.heap.size + 1 + 1, 2, none⟩) (by simp) (.slice a3 n3 c3)).past (p := ⟨w.heap.size + 1 + 1, 3, none⟩) (by simp) (.int .i64 x)).past (p := ⟨w.heap.size + 1 + 1, 4, none⟩) (by simp) (.int .i64 s)).past (p := ⟨w.heap.size + 1 + 1, 5, none⟩) (by simp) (.int .i64 u)).past (p := ⟨w.heap.size + 1 + 1, 6, none⟩) (by simp) (.int .i64 v))
  have o2' := (((((((o2.past (p := ⟨w.heap.size + 1 + 1, 0, none⟩) (by simp; omega) (.slice a1 n1 c1)).past (p := ⟨w.heap.size + 1 + 1, 1, none⟩) (by simp; omega) (.slice a2 n2 c2)).past (p := ⟨w.heap.size + 1 + 1, 2, none⟩) (by simp; omega) (.slice a3 n3 c3)).past (p := ⟨w.heap.size + 1 + 1, 3, none⟩) (by simp; omega) (.int .i64 x)).past (p := ⟨w.heap.size + 1 + 1, 4, none⟩) (by simp; omega) (.int .i64 s)).past (p := ⟨w.heap.size + 1 + 1, 5, none⟩) (by simp; omega) (.int .i64 u)).past (p := ⟨w.heap.size + 1 + 1, 6, none⟩) (by simp; omega) (.int .i64 v))
  have o3' := (((((((o3.past (p := ⟨w.heap.size + 1 + 1, 0, none⟩) (by simp; omega) (.slice a1 n1 c1)).past (p := ⟨w.heap.size + 1 + 1, 1, none⟩) (by simp; omega) (.slice a2 n2 c2)).past (p := ⟨w.heap.size + 1 + 1, 2, none⟩) (by simp; omega) (.slice a3 n3 c3)).past (p := ⟨w.heap.size + 1 + 1, 3, none⟩) (by simp; omega) (.int .i64 x)).past (p := ⟨w.heap.size + 1 + 1, 4, none⟩) (by simp; omega) (.int .i64 s)).past (p := ⟨w.heap.size + 1 + 1, 5, none⟩) (by simp; omega) (.int .i64 u)).past (p := ⟨w.heap.size + 1 + 1, 6, none⟩) (by simp; omega) (.int .i64 v))
  have g0' := Lib.hid (((((((g0.out.other (p := ⟨w.heap.size + 1 + 1, 0, none⟩) (by simp; omega) (.slice a1 n1 c1)).other (p := ⟨w.heap.size + 1 + 1, 1, none⟩) (by simp; omega) (.slice a2 n2 c2)).other (p := ⟨w.heap.size + 1 + 1, 2, none⟩) (by simp; omega) (.slice a3 n3 c3)).other (p := ⟨w.heap.size + 1 + 1, 3, none⟩) (by simp; omega) (.int .i64 x)).other (p := ⟨w.heap.size + 1 + 1, 4, none⟩) (by simp; omega) (.int .i64 s)).other (p := ⟨w.heap.size + 1 + 1, 5, none⟩) (by simp; omega) (.int .i64 u)).other (p := ⟨w.heap.size + 1 + 1, 6, none⟩) (by simp; omega) (.int .i64 v))
  have g1' := Lib.hid (((((((g1.out.other (p := ⟨w.heap.size + 1 + 1, 0, none⟩) (by simp) (.slice a1 n1 c1)).other (p := ⟨w.heap.size + 1 + 1, 1, none⟩) (by simp) (.slice a2 n2 c2)).other (p := ⟨w.heap.size + 1 + 1, 2, none⟩) (by simp) (.slice a3 n3 c3)).other (p := ⟨w.heap.size + 1 + 1, 3, none⟩) (by simp) (.int .i64 x)).other (p := ⟨w.heap.size + 1 + 1, 4, none⟩) (by simp) (.int .i64 s)).other (p := ⟨w.heap.size + 1 + 1, 5, none⟩) (by simp) (.int .i64 u)).other (p := ⟨w.heap.size + 1 + 1, 6, none⟩) (by simp) (.int .i64 v))
  have g2' := (((((((g2.out.set 0 (.slice a1 n1 c1)).set 1 (.slice a2 n2 c2)).set 2 (.slice a3 n3 c3)).set 3 (.int .i64 x)).set 4 (.int .i64 s)).set 5 (.int .i64 u)).set 6 (.int .i64 v))
  simp only [List.setIfInBounds_toArray, List.set_cons_zero, List.set_cons_succ] at g2'
  have W3 : Within a3 N w1.heap.size := o3.within
  clear kk0 ff0 kk1 ff1 kk2 ff2 kk3 ff3 kk4 ff4 kk5 ff5 kk6 ff6 k7 k8 k9 g0 g1 g2 o1 o2 o3
  refine (toLog_any sd sp z _).mono ?_
  rintro e w2 ⟨rfl, f2⟩
  have z2 := f2.size
  have E2 := g2'.fr f2
  have E1 := Lib.hid (g1'.out.fr f2)
  clear g0' g1' g2'
  have r0 := E2.cell (j := 0) rfl
  have r1 := E2.cell (j := 1) rfl
  have r2 := E2.cell (j := 2) rfl
  have r3 := E2.cell (j := 3) rfl
  have r4 := E2.cell (j := 4) rfl
  have r5 := E2.cell (j := 5) rfl
  have r6 := E2.cell (j := 6) rfl
  have r7 := E2.cell (j := 7) rfl
  have r8 := E2.cell (j := 8) rfl
  have r9 := E2.cell (j := 9) rfl
  have s7 := E2.free 7
  have s8 := E2.free 8
  have s9 := E2.free 9
  have t0 := E1.out.cell (j := 0) rfl; have u0 := E1.out.free 0
  have t1 := E1.out.cell (j := 1) rfl; have u1 := E1.out.free 1
  have t2 := E1.out.cell (j := 2) rfl; have u2 := E1.out.free 2
  have t3 := E1.out.cell (j := 3) rfl; have u3 := E1.out.free 3
  have t4 := E1.out.cell (j := 4) rfl; have u4 := E1.out.free 4
  have t5 := E1.out.cell (j := 5) rfl; have u5 := E1.out.free 5
  have t6 := E1.out.cell (j := 6) rfl; have u6 := E1.out.free 6
  have t7 := E1.out.cell (j := 7) rfl; have u7 := E1.out.free 7
  have t8 := E1.out.cell (j := 8) rfl; have u8 := E1.out.free 8
  have t9 := E1.out.cell (j := 9) rfl; have u9 := E1.out.free 9
  clear E2
  go_wp2
  have E := (((((((((((((E1.out.other (p := ⟨w.heap.size + 1 + 1, 7, none⟩) (by simp) (.string sd)).other (p := ⟨w.heap.size + 1 + 1, 8, none⟩) (by simp) (.string sp)).other (p := ⟨w.heap.size + 1 + 1, 9, none⟩) (by simp) (.int .i64 z)).set 0 (.slice a1 n1 c1)).set 1 (.slice a2 n2 c2)).set 2 (.slice a3 n3 c3)).set 3 (.int .i64 x)).set 4 (.int .i64 s)).set 5 (.int .i64 u)).set 6 (.int .i64 v)).set 7 (.string sd)).set 8 (.string sp)).set 9 (.int .i64 z))
  simp only [List.setIfInBounds_toArray, List.set_cons_zero, List.set_cons_succ] at E
  refine bodyPost_ret (results_C Tryd.results40 _ _ (w.heap.size + 1) _ _ _ _ _ _ _ _ _ _  rfl (E.cell rfl) (E.cell rfl) (E.cell rfl) (E.cell rfl) (E.cell rfl) (E.cell rfl) (E.cell rfl) (E.cell rfl) (E.cell rfl) (E.cell rfl) ) rfl ?_
  refine ⟨a1, n1, c1, a2, n2, c2, a3, n3, c3, M, N, rfl, ?_, ?_, ?_, fun k hk => ?_, W2, by omega, y2, ?_, ?_, m1, m2, m3⟩
  · refine Own.mono ?_ hfr.size
    iterate 13 refine Own.past ?_ (by simp) _
    exact o1'.fr f2
  · iterate 13 refine Own.past ?_ (by simp; omega) _
    exact o2'.fr f2
  · iterate 13 refine Own.past ?_ (by simp; omega) _
    exact o3'.fr f2
  · have := W1 k hk; simp at this; omega
  · simp at z2 ⊢; omega
  · iterate 13 refine Fr.setCell ?_ (by dsimp only; omega) _
    exact hF1.trans f2
set_option maxRecDepth 100000 in
theorem eqConsole_same (w : World) (p q a p' q' a' : Option Addr) (n c m d l b n' c' m' d' l' b' : Nat) (P W X : List Int) (x s u v : Int) (sd sp : ByteArray) (z : Int) (hP : SL w p n c P) (hW : SL w q m d W) (hX : SL w a l b X) (hP' : SL w p' n' c' P) (hW' : SL w q' m' d' W) (hX' : SL w a' l' b' X) :
    Calls Tryd.prog 42 #[.agg #[.slice p n c, .slice q m d, .slice a l b, .int .i64 x, .int .i64 s, .int .i64 u, .int .i64 v, .string sd, .string sp, .int .i64 z], .agg #[.slice p' n' c', .slice q' m' d', .slice a' l' b', .int .i64 x, .int .i64 s, .int .i64 u, .int .i64 v, .string sd, .string sp, .int .i64 z]] w fun e w' => e = .returned (.bool true) ∧ Fr w w' := by
  have hfr : Fr w ((w.alloc (.cells #[.slice p n c, .slice q m d, .slice a l b, .int .i64 x, .int .i64 s, .int .i64 u, .int .i64 v, .string sd, .string sp, .int .i64 z] 66)).alloc (.cells #[.slice p' n' c', .slice q' m' d', .slice a' l' b', .int .i64 x, .int .i64 s, .int .i64 u, .int .i64 v, .string sd, .string sp, .int .i64 z] 66)) := ((Fr.refl w).alloc _).alloc _
  have H0 := Lib.hid ((Blk.new w #[.slice p n c, .slice q m d, .slice a l b, .int .i64 x, .int .i64 s, .int .i64 u, .int .i64 v, .string sd, .string sp, .int .i64 z] 66).alloc (.cells #[.slice p' n' c', .slice q' m' d', .slice a' l' b', .int .i64 x, .int .i64 s, .int .i64 u, .int .i64 v, .string sd, .string sp, .int .i64 z] 66))
  have H1 := Lib.hid (Blk.new (w.alloc (.cells #[.slice p n c, .slice q m d, .slice a l b, .int .i64 x, .int .i64 s, .int .i64 u, .int .i64 v, .string sd, .string sp, .int .i64 z] 66)) #[.slice p' n' c', .slice q' m' d', .slice a' l' b', .int .i64 x, .int .i64 s, .int .i64 u, .int .i64 v, .string sd, .string sp, .int .i64 z] 66)
  rw [World.size_alloc] at H1
  have c00 := H0.out.cell (j := 0) rfl; have c10 := H1.out.cell (j := 0) rfl
  have c01 := H0.out.cell (j := 1) rfl; have c11 := H1.out.cell (j := 1) rfl
  have c02 := H0.out.cell (j := 2) rfl; have c12 := H1.out.cell (j := 2) rfl
  have c03 := H0.out.cell (j := 3) rfl; have c13 := H1.out.cell (j := 3) rfl
  have c04 := H0.out.cell (j := 4) rfl; have c14 := H1.out.cell (j := 4) rfl
  have c05 := H0.out.cell (j := 5) rfl; have c15 := H1.out.cell (j := 5) rfl
  have c06 := H0.out.cell (j := 6) rfl; have c16 := H1.out.cell (j := 6) rfl
  go_enter Tryd.func42, Tryd.ntmps42
  go_wp2_with fail
  refine (eqHouse_same _ _ _ _ _ _ _ _ _ _ _ _ _ _ _ _ _ _ _ _ _ _ _ _ _ _ (hP.fr hfr) (hW.fr hfr) (hX.fr hfr) (hP'.fr hfr) (hW'.fr hfr) (hX'.fr hfr)).mono ?_
  rintro e w1 ⟨rfl, f1⟩
  clear c00 c10 c01 c11 c02 c12 c03 c13 c04 c14 c05 c15 c06 c16
  have c07 := (H0.out.fr f1).cell (j := 7) rfl; have c17 := (H1.out.fr f1).cell (j := 7) rfl
  have c08 := (H0.out.fr f1).cell (j := 8) rfl; have c18 := (H1.out.fr f1).cell (j := 8) rfl
  have c09 := (H0.out.fr f1).cell (j := 9) rfl; have c19 := (H1.out.fr f1).cell (j := 9) rfl
  go_wp2_with fail
  refine (eqLog_same sd sp z _).mono ?_
  rintro e w2 ⟨rfl, f2⟩
  go_wp2
  go_ret
  exact ⟨rfl, (hfr.trans f1).trans f2⟩
end Go.Proofs.YtolnloeapbplkaaDoor
