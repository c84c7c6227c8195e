import Derived.Test.YtolnloeapbplkaaDoorDraw2
import Derived.Test.YtolnloeapbplkaaDoorApnd2
import Derived.Deep.RegionHeld3
/- Draws of logs: anyLog, DrawCrashLog. -/
set_option linter.unusedVariables false
namespace Go.Proofs.YtolnloeapbplkaaDoor
open Go.ChangeShapes Go.WideShapes Go.ChangeAt Go.RowKit

set_option maxRecDepth 100000 in
set_option maxHeartbeats 1000000 in
theorem anyLog_any (w0 : World) (hE : Env w0) (g A : Nat) (w : World) (f0 : Fr w0 w) (hg0 : w0.heap.size ≤ g) (hC : Cur g A w) (hA : A ≤ 1000000000) :
    Calls Tryd.prog 59 #[.pointer (some ⟨g, 0, none⟩)] w fun e w' => ∃ (d p : ByteArray) (c : Int), e = .returned (.agg #[.string d, .string p, .int .i64 c]) ∧ d.size + p.size ≤ 7000 ∧ 0 ≤ c ∧ c ≤ 62 ∧ Cur g (A + 120) w' ∧ w.grownBy w' (some g) := by
  have hg := hC.lt
  have B0 := Box.new w #[.string ⟨#[]⟩, .string ⟨#[]⟩, .int .i64 0] 33
  have F0 : Fr w (w.alloc (.cells #[.string ⟨#[]⟩, .string ⟨#[]⟩, .int .i64 0] 33)) := (Fr.refl w).alloc _
  have n0 := World.size_alloc w (.cells #[.string ⟨#[]⟩, .string ⟨#[]⟩, .int .i64 0] 33)
  go_enter Tryd.func59, Tryd.ntmps59
  go_wp2_with fail
  refine (log12_any w0 hE g A _ (f0.trans F0) hg0 (hC.fr F0) (by omega)).mono ?_
  rintro e w1 ⟨d, p, c, rfl, hs, hc0, hc1, C1, g1⟩
  have B1 := (B0.grown g1 (fun e => by cases e; omega)).fr ((Fr.refl _).alloc (.cells #[.string d, .string p, .int .i64 c] 33))
  have D1 := Box.new w1 #[.string d, .string p, .int .i64 c] 33
  have G1 := grown_fr (grownBy_trans (F0.grownBy (some g)) g1) ((Fr.refl w1).alloc (.cells #[.string d, .string p, .int .i64 c] 33))
  have hne : w.heap.size ≠ w1.heap.size := by have := g1.size; omega
  have hng : g < w1.heap.size := C1.lt
  have hsz : w.heap.size ≤ w1.heap.size := by have := g1.size; omega
  clear B0 n0 g1
  go_wp2_with fail
  refine (pick_any g (A + 100) 24 _ (C1.fr ((Fr.refl _).alloc _)) (by omega) (by unfold I64; omega)).mono ?_
  rintro e w2 ⟨r, rfl, hr0, hr1, C2, g2⟩
  replace B1 := B1.grown g2 (fun e => by cases e; omega)
  replace D1 := D1.grown g2 (fun e => by cases e; omega)
  replace G1 := grownBy_trans G1 g2
  clear C1 g2 F0
  have RET : ∀ (w4 : World) (A' : Nat) (d p : ByteArray) (c : Int), w.grownBy w4 (some g) → Cur g A' w4 → A' ≤ A + 120 → Box w4 w.heap.size #[.string ⟨#[]⟩, .string ⟨#[]⟩, .int .i64 0] 33 → d.size + p.size ≤ 7000 → 0 ≤ c → c ≤ 62 →
      Box (((w4.setCell ⟨w.heap.size, 0, none⟩ (.string d)).setCell ⟨w.heap.size, 1, none⟩ (.string p)).setCell ⟨w.heap.size, 2, none⟩ (.int .i64 c)) w.heap.size #[.string d, .string p, .int .i64 c] 33 ∧
      ∃ (d' p' : ByteArray) (c' : Int), Ending.returned (.agg #[.string d, .string p, .int .i64 c]) = .returned (.agg #[.string d', .string p', .int .i64 c']) ∧ d'.size + p'.size ≤ 7000 ∧ 0 ≤ c' ∧ c' ≤ 62 ∧ Cur g (A + 120) (((w4.setCell ⟨w.heap.size, 0, none⟩ (.string d)).setCell ⟨w.heap.size, 1, none⟩ (.string p)).setCell ⟨w.heap.size, 2, none⟩ (.int .i64 c)) ∧ w.grownBy (((w4.setCell ⟨w.heap.size, 0, none⟩ (.string d)).setCell ⟨w.heap.size, 1, none⟩ (.string p)).setCell ⟨w.heap.size, 2, none⟩ (.int .i64 c)) (some g) := by
    intro w4 A' d p c h1 h2 h3 h4 h5 h6 h7
    exact ⟨h4.set3 _ _ _, d, p, c, rfl, h5, h6, h7, (((h2.mono h3).setCell (by exact hg) _).setCell (by exact hg) _).setCell (by exact hg) _, grown_set (grown_set (grown_set h1 (Nat.le_refl _) _) (Nat.le_refl _) _) (Nat.le_refl _) _⟩
  have c0 := D1.cell (j := 0) (v := .string d) rfl; have c1 := D1.cell (j := 1) (v := .string p) rfl; have c2 := D1.cell (j := 2) (v := .int .i64 c) rfl
  have f0' := D1.free 0; have f1' := D1.free 1; have f2' := D1.free 2
  have j0 := B1.cell (j := 0) (v := .string ⟨#[]⟩) rfl; have j1 := B1.cell (j := 1) (v := .string ⟨#[]⟩) rfl; have j2 := B1.cell (j := 2) (v := .int .i64 0) rfl
  have i0 := B1.free 0; have i1 := B1.free 1; have i2 := B1.free 2
  by_cases r0 : r = 0
  · subst r0
    have E := Lib.hid (RET _ (A + 102) d p (c + 1) (grown_set G1 (q := ⟨w1.heap.size, 2, none⟩) hsz (.int .i64 (c + 1))) (C2.setCell (q := ⟨w1.heap.size, 2, none⟩) hng _) (by omega) (B1.other hne 2 _) (by omega) (by omega) (by omega))
    have e1 : IntKind.i64.wrap (c + 1) = c + 1 := IntWalk.i64_in _ (by omega)
    clear RET B1 D1 G1 C2
    go_wp2
    refine bodyPost_ret (results_L Tryd.results59 _ _ w.heap.size _ _ _ rfl E.out.1) rfl E.out.2
  · have r0i : (r == 0) = false := by rw [beq_eq_false_iff_ne]; exact r0
    by_cases r1 : r = 1
    · subst r1
      go_wp2_with fail
      clear c0 c1 c2 f0' f1' f2' j0 j1 j2 i0 i1 i2
      refine (spoilt_any g (A + 102) p ⟨#[35, 64, 10, 48, 49]⟩ w2 C2 (by omega) (by omega) (by decide) (by decide)).mono ?_
      rintro e w3 ⟨s, rfl, hs3, C3, g3⟩
      replace B1 := B1.grown g3 (fun e => by cases e; omega)
      replace D1 := D1.grown g3 (fun e => by cases e; omega)
      replace G1 := grownBy_trans G1 g3
      have c0 := D1.cell (j := 0) (v := .string d) rfl; have c1 := D1.cell (j := 1) (v := .string p) rfl; have c2 := D1.cell (j := 2) (v := .int .i64 c) rfl
      have f0' := D1.free 0; have f1' := D1.free 1; have f2' := D1.free 2
      have j0 := B1.cell (j := 0) (v := .string ⟨#[]⟩) rfl; have j1 := B1.cell (j := 1) (v := .string ⟨#[]⟩) rfl; have j2 := B1.cell (j := 2) (v := .int .i64 0) rfl
      have i0 := B1.free 0; have i1 := B1.free 1; have i2 := B1.free 2
      have E := Lib.hid (RET _ (A + 110) d s c (grown_set G1 (q := ⟨w1.heap.size, 1, none⟩) hsz (.string s)) (C3.setCell (q := ⟨w1.heap.size, 1, none⟩) hng _) (by omega) (B1.other hne 1 _) (by omega) (by omega) (by omega))
      clear RET B1 D1 G1 C2 C3 g3
      go_wp2
      refine bodyPost_ret (results_L Tryd.results59 _ _ w.heap.size _ _ _ rfl E.out.1) rfl E.out.2
    · have r1i : (r == 1) = false := by rw [beq_eq_false_iff_ne]; exact r1
      by_cases r2 : r = 2
      · subst r2
        have hdp : (d ++ p).size = d.size + p.size := ByteArray.size_append
        have ad := fun (W : World) => run_string_add_sum (P := Tryd.prog) W d p (by omega)
        have E := Lib.hid (RET _ (A + 102) (d ++ p) p c (grown_set G1 (q := ⟨w1.heap.size, 0, none⟩) hsz (.string (d ++ p))) (C2.setCell (q := ⟨w1.heap.size, 0, none⟩) hng _) (by omega) (B1.other hne 0 _) (by omega) (by omega) (by omega))
        clear RET B1 D1 G1 C2
        go_wp2
        refine bodyPost_ret (results_L Tryd.results59 _ _ w.heap.size _ _ _ rfl E.out.1) rfl E.out.2
      · have r2i : (r == 2) = false := by rw [beq_eq_false_iff_ne]; exact r2
        have E := Lib.hid (RET _ (A + 102) d p c G1 C2 (by omega) B1 (by omega) (by omega) (by omega))
        clear RET B1 D1 G1 C2
        go_wp2
        refine bodyPost_ret (results_L Tryd.results59 _ _ w.heap.size _ _ _ rfl E.out.1) rfl E.out.2

theorem results_LIB2 {fn : Func} {k r q : Nat} (hr : fn.results = #[.cell k 33, .tmp r, .tmp q]) (tmps : Array Value) (w : World) (g : Nat) (v0 v1 v2 b c : Value) (h : tmps[k]?.getD undef = .pointer (some ⟨g, 0, none⟩)) (hb : tmps[r]?.getD undef = b) (hc : tmps[q]?.getD undef = c)
    (hB : Box w g #[v0, v1, v2] 33) : (results fn tmps).run Tryd.prog w = .ok (.tuple #[.agg #[v0, v1, v2], b, c]) w := results_LIB hr tmps w g v0 v1 v2 b c h hb hc hB
set_option maxRecDepth 100000 in
theorem DrawCrashLog_any (w : World) (hE : Env w) (a : Option Addr) (n cap : Nat) (zs : List Int) (h : SLB w a n cap zs) :
    Calls Tryd.prog 32 #[.slice a n cap] w fun e w' => ∃ (d p : ByteArray) (c k : Int) (b : Bool), e = .returned (.tuple #[.agg #[.string d, .string p, .int .i64 c], .int .i64 k, .bool b]) ∧ d.size + p.size ≤ 7000 ∧ 0 ≤ c ∧ c ≤ 62 ∧ I64 k ∧ Fr w w' := by
  have B0 := (Box.new w #[.string ⟨#[]⟩, .string ⟨#[]⟩, .int .i64 0] 33).fr ((Fr.refl _).alloc (.cells #[.slice a n cap, .int .i64 0, .int .u64 0] 85))
  have F0 : Fr w (w.alloc (.cells #[.string ⟨#[]⟩, .string ⟨#[]⟩, .int .i64 0] 33)) := (Fr.refl w).alloc _
  have F1 := F0.alloc (.cells #[.slice a n cap, .int .i64 0, .int .u64 0] 85)
  have C0 := Cur.start (h.fr F0)
  rw [World.size_alloc] at C0
  go_enter Tryd.func32, Tryd.ntmps32
  go_wp2_with fail
  refine (anyLog_any w hE _ 0 _ F1 (by omega) C0 (by omega)).mono ?_
  rintro e w1 ⟨d, p, c, rfl, hs, hc0, hc1, C1, g1⟩
  have D1 := Box.new w1 #[.string d, .string p, .int .i64 c] 33
  have B1 := (B0.grown g1 (fun e => by have := Option.some.inj e; omega)).fr ((Fr.refl _).alloc (.cells #[.string d, .string p, .int .i64 c] 33))
  have G1 := (F1.grown g1 (fun k e => by have := Option.some.inj e; omega)).alloc (.cells #[.string d, .string p, .int .i64 c] 33)
  have c1 := D1.cell (j := 1) (v := .string p) rfl
  have hng := C1.lt
  have n1 := B1.lt
  rw [World.size_alloc] at n1
  clear B0 F0 g1
  go_wp2_with fail
  refine (pick_any _ 120 ((p.size : Int) + 3) _ (C1.fr ((Fr.refl _).alloc _)) (by omega) (by unfold I64; omega)).mono ?_
  rintro e w2 ⟨r, rfl, hr0, hr1, C2, g2⟩
  replace B1 := B1.grown g2 (fun e => by have := Option.some.inj e; omega)
  replace D1 := D1.grown g2 (fun e => by have := Option.some.inj e; omega)
  have G2 := G1.grown g2 (fun k e => by have := Option.some.inj e; omega)
  have hri : I64 (r - 1) := by unfold I64; omega
  have e1 : IntKind.i64.wrap (r - 1) = r - 1 := IntWalk.i64_in _ (by omega)
  clear C1 g2 G1 c1
  have c0 := D1.cell (j := 0) (v := .string d) rfl; have c1 := D1.cell (j := 1) (v := .string p) rfl; have c2 := D1.cell (j := 2) (v := .int .i64 c) rfl
  have hne : w.heap.size ≠ w1.heap.size := by omega
  go_upto_region 4 with fail
  go_region_held3 (fun w' => w'.cell? ⟨w1.heap.size, 0, none⟩ = some (.string d) ∧ w'.cell? ⟨w1.heap.size, 1, none⟩ = some (.string p) ∧ w'.cell? ⟨w1.heap.size, 2, none⟩ = some (.int .i64 c))
    (first
      | (with_reducible exact ⟨x0, x1, x2⟩)
      | (exact ⟨(cell3 _ _ _ hne).trans x0, (cell3 _ _ _ hne).trans x1, (cell3 _ _ _ hne).trans x2⟩)
      | go_keep)
    (first | (go_at_call 60; refine (one_any _ 122 2 _ (by first | exact C2.fr (Fr.drewN _ 1) | exact C2) (by omega) (by unfold I64; omega)).mono ?_; rintro e w3 ⟨b, rfl, C3, g3'⟩; have g3 : w2.grownBy w3 (some (w.heap.size + 1)) := (by first | exact g3' | exact grownBy_trans ((Fr.drewN w2 1).grownBy _) g3'); have D3 := D1.grown g3 (fun e => by have := Option.some.inj e; omega); have B3 := B1.grown g3 (fun e => by have := Option.some.inj e; omega); have x0 := D3.cell (j := 0) (v := .string d) rfl; have x1 := D3.cell (j := 1) (v := .string p) rfl; have x2 := D3.cell (j := 2) (v := .int .i64 c) rfl; have j0 := B3.cell (j := 0) rfl; have j1 := B3.cell (j := 1) rfl; have j2 := B3.cell (j := 2) rfl; have i0 := B3.free 0; have i1 := B3.free 1; have i2 := B3.free 2) | fail)
  have E3 := Lib.hid (B3.set3 (.string d) (.string p) (.int .i64 c))
  have G3 := (G2.grown g3 (fun k e => by have := Option.some.inj e; omega)).set3 (Nat.le_refl _) (.string d) (.string p) (.int .i64 c)
  clear x0 x1 x2 j0 j1 j2 i0 i1 i2 B3 D3
  go_wp2
  refine bodyPost_ret (results_LIB2 Tryd.results32 _ _ w.heap.size _ _ _ _ _ rfl rfl rfl E3.out) rfl ?_
  exact ⟨d, p, c, _, b, rfl, hs, hc0, hc1, hri, G3⟩
end Go.Proofs.YtolnloeapbplkaaDoor
