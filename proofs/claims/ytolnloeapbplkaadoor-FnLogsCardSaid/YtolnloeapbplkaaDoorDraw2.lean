import Derived.Test.YtolnloeapbplkaaDoorDraw
import Derived.Test.YtolnloeapbplkaaDoorLogR3
import Derived.Test.YtolnloeapbplkaaDoorApnd
/- Draws of logs. -/
set_option linter.unusedVariables false
namespace Go.Proofs.YtolnloeapbplkaaDoor
open Go.ChangeShapes Go.WideShapes Go.ChangeAt Go.RowKit

set_option maxRecDepth 100000 in
theorem spoilt_any (g A : Nat) (t u : ByteArray) (w : World) (hC : Cur g A w) (hA : A ≤ 100000000000) (ht : t.size ≤ 1000000) (hu : 0 < u.size) (hu2 : u.size ≤ 1000) :
    Calls Tryd.prog 69 #[.pointer (some ⟨g, 0, none⟩), .string t, .string u] w fun e w' => ∃ s : ByteArray, e = .returned (.string s) ∧ s.size ≤ t.size + 1 ∧ Cur g (A + 8) w' ∧ w.grownBy w' (some g) := by
  by_cases h0 : t.size = 0
  · have he := toList_empty h0
    have hu3 : (1 : Int) ≤ (u.size : Int) := by omega
    go_enter Tryd.func69, Tryd.ntmps69
    go_wp2
    go_ret
    refine ⟨_, rfl, ?_, hC.mono (by omega), grownBy_refl _ _⟩
    rw [ByteArray.size_extract]; omega
  · have he := toList_ne h0
    go_enter Tryd.func69, Tryd.ntmps69
    go_wp2_with fail
    refine (pick_any g A t.size w hC (by omega) (by unfold I64; omega)).mono ?_
    rintro e w1 ⟨r, rfl, hr0, hr1, C1, g1⟩
    obtain ⟨i, rfl⟩ := Int.eq_ofNat_of_zero_le hr0
    have hi : i < t.size := by omega
    clear hr1
    go_wp2_with fail
    refine (pick_any g (A + 2) u.size w1 C1 (by omega) (by unfold I64; omega)).mono ?_
    rintro e w2 ⟨r, rfl, hr0', hr1, C2, g2⟩
    obtain ⟨j, rfl⟩ := Int.eq_ofNat_of_zero_le hr0'
    have hj : j < u.size := by omega
    clear hr1
    have hx : (u.extract j u.size).size = u.size - j := by rw [ByteArray.size_extract]; omega
    have hy : ((u.extract j u.size).extract 0 1).size = 1 := by rw [ByteArray.size_extract]; omega
    go_wp2_with fail
    generalize (u.extract j u.size).extract 0 1 = y at hy ⊢
    refine (pick_any g (A + 4) 3 w2 C2 (by omega) (by unfold I64; omega)).mono ?_
    rintro e w3 ⟨r, rfl, hr0'', hr1, C3, g3⟩
    have G := grownBy_trans (grownBy_trans g1 g2) g3
    have hii : (i : Int) ≤ (t.size : Int) := by omega
    have hii2 : (i : Int) + 1 ≤ (t.size : Int) := by omega
    have a1 : (t.extract 0 i).size = i := by rw [ByteArray.size_extract]; omega
    have a2 : (t.extract i t.size).size = t.size - i := by rw [ByteArray.size_extract]; omega
    have a3 : (t.extract (i + 1) t.size).size = t.size - (i + 1) := by rw [ByteArray.size_extract]; omega
    have e1 : IntKind.i64.wrap ((i : Int) + 1) = (i : Int) + 1 := IntWalk.i64_in _ (by omega)
    have d1 := fun W : World => run_string_add_sum (P := Tryd.prog) W (t.extract 0 i) y (by omega)
    have d2 := fun W : World => run_string_add_sum (P := Tryd.prog) W (t.extract 0 i ++ y) (t.extract i t.size) (by rw [ByteArray.size_append]; omega)
    have d3 := fun W : World => run_string_add_sum (P := Tryd.prog) W (t.extract 0 i ++ y) (t.extract (i + 1) t.size) (by rw [ByteArray.size_append]; omega)
    have d4 := fun W : World => run_string_add_sum (P := Tryd.prog) W (t.extract 0 i) (t.extract (i + 1) t.size) (by omega)
    clear C1 C2 g1 g2 g3
    by_cases r0 : r = 0
    · subst r0
      go_wp2_with fail
      go_quiet (fail)
      go_wp2
      go_ret
      exact ⟨_, rfl, by rw [ByteArray.size_append, ByteArray.size_append]; omega, (C3.mono (by omega)).fr (Fr.drewN _ _), grownBy_drewN G _⟩
    · have r0i : (r == 0) = false := by rw [beq_eq_false_iff_ne]; exact r0
      by_cases r1 : r = 1
      · subst r1
        go_wp2_with fail
        go_quiet (fail)
        go_wp2
        go_ret
        exact ⟨_, rfl, by rw [ByteArray.size_append, ByteArray.size_append]; omega, (C3.mono (by omega)).fr (Fr.drewN _ _), grownBy_drewN G _⟩
      · have r1i : (r == 1) = false := by rw [beq_eq_false_iff_ne]; exact r1
        go_wp2_with fail
        go_quiet (fail)
        go_wp2
        go_ret
        exact ⟨_, rfl, by rw [ByteArray.size_append]; omega, (C3.mono (by omega)).fr (Fr.drewN _ _), grownBy_drewN G _⟩
theorem apdV_rng {d p : ByteArray} {c : Int} {s t : ByteArray} (h0 : 0 ≤ c) (h1 : c ≤ 61) : (0 ≤ (apdV d p c s t).2.1 ∧ (apdV d p c s t).2.1 ≤ 61) ∧ d.size + (apdV d p c s t).1.size ≤ d.size + p.size + 400 := by
  unfold apdV
  split
  · next h =>
    rw [Bool.and_eq_true] at h
    split
    · exact ⟨⟨h0, h1⟩, by dsimp only; omega⟩
    · have := logB_cnt h.1
      have h2 := lineS_len (k := c.toNat) h.2 (by omega)
      refine ⟨⟨by dsimp only; omega, by dsimp only; omega⟩, ?_⟩
      dsimp only; rw [ByteArray.size_append, ba_size]; omega
  · exact ⟨⟨h0, h1⟩, by dsimp only; omega⟩
theorem syncV_rng {d p : ByteArray} {c : Int} (h0 : 0 ≤ c) (h1 : c ≤ 61) : (0 ≤ (syncV d p c).2 ∧ (syncV d p c).2 ≤ 61) ∧ (syncV d p c).1.size ≤ d.size + p.size := by
  unfold syncV
  split
  · exact ⟨⟨h0, h1⟩, by dsimp only; rw [ByteArray.size_append]; exact Nat.le_refl _⟩
  · exact ⟨⟨by dsimp only; omega, by dsimp only; omega⟩, by dsimp only; exact Nat.zero_le _⟩
set_option maxRecDepth 100000 in
set_option maxHeartbeats 1000000 in
theorem log12_any (w0 : World) (hE : Env w0) (g A : Nat) (w : World) (f0 : Fr w0 w) (hg0 : w0.heap.size ≤ g) (hC : Cur g A w) (hA : A ≤ 10000000000) :
    Calls Tryd.prog 68 #[.pointer (some ⟨g, 0, none⟩)] w fun e w' => ∃ (d p : ByteArray) (c : Int), e = .returned (.agg #[.string d, .string p, .int .i64 c]) ∧ d.size + p.size ≤ 3000 ∧ 0 ≤ c ∧ c ≤ 61 ∧ Cur g (A + 100) w' ∧ w.grownBy w' (some g) := by
  have hg := hC.lt
  have B0 := (Box.new w #[.string ⟨#[]⟩, .string ⟨#[]⟩, .int .i64 0] 33).fr ((Fr.refl _).alloc (.cells #[.string ⟨#[]⟩, .string ⟨#[]⟩, .int .i64 0] 33))
  have D0 := Box.new (w.alloc (.cells #[.string ⟨#[]⟩, .string ⟨#[]⟩, .int .i64 0] 33)) #[.string ⟨#[]⟩, .string ⟨#[]⟩, .int .i64 0] 33
  have F0 : Fr w ((w.alloc (.cells #[.string ⟨#[]⟩, .string ⟨#[]⟩, .int .i64 0] 33)).alloc (.cells #[.string ⟨#[]⟩, .string ⟨#[]⟩, .int .i64 0] 33)) := ((Fr.refl w).alloc _).alloc _
  rw [World.size_alloc] at D0
  go_enter Tryd.func68, Tryd.ntmps68
  go_wp2_with fail
  refine (pick_any g A 7 _ (hC.fr F0) (by omega) (by unfold I64; omega)).mono ?_
  rintro e w1 ⟨r, rfl, hr0, hr1, C1, g1⟩
  obtain ⟨m, rfl⟩ := Int.eq_ofNat_of_zero_le hr0
  have hm : m ≤ 6 := by omega
  have B1 := B0.grown g1 (fun e => by cases e; omega)
  have D1 := D0.grown g1 (fun e => by cases e; omega)
  have G1 := grownBy_trans (F0.grownBy (some g)) g1
  clear B0 D0 F0 g1 hr0 hr1
  go_wp2
  go_loopw [4] (fun i wr => ∃ (q A' : Nat) (d p : ByteArray) (c : Int), i = .int .i64 q ∧ q ≤ 6 ∧ Box wr (w.heap.size + 1) #[.string d, .string p, .int .i64 c] 33 ∧ d.size + p.size + 400 * q ≤ 2400 ∧ 0 ≤ c ∧ c ≤ 61 ∧ Cur g A' wr ∧ A' + 12 * q ≤ A + 80 ∧ Box wr w.heap.size #[.string ⟨#[]⟩, .string ⟨#[]⟩, .int .i64 0] 33 ∧ w.grownBy wr (some g)) (fun i _ => (intOf i).toNat)
  case atStart => exact ⟨m, A + 2, ⟨#[]⟩, ⟨#[]⟩, 0, rfl, hm, D1, by change 0 + 0 + 400 * m ≤ 2400; omega, by omega, by omega, C1, by omega, B1, G1⟩
  case round =>
    clear B1 D1 G1 C1
    obtain ⟨q, A', d, p, c, rfl, hq, D, hs, hc0, hc1, C, hA', B, G⟩ := hrel
    by_cases h0 : 0 < q
    · have hqi : (0 : Int) < (q : Int) := by omega
      have c0 := D.cell (j := 0) (v := .string d) rfl; have c1 := D.cell (j := 1) (v := .string p) rfl; have c2 := D.cell (j := 2) (v := .int .i64 c) rfl
      go_upto_region 5 with fail
      have kf : ∀ j, wr.frozen? ⟨w.heap.size + 1, j, none⟩ = false := D.free
      go_region_with (first | (go_at_call 51; refine (logRecord_any g A' _ (by first | exact C | exact C.fr (Fr.drewN _ 1)) (by omega)).mono ?_; rintro e w2 ⟨s, t, rfl, hs1, ht1, C2, g2⟩; have D2 := D.grown (grownBy_trans ((Fr.drewN wr 1).grownBy (some g)) g2) (fun e => by cases e; omega); have e0 := D2.cell (j := 0) (v := .string d) rfl; have e1 := D2.cell (j := 1) (v := .string p) rfl; have e2 := D2.cell (j := 2) (v := .int .i64 c) rfl) | (go_at_call 22; refine (spec_AppendRecord_any d p c s t _ (by omega) (by omega)).mono ?_; rintro e w3 ⟨rfl, f3⟩; have D3 := D2.fr f3; have p0 := D3.free 0; have p1 := D3.free 1; have p2 := D3.free 2; have u0 := D3.cell (j := 0) (v := .string d) rfl; have u1 := D3.cell (j := 1) (v := .string p) rfl; have u2 := D3.cell (j := 2) (v := .int .i64 c) rfl))
      all_goals
        have hrg := apdV_rng (d := d) (p := p) (s := s) (t := t) hc0 hc1
        generalize (apdV d p c s t).2.2 = st at hrg ⊢
        generalize (apdV d p c s t).1 = p' at hrg ⊢
        generalize (apdV d p c s t).2.1 = c' at hrg ⊢
        obtain ⟨⟨hc0', hc1'⟩, hs'⟩ := hrg
        have G3 := grown_fr (grownBy_trans (grown_fr G (Fr.drewN wr 1)) g2) f3
        have B3 := ((B.fr (Fr.drewN wr 1)).grown g2 (fun e => by cases e; omega)).fr f3
        have D4 := D3.set3 (.string d) (.string p') (.int .i64 c')
        have B4 := ((B3.other (g' := w.heap.size + 1) (by omega) 0 (.string d)).other (g' := w.heap.size + 1) (by omega) 1 (.string p')).other (g' := w.heap.size + 1) (by omega) 2 (.int .i64 c')
        have G4 := grown_set (grown_set (grown_set G3 (q := ⟨w.heap.size + 1, 0, none⟩) (by dsimp only; omega) (.string d)) (q := ⟨w.heap.size + 1, 1, none⟩) (by dsimp only; omega) (.string p')) (q := ⟨w.heap.size + 1, 2, none⟩) (by dsimp only; omega) (.int .i64 c')
        have C4 := (((C2.fr f3).setCell (q := ⟨w.heap.size + 1, 0, none⟩) (by dsimp only; omega) (.string d)).setCell (q := ⟨w.heap.size + 1, 1, none⟩) (by dsimp only; omega) (.string p')).setCell (q := ⟨w.heap.size + 1, 2, none⟩) (by dsimp only; omega) (.int .i64 c')
        clear G3 B3 D3 D2 C2 g2 f3 u0 u1 u2 p0 p1 p2 e0 e1 e2 kf c0 c1 c2 B D C G
        generalize (((w3.setCell ⟨w.heap.size + 1, 0, none⟩ (.string d)).setCell ⟨w.heap.size + 1, 1, none⟩ (.string p')).setCell ⟨w.heap.size + 1, 2, none⟩ (.int .i64 c')) = w4 at D4 B4 G4 C4 ⊢
        go_wp2_with fail
        refine (one_any g (A' + 8) 4 w4 C4 (by omega) (by unfold I64; omega)).mono ?_
        rintro e w5 ⟨b, rfl, C5, g5⟩
        have D5 := D4.grown g5 (fun e => by cases e; omega)
        have B5 := B4.grown g5 (fun e => by cases e; omega)
        have G5 := grownBy_trans G4 g5
        clear C4 D4 B4 G4 g5
        cases b
        · go_wp2
          go_roundw
          case rel => exact ⟨q - 1, A' + 10, d, p', c', by go_num, by omega, D5, by omega, hc0', hc1', C5, by omega, B5, G5⟩
          case measure => simp [intOf]; omega
        · have c0 := D5.cell (j := 0) (v := .string d) rfl; have c1 := D5.cell (j := 1) (v := .string p') rfl; have c2 := D5.cell (j := 2) (v := .int .i64 c') rfl
          have hE5 := hE.fr (f0.grown G5 (fun k e => by cases e; exact hg0))
          have hrg := syncV_rng (d := d) (p := p') hc0' hc1'
          go_wp2_with fail
          refine (spec_SyncLog_any d p' c' w5 (by omega) hE5).mono ?_
          rintro e w6 ⟨rfl, f6⟩
          generalize (syncV d p' c').1 = d' at hrg ⊢
          generalize (syncV d p' c').2 = c'' at hrg ⊢
          obtain ⟨⟨hc0'', hc1''⟩, hs''⟩ := hrg
          have D6 := D5.fr f6
          have u0 := D6.cell (j := 0) (v := .string d) rfl; have u1 := D6.cell (j := 1) (v := .string p') rfl; have u2 := D6.cell (j := 2) (v := .int .i64 c') rfl
          have p0 := D6.free 0; have p1 := D6.free 1; have p2 := D6.free 2
          have D7 := Lib.hid (D6.set3 (.string d') (.string e0) (.int .i64 c''))
          have B7 := Lib.hid ((((B5.fr f6).other (g' := w.heap.size + 1) (by omega) 0 (.string d')).other (g' := w.heap.size + 1) (by omega) 1 (.string e0)).other (g' := w.heap.size + 1) (by omega) 2 (.int .i64 c''))
          have G7 := Lib.hid (grown_set (grown_set (grown_set (grown_fr G5 f6) (q := ⟨w.heap.size + 1, 0, none⟩) (by dsimp only; omega) (.string d')) (q := ⟨w.heap.size + 1, 1, none⟩) (by dsimp only; omega) (.string e0)) (q := ⟨w.heap.size + 1, 2, none⟩) (by dsimp only; omega) (.int .i64 c''))
          have C7 := Lib.hid ((((C5.fr f6).setCell (q := ⟨w.heap.size + 1, 0, none⟩) (by dsimp only; omega) (.string d')).setCell (q := ⟨w.heap.size + 1, 1, none⟩) (by dsimp only; omega) (.string e0)).setCell (q := ⟨w.heap.size + 1, 2, none⟩) (by dsimp only; omega) (.int .i64 c''))
          clear D6 D5 B5 G5 C5 c0 c1 c2 f6 hE5
          go_wp2
          go_roundw
          case rel => exact ⟨q - 1, A' + 10, d', e0, c'', by go_num, by omega, D7.out, by have : e0.size = 0 := rfl; omega, hc0'', hc1'', C7.out, by omega, B7.out, G7.out⟩
          case measure => simp [intOf]; omega
    · obtain rfl : q = 0 := by omega
      have c0 := D.cell (j := 0) (v := .string d) rfl; have c1 := D.cell (j := 1) (v := .string p) rfl; have c2 := D.cell (j := 2) (v := .int .i64 c) rfl
      have j0 := B.cell (j := 0) rfl; have j1 := B.cell (j := 1) rfl; have j2 := B.cell (j := 2) rfl
      have i0 := B.free 0; have i1 := B.free 1; have i2 := B.free 2
      have B7 := Lib.hid (B.set3 (.string d) (.string p) (.int .i64 c))
      have G7 := Lib.hid (grown_set (grown_set (grown_set G (q := ⟨w.heap.size, 0, none⟩) (by dsimp only; omega) (.string d)) (q := ⟨w.heap.size, 1, none⟩) (by dsimp only; omega) (.string p)) (q := ⟨w.heap.size, 2, none⟩) (by dsimp only; omega) (.int .i64 c))
      have C7 := Lib.hid (((C.setCell (q := ⟨w.heap.size, 0, none⟩) hg (.string d)).setCell (q := ⟨w.heap.size, 1, none⟩) hg (.string p)).setCell (q := ⟨w.heap.size, 2, none⟩) hg (.int .i64 c))
      clear B D G C
      go_wp2
      refine bodyPost_ret (results_L Tryd.results68 _ _ w.heap.size _ _ _ rfl B7.out) rfl ?_
      exact ⟨d, p, c, rfl, by omega, hc0, hc1, C7.out.mono (by omega), G7.out⟩
end Go.Proofs.YtolnloeapbplkaaDoor
