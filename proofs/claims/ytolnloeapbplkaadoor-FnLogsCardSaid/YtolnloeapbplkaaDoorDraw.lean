import Derived.Test.YtolnloeapbplkaaDoorCur
import Derived.Test.YtolnloeapbplkaaDoorLogR3
import Derived.Test.YtolnloeapbplkaaDoorApnd
/- Draws of records and logs. -/
set_option linter.unusedVariables false
namespace Go.Proofs.YtolnloeapbplkaaDoor
open Go.ChangeShapes Go.WideShapes Go.ChangeAt Go.RowKit

theorem lit_cells {w : World} {cs : Array Value} {t : TypeId} {n : Nat} {Q : Value → Prop} (h : ∀ i, i < n → ∃ v, cs[i]? = some v ∧ Q v) : ∀ i, i < n → ∃ v, (w.alloc (.cells cs t)).cell? ⟨w.heap.size, i, none⟩ = some v ∧ Q v := fun i hi => by
  obtain ⟨v, h1, h2⟩ := h i hi
  exact ⟨v, (Box.new w cs t).cell h1, h2⟩
theorem lit_strs {w : World} {cs : Array Value} {t : TypeId} {n : Nat} {Q : ByteArray → Prop} (h : ∀ i, i < n → ∃ x, cs[i]? = some (.string x) ∧ Q x) : ∀ i, i < n → ∃ x, (w.alloc (.cells cs t)).cell? ⟨w.heap.size, i, none⟩ = some (.string x) ∧ Q x := fun i hi => by
  obtain ⟨v, h1, h2⟩ := h i hi
  exact ⟨v, (Box.new w cs t).cell h1, h2⟩

theorem mk3 (w : World) : (Instr.makeSlice 22 (.int .i64 3) (.int .i64 3)).run Tryd.prog w = .ok (.slice (some ⟨w.heap.size, 0, none⟩) 3 3) (w.alloc (.cells #[.int .u8 0, .int .u8 0, .int .u8 0] 5)) := by kernel_rfl
theorem zero3 (w : World) : (convert 22 9 (.slice (some ⟨w.heap.size, 0, none⟩) 3 3)).run Tryd.prog (w.alloc (.cells #[.int .u8 0, .int .u8 0, .int .u8 0] 5)) = .ok (.string (ba [0, 0, 0])) (w.alloc (.cells #[.int .u8 0, .int .u8 0, .int .u8 0] 5)) := by
  refine ByA.back (l := [0, 0, 0]) ⟨by simp, fun j hj => ?_⟩ 3 3 rfl
  have H := heap_alloc_new w (.cells #[.int .u8 0, .int .u8 0, .int .u8 0] 5)
  refine ⟨?_, by unfold World.frozen?; rw [H]; rfl⟩
  rw [cell_of_row _ _ _ _ _ _ H]
  rcases j with _ | _ | _ | j
  · rfl
  · rfl
  · rfl
  · simp only [List.length_cons, List.length_nil] at hj; omega
set_option maxRecDepth 100000 in
theorem logRecord_any (g A : Nat) (w : World) (hC : Cur g A w) (hA : A ≤ 100000000000) :
    Calls Tryd.prog 51 #[.pointer (some ⟨g, 0, none⟩)] w fun e w' => ∃ s t : ByteArray, e = .returned (.agg #[.string s, .string t]) ∧ s.size ≤ 20 ∧ t.size ≤ 20 ∧ Cur g (A + 8) w' ∧ w.grownBy w' (some g) := by
  have hg := hC.lt
  have B0 := Box.new w #[.string ⟨#[]⟩, .string ⟨#[]⟩] 25
  have G0 : w.grownBy (w.alloc (.cells #[.string ⟨#[]⟩, .string ⟨#[]⟩] 25)) (some g) := ((Fr.refl w).alloc _).grownBy _
  have C0 := hC.fr ((Fr.refl w).alloc (.cells #[.string ⟨#[]⟩, .string ⟨#[]⟩] 25))
  have n0 := World.size_alloc w (.cells #[.string ⟨#[]⟩, .string ⟨#[]⟩] 25)
  go_enter Tryd.func51, Tryd.ntmps51
  go_wp2_with fail
  refine (of_any g A (w.heap.size + 1) 5 5 (fun x => x.size ≤ 20) _ (C0.fr ((Fr.refl _).alloc _)) (by omega) (by omega) (by omega) (by omega) (by rw [← n0]; exact lit_strs (fun i hi => by rcases i with _ | _ | _ | _ | _ | i; all_goals first | exact ⟨_, rfl, by decide⟩ | exact ⟨_, rfl, by omega⟩ | omega))).mono ?_
  rintro e w1 ⟨s, rfl, hs, C1, g1⟩
  replace G0 := grownBy_trans (grownBy_trans G0 (((Fr.refl _).alloc _).grownBy _)) g1
  replace B0 := (B0.fr ((Fr.refl _).alloc _)).grown g1 (fun e => by cases e; omega)
  have z1 := G0.size
  clear C0 g1 n0
  go_wp2_with fail
  refine (of_any g (A + 2) w1.heap.size 5 5 (fun x => x.size ≤ 20) _ (C1.fr ((Fr.refl _).alloc _)) (by omega) (by omega) (by omega) (by have := C1.lt; omega) (lit_strs (fun i hi => by rcases i with _ | _ | _ | _ | _ | i; all_goals first | exact ⟨_, rfl, by decide⟩ | exact ⟨_, rfl, by omega⟩ | omega))).mono ?_
  rintro e w2 ⟨t, rfl, ht, C2, g2⟩
  replace G0 := grownBy_trans (grownBy_trans G0 (((Fr.refl _).alloc _).grownBy _)) g2
  replace B0 := (B0.fr ((Fr.refl _).alloc _)).grown g2 (fun e => by cases e; omega)
  have z2 := G0.size
  have nb := B0.lt
  clear C1 g2 z1
  go_wp2_with fail
  have D0 := Box.new w2 #[.string s, .string t] 25
  refine (pick_any g (A + 4) 24 _ (C2.fr ((Fr.refl _).alloc _)) (by omega) (by unfold I64; omega)).mono ?_
  rintro e w3 ⟨r, rfl, hr0, hr1, C3, g3⟩
  replace G0 := grownBy_trans (grownBy_trans G0 (((Fr.refl _).alloc _).grownBy _)) g3
  replace B0 := (B0.fr ((Fr.refl _).alloc _)).grown g3 (fun e => by cases e; omega)
  have ng : g < w2.heap.size := C2.lt
  replace D0 := D0.grown g3 (fun e => by cases e; omega)
  clear C2 g3
  -- the end: the record is handed back
  have RET : ∀ (w4 : World) (A' : Nat) (x y : ByteArray), w.grownBy w4 (some g) → Cur g A' w4 → A' ≤ A + 8 → Box w4 w.heap.size #[.string ⟨#[]⟩, .string ⟨#[]⟩] 25 → x.size ≤ 20 → y.size ≤ 20 →
      ∃ s t : ByteArray, Ending.returned (.agg #[.string x, .string y]) = .returned (.agg #[.string s, .string t]) ∧ s.size ≤ 20 ∧ t.size ≤ 20 ∧ Cur g (A + 8) ((w4.setCell ⟨w.heap.size, 0, none⟩ (.string x)).setCell ⟨w.heap.size, 1, none⟩ (.string y)) ∧ w.grownBy ((w4.setCell ⟨w.heap.size, 0, none⟩ (.string x)).setCell ⟨w.heap.size, 1, none⟩ (.string y)) (some g) := by
    intro w4 A' x y h1 h2 h3 h4 h5 h6
    refine ⟨x, y, rfl, h5, h6, ((h2.mono h3).setCell (by exact hg) _).setCell (by exact hg) _, ?_⟩
    refine ⟨h1.os, h1.tape, h1.output, by have := h1.size; simpa using this, fun k hk hne => ?_⟩
    rw [Below.heap_setCell _ _ _ _ (by dsimp only; omega), Below.heap_setCell _ _ _ _ (by dsimp only; omega)]
    exact h1.block k hk hne
  have G1 : ∀ {w4 : World}, w.grownBy w4 (some g) → ∀ (j : Nat) (x : ByteArray), w.grownBy (w4.setCell ⟨w2.heap.size, j, none⟩ (.string x)) (some g) := by
    intro w4 h1 j x
    refine ⟨h1.os, h1.tape, h1.output, by have := h1.size; simpa using this, fun k hk hne => ?_⟩
    rw [Below.heap_setCell _ _ _ _ (by dsimp only; omega)]
    exact h1.block k hk hne
  by_cases r0 : r = 0
  · subst r0
    have hmk := mk3 w3
    have hcv := zero3 w3
    have hz3 : (ba [0, 0, 0]).size ≤ 20 := by rw [ba_size]; decide
    generalize ba [0, 0, 0] = zz at hcv hz3
    go_wp2_with fail
    have nz := World.size_alloc w3 (.cells #[.int .u8 0, .int .u8 0, .int .u8 0] 5)
    refine (of_any g (A + 6) (w3.heap.size + 1) 5 5 (fun x => x.size ≤ 20) _ ((C3.fr ((Fr.refl _).alloc _)).fr ((Fr.refl _).alloc _)) (by omega) (by omega) (by omega) (by have := C3.lt; omega) (by rw [← nz]; exact lit_strs (fun i hi => by rcases i with _ | _ | _ | _ | _ | i; all_goals first | exact ⟨_, rfl, by decide⟩ | exact ⟨_, rfl, hz3⟩ | omega))).mono ?_
    rintro e w4 ⟨x, rfl, hx, C4, g4⟩
    replace G0 := grownBy_trans (grownBy_trans G0 ((((Fr.refl w3).alloc _).alloc _).grownBy _)) g4
    replace B0 := ((B0.fr ((Fr.refl _).alloc _)).fr ((Fr.refl _).alloc _)).grown g4 (fun e => by cases e; omega)
    replace D0 := ((D0.fr ((Fr.refl _).alloc _)).fr ((Fr.refl _).alloc _)).grown g4 (fun e => by cases e; omega)
    clear hmk hcv C3 g4
    have j0 := B0.cell (j := 0) (v := .string ⟨#[]⟩) rfl; have j1 := B0.cell (j := 1) (v := .string ⟨#[]⟩) rfl; have i0 := B0.free 0; have i1 := B0.free 1
    have k0 := D0.cell (j := 0) (v := .string s) rfl; have k1 := D0.cell (j := 1) (v := .string t) rfl; have l0 := D0.free 0; have l1 := D0.free 1
    have hne : w.heap.size ≠ w2.heap.size := by omega
    have B1 := Lib.hid (B0.other hne 0 (.string x))
    have E1 := Lib.hid (RET _ (A + 8) x t (G1 G0 0 x) (C4.setCell (q := ⟨w2.heap.size, 0, none⟩) ng (.string x)) (by omega) B1.out hx ht)
    clear B0 D0 RET
    go_wp2
    refine bodyPost_ret (results_R Tryd.results51 _ _ w.heap.size _ _ rfl ((B1.out.set2 _ _).cell rfl) ((B1.out.set2 _ _).cell rfl)) rfl E1.out
  · have r0i : (r == 0) = false := by rw [beq_eq_false_iff_ne]; exact r0
    by_cases r1 : r = 1
    · subst r1
      go_wp2_with fail
      refine (of_any g (A + 6) w3.heap.size 3 3 (fun x => x.size ≤ 20) _ (C3.fr ((Fr.refl _).alloc _)) (by omega) (by omega) (by omega) (by have := C3.lt; omega) (lit_strs (fun i hi => by rcases i with _ | _ | _ | i; all_goals first | exact ⟨_, rfl, by decide⟩ | omega))).mono ?_
      rintro e w4 ⟨x, rfl, hx, C4, g4⟩
      replace G0 := grownBy_trans (grownBy_trans G0 (((Fr.refl w3).alloc _).grownBy _)) g4
      replace B0 := (B0.fr ((Fr.refl _).alloc _)).grown g4 (fun e => by cases e; omega)
      replace D0 := (D0.fr ((Fr.refl _).alloc _)).grown g4 (fun e => by cases e; omega)
      clear C3 g4
      have j0 := B0.cell (j := 0) (v := .string ⟨#[]⟩) rfl; have j1 := B0.cell (j := 1) (v := .string ⟨#[]⟩) rfl; have i0 := B0.free 0; have i1 := B0.free 1
      have k0 := D0.cell (j := 0) (v := .string s) rfl; have k1 := D0.cell (j := 1) (v := .string t) rfl; have l0 := D0.free 0; have l1 := D0.free 1
      have hne : w.heap.size ≠ w2.heap.size := by omega
      have B1 := Lib.hid (B0.other hne 1 (.string x))
      have E1 := Lib.hid (RET _ (A + 8) s x (G1 G0 1 x) (C4.setCell (q := ⟨w2.heap.size, 1, none⟩) ng (.string x)) (by omega) B1.out hs hx)
      clear B0 D0 RET
      go_wp2
      refine bodyPost_ret (results_R Tryd.results51 _ _ w.heap.size _ _ rfl ((B1.out.set2 _ _).cell rfl) ((B1.out.set2 _ _).cell rfl)) rfl E1.out
    · have r1i : (r == 1) = false := by rw [beq_eq_false_iff_ne]; exact r1
      have j0 := B0.cell (j := 0) (v := .string ⟨#[]⟩) rfl; have j1 := B0.cell (j := 1) (v := .string ⟨#[]⟩) rfl; have i0 := B0.free 0; have i1 := B0.free 1
      have k0 := D0.cell (j := 0) (v := .string s) rfl; have k1 := D0.cell (j := 1) (v := .string t) rfl
      have B1 := Lib.hid B0
      have E1 := Lib.hid (RET _ (A + 6) s t G0 C3 (by omega) B1.out hs ht)
      clear B0 D0 RET
      go_wp2
      refine bodyPost_ret (results_R Tryd.results51 _ _ w.heap.size _ _ rfl ((B1.out.set2 _ _).cell rfl) ((B1.out.set2 _ _).cell rfl)) rfl E1.out
end Go.Proofs.YtolnloeapbplkaaDoor
