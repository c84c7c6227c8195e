import Derived.Test.YtolnloeapbplkaaDoorDraw3
import Derived.Test.YtolnloeapbplkaaDoorCut
import Derived.Test.YtolnloeapbplkaaDoorCrashM
/- DrawRecoverLog. -/
set_option linter.unusedVariables false
namespace Go.Proofs.YtolnloeapbplkaaDoor
open Go.ChangeShapes Go.WideShapes Go.ChangeAt Go.RowKit
theorem made_at (z : Value) (n j : Nat) (h : j < n) : (madeCells #[z] n)[j]? = some z := by
  rw [← Array.getElem?_toList, toList_madeCells_one]; simp [h]
theorem zeroN (w : World) (n : Nat) : (convert 22 9 (.slice (some ⟨w.heap.size, 0, none⟩) n n)).run Tryd.prog (w.alloc (.cells (madeCells #[.int .u8 0] n) 5)) = .ok (.string (ba (List.replicate n 0))) (w.alloc (.cells (madeCells #[.int .u8 0] n) 5)) := by
  refine ByA.back (l := List.replicate n 0) ⟨by simp, fun j hj => ?_⟩ n n (by simp)
  have H := heap_alloc_new w (.cells (madeCells #[.int .u8 0] n) 5)
  refine ⟨?_, by unfold World.frozen?; rw [H]; rfl⟩
  rw [cell_of_row _ _ _ _ _ _ H, made_at _ _ _ (by simpa using hj)]
  rw [List.length_replicate] at hj
  simp [hj]
set_option maxRecDepth 100000 in
set_option maxHeartbeats 2000000 in
theorem DrawRecoverLog_any (w : World) (hE : Env w) (a : Option Addr) (n cap : Nat) (zs : List Int) (h : SLB w a n cap zs) :
    Calls Tryd.prog 35 #[.slice a n cap] w fun e w' => ∃ s : ByteArray, e = .returned (.string s) ∧ s.size ≤ 60000 ∧ Fr w w' := by
  have F0 : Fr w (w.alloc (.cells #[.slice a n cap, .int .i64 0, .int .u64 0] 85)) := (Fr.refl w).alloc _
  have C0 := Cur.start h
  go_enter Tryd.func35, Tryd.ntmps35
  go_wp2_with fail
  refine (log12_any w hE _ 0 _ F0 (Nat.le_refl _) C0 (by omega)).mono ?_
  rintro e w1 ⟨d, p, c, rfl, hs, hc0, hc1, C1, g1⟩
  have D1 := Box.new w1 #[.string d, .string p, .int .i64 c] 33
  have G1 := (F0.grown g1 (fun k e => by have := Option.some.inj e; omega)).alloc (.cells #[.string d, .string p, .int .i64 c] 33)
  have c0 := D1.cell (j := 0) (v := .string d) rfl; have c1 := D1.cell (j := 1) (v := .string p) rfl
  have ad := fun (W : World) => run_string_add_sum (P := Tryd.prog) W d p (by omega)
  have hsz : (d ++ p).size ≤ 3000 := by rw [ByteArray.size_append]; exact hs
  go_wp2_with fail
  generalize d ++ p = s at hsz ⊢
  clear ad c0 c1 D1 hs hc0 hc1
  refine (pick_any _ 100 4 _ (C1.fr ((Fr.refl _).alloc _)) (by omega) (by unfold I64; omega)).mono ?_
  rintro e w2 ⟨r, rfl, hr0, hr1, C2, g2⟩
  have G2 := G1.grown g2 (fun k e => by have := Option.some.inj e; omega)
  clear C1 g1 g2 G1 C0 F0
  by_cases r0 : r = 0
  · subst r0
    go_wp2_with fail
    refine (spoilt_any _ 102 s ⟨#[35, 64, 10, 48, 49]⟩ w2 C2 (by omega) (by omega) (by decide) (by decide)).mono ?_
    rintro e w3 ⟨t, rfl, ht, C3, g3⟩
    have G3 := G2.grown g3 (fun k e => by have := Option.some.inj e; omega)
    go_wp2_with fail
    refine (one_any (w.heap.size) (110) 40 _ C3 (by omega) (by unfold I64; omega)).mono ?_
    rintro e w9 ⟨b, rfl, C9, g9⟩
    have G9 := G3.grown g9 (fun k e => by have := Option.some.inj e; omega)
    cases b
    · go_wp2
      go_ret
      exact ⟨_, rfl, by omega, G9⟩
    · go_wp2_with fail
      refine (pick_any (w.heap.size) (110 + 2) 2 _ C9 (by omega) (by unfold I64; omega)).mono ?_
      rintro e wa ⟨r, rfl, hr0, hr1, Ca, ga⟩
      have Ga := G9.grown ga (fun k e => by have := Option.some.inj e; omega)
      obtain ⟨q, rfl⟩ := Int.eq_ofNat_of_zero_le hr0
      have hmk := run_make_row' (P := Tryd.prog) 22 5 (.int .u8 0) 1 Tryd.underlying22 infoU8 rfl .i64 .i64 (30000 + q) (by omega) (by omega) wa
      have hcv := zeroN wa (30000 + q)
      rw [show ((30000 + q : Nat) : Int) = 30000 + (q : Int) by omega] at hmk
      have e1 : IntKind.i64.wrap (30000 + (q : Int)) = 30000 + (q : Int) := IntWalk.i64_in _ (by omega)
      have hz : (ba (List.replicate (30000 + q) 0)).size ≤ 60000 := by rw [ba_size, List.length_replicate]; omega
      generalize ba (List.replicate (30000 + q) 0) = zz at hcv hz
      generalize 30000 + q = nn at hmk hcv
      go_wp2
      go_ret
      exact ⟨_, rfl, hz, Ga.alloc _⟩
  · have r0i : (r == 0) = false := by rw [beq_eq_false_iff_ne]; exact r0
    by_cases r1 : r = 1
    · subst r1
      have e1 : IntKind.i64.wrap ((s.size : Int) + 1) = (s.size : Int) + 1 := IntWalk.i64_in _ (by omega)
      go_wp2_with fail
      refine (pick_any _ 102 ((s.size : Int) + 1) _ C2 (by omega) (by unfold I64; omega)).mono ?_
      rintro e w3 ⟨x, rfl, hx0, hx1, C3, g3⟩
      have G3 := G2.grown g3 (fun k e => by have := Option.some.inj e; omega)
      obtain ⟨y, rfl⟩ := Int.eq_ofNat_of_zero_le hx0
      have hy : (y : Int) ≤ (s.size : Int) := by omega
      have hyz : (s.extract 0 y).size ≤ 3000 := by rw [ByteArray.size_extract]; omega
      clear e1
      go_wp2_with fail
      refine (one_any (w.heap.size) (104) 40 _ C3 (by omega) (by unfold I64; omega)).mono ?_
      rintro e w9 ⟨b, rfl, C9, g9⟩
      have G9 := G3.grown g9 (fun k e => by have := Option.some.inj e; omega)
      cases b
      · go_wp2
        go_ret
        exact ⟨_, rfl, by omega, G9⟩
      · go_wp2_with fail
        refine (pick_any (w.heap.size) (104 + 2) 2 _ C9 (by omega) (by unfold I64; omega)).mono ?_
        rintro e wa ⟨r, rfl, hr0, hr1, Ca, ga⟩
        have Ga := G9.grown ga (fun k e => by have := Option.some.inj e; omega)
        obtain ⟨q, rfl⟩ := Int.eq_ofNat_of_zero_le hr0
        have hmk := run_make_row' (P := Tryd.prog) 22 5 (.int .u8 0) 1 Tryd.underlying22 infoU8 rfl .i64 .i64 (30000 + q) (by omega) (by omega) wa
        have hcv := zeroN wa (30000 + q)
        rw [show ((30000 + q : Nat) : Int) = 30000 + (q : Int) by omega] at hmk
        have e1 : IntKind.i64.wrap (30000 + (q : Int)) = 30000 + (q : Int) := IntWalk.i64_in _ (by omega)
        have hz : (ba (List.replicate (30000 + q) 0)).size ≤ 60000 := by rw [ba_size, List.length_replicate]; omega
        generalize ba (List.replicate (30000 + q) 0) = zz at hcv hz
        generalize 30000 + q = nn at hmk hcv
        go_wp2
        go_ret
        exact ⟨_, rfl, hz, Ga.alloc _⟩
    · have r1i : (r == 1) = false := by rw [beq_eq_false_iff_ne]; exact r1
      by_cases r2 : r = 2
      · subst r2
        go_wp2_with fail
        refine (pick_any _ 102 4 _ C2 (by omega) (by unfold I64; omega)).mono ?_
        rintro e w3 ⟨x, rfl, hx0, hx1, C3, g3⟩
        have G3 := G2.grown g3 (fun k e => by have := Option.some.inj e; omega)
        obtain ⟨y, rfl⟩ := Int.eq_ofNat_of_zero_le hx0
        go_wp2_with fail
        refine (logRecord_any _ 104 _ C3 (by omega)).mono ?_
        rintro e w4 ⟨u, v, rfl, hu, hv, C4, g4⟩
        have G4 := G3.grown g4 (fun k e => by have := Option.some.inj e; omega)
        have hln : (ba (lineS y (bl u, bl v))).size ≤ 400 := by
          rw [ba_size, lineS, List.length_append, List.length_singleton]
          have h1 := (sealS_len (textS y (bl u, bl v))).2
          have h2 : (textS y (bl u, bl v)).length ≤ 60 := by
            have h3 := dec_len y 1 (by omega)
            simp only [textS, List.length_append, List.length_cons, bl_len]
            omega
          omega
        have HLN := Lib.hid (fun W => l12Line_any y u v W (by omega) (by omega) (by omega))
        generalize ba (lineS y (bl u, bl v)) = ln at hln HLN
        have ad := fun (W : World) => run_string_add_sum (P := Tryd.prog) W s ln (by omega)
        have hsl : (s ++ ln).size ≤ 4000 := by rw [ByteArray.size_append]; omega
        go_wp2_with fail
        refine (HLN.out _).mono ?_
        rintro e w5 ⟨rfl, f5⟩
        have C5 := C4.fr f5
        have G5 := G4.trans f5
        go_wp2_with fail
        refine (one_any (w.heap.size) (112) 40 _ C5 (by omega) (by unfold I64; omega)).mono ?_
        rintro e w9 ⟨b, rfl, C9, g9⟩
        have G9 := G5.grown g9 (fun k e => by have := Option.some.inj e; omega)
        cases b
        · go_wp2
          go_ret
          exact ⟨_, rfl, by omega, G9⟩
        · go_wp2_with fail
          refine (pick_any (w.heap.size) (112 + 2) 2 _ C9 (by omega) (by unfold I64; omega)).mono ?_
          rintro e wa ⟨r, rfl, hr0, hr1, Ca, ga⟩
          have Ga := G9.grown ga (fun k e => by have := Option.some.inj e; omega)
          obtain ⟨q, rfl⟩ := Int.eq_ofNat_of_zero_le hr0
          have hmk := run_make_row' (P := Tryd.prog) 22 5 (.int .u8 0) 1 Tryd.underlying22 infoU8 rfl .i64 .i64 (30000 + q) (by omega) (by omega) wa
          have hcv := zeroN wa (30000 + q)
          rw [show ((30000 + q : Nat) : Int) = 30000 + (q : Int) by omega] at hmk
          have e1 : IntKind.i64.wrap (30000 + (q : Int)) = 30000 + (q : Int) := IntWalk.i64_in _ (by omega)
          have hz : (ba (List.replicate (30000 + q) 0)).size ≤ 60000 := by rw [ba_size, List.length_replicate]; omega
          generalize ba (List.replicate (30000 + q) 0) = zz at hcv hz
          generalize 30000 + q = nn at hmk hcv
          go_wp2
          go_ret
          exact ⟨_, rfl, hz, Ga.alloc _⟩
      · have r2i : (r == 2) = false := by rw [beq_eq_false_iff_ne]; exact r2
        go_wp2_with fail
        refine (one_any (w.heap.size) (102) 40 _ C2 (by omega) (by unfold I64; omega)).mono ?_
        rintro e w9 ⟨b, rfl, C9, g9⟩
        have G9 := G2.grown g9 (fun k e => by have := Option.some.inj e; omega)
        cases b
        · go_wp2
          go_ret
          exact ⟨_, rfl, by omega, G9⟩
        · go_wp2_with fail
          refine (pick_any (w.heap.size) (102 + 2) 2 _ C9 (by omega) (by unfold I64; omega)).mono ?_
          rintro e wa ⟨r, rfl, hr0, hr1, Ca, ga⟩
          have Ga := G9.grown ga (fun k e => by have := Option.some.inj e; omega)
          obtain ⟨q, rfl⟩ := Int.eq_ofNat_of_zero_le hr0
          have hmk := run_make_row' (P := Tryd.prog) 22 5 (.int .u8 0) 1 Tryd.underlying22 infoU8 rfl .i64 .i64 (30000 + q) (by omega) (by omega) wa
          have hcv := zeroN wa (30000 + q)
          rw [show ((30000 + q : Nat) : Int) = 30000 + (q : Int) by omega] at hmk
          have e1 : IntKind.i64.wrap (30000 + (q : Int)) = 30000 + (q : Int) := IntWalk.i64_in _ (by omega)
          have hz : (ba (List.replicate (30000 + q) 0)).size ≤ 60000 := by rw [ba_size, List.length_replicate]; omega
          generalize ba (List.replicate (30000 + q) 0) = zz at hcv hz
          generalize 30000 + q = nn at hmk hcv
          go_wp2
          go_ret
          exact ⟨_, rfl, hz, Ga.alloc _⟩
end Go.Proofs.YtolnloeapbplkaaDoor
