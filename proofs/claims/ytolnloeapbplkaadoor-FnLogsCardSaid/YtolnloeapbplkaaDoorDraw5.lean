import Derived.Test.YtolnloeapbplkaaDoorCrashW
/- Draws: DrawIsValidRecord, DrawEncodeRecord, DrawIsValidLog, DrawAppendRecord. -/
set_option linter.unusedVariables false
namespace Go.Proofs.YtolnloeapbplkaaDoor
open Go.ChangeShapes Go.WideShapes Go.ChangeAt Go.RowKit

set_option maxRecDepth 100000 in
theorem DrawIsValidRecord_any (w : World) (a : Option Addr) (n cap : Nat) (zs : List Int) (h : SLB w a n cap zs) :
    Calls Tryd.prog 14 #[.slice a n cap] w fun e w' => ∃ s t : ByteArray, e = .returned (.agg #[.string s, .string t]) ∧ s.size ≤ 20 ∧ t.size ≤ 20 ∧ Fr w w' := by
  have B0 := (Box.new w #[.string ⟨#[]⟩, .string ⟨#[]⟩] 25).fr ((Fr.refl _).alloc (.cells #[.slice a n cap, .int .i64 0, .int .u64 0] 85))
  have F0 : Fr w (w.alloc (.cells #[.string ⟨#[]⟩, .string ⟨#[]⟩] 25)) := (Fr.refl w).alloc _
  have F1 := F0.alloc (.cells #[.slice a n cap, .int .i64 0, .int .u64 0] 85)
  have C0 := Cur.start (h.fr F0)
  rw [World.size_alloc] at C0
  go_enter Tryd.func14, Tryd.ntmps14
  go_wp2_with fail
  refine (logRecord_any _ 0 _ C0 (by omega)).mono ?_
  rintro e w1 ⟨s, t, rfl, hs, ht, C1, g1⟩
  have B1 := B0.grown g1 (fun e => by have := Option.some.inj e; omega)
  have G1 := F1.grown g1 (fun k e => by have := Option.some.inj e; omega)
  have j0 := B1.cell (j := 0) rfl; have j1 := B1.cell (j := 1) rfl
  have i0 := B1.free 0; have i1 := B1.free 1
  have E3 := Lib.hid (B1.set2 (.string s) (.string t))
  have G3 := Lib.hid (G1.set2 (Nat.le_refl _) (.string s) (.string t))
  clear B0 B1 G1 F0 F1 C0 C1 g1
  go_wp2
  refine bodyPost_ret (results_R Tryd.results14 _ _ w.heap.size _ _ rfl (E3.out.cell rfl) (E3.out.cell rfl)) rfl ?_
  exact ⟨s, t, rfl, hs, ht, G3.out⟩

theorem lit_ints {w : World} {cs : Array Value} {t : TypeId} {n : Nat} {Q : Int → Prop} (h : ∀ i, i < n → ∃ x, cs[i]? = some (.int .i64 x) ∧ Q x) : ∀ i, i < n → ∃ x, (w.alloc (.cells cs t)).cell? ⟨w.heap.size, i, none⟩ = some (.int .i64 x) ∧ Q x := fun i hi => by
  obtain ⟨v, h1, h2⟩ := h i hi
  exact ⟨v, (Box.new w cs t).cell h1, h2⟩
theorem results_IR {fn : Func} {k r : Nat} (hr : fn.results = #[.tmp r, .cell k 25]) (tmps : Array Value) (w : World) (g : Nat) (v0 v1 b : Value) (h : tmps[k]?.getD undef = .pointer (some ⟨g, 0, none⟩)) (hb : tmps[r]?.getD undef = b)
    (hB : Box w g #[v0, v1] 25) : (results fn tmps).run Tryd.prog w = .ok (.tuple #[b, .agg #[v0, v1]]) w := by
  have h0 := hB.cell (j := 0) (v := v0) rfl
  have h1 := hB.cell (j := 1) (v := v1) rfl
  simp [results, hr, go_sem, h, hb, h0, h1]
set_option maxRecDepth 100000 in
theorem DrawEncodeRecord_any (w : World) (a : Option Addr) (n cap : Nat) (zs : List Int) (h : SLB w a n cap zs) :
    Calls Tryd.prog 15 #[.slice a n cap] w fun e w' => ∃ (k : Int) (s t : ByteArray), e = .returned (.tuple #[.int .i64 k, .agg #[.string s, .string t]]) ∧ I64 k ∧ s.size ≤ 20 ∧ t.size ≤ 20 ∧ Fr w w' := by
  have B0 := (Box.new w #[.string ⟨#[]⟩, .string ⟨#[]⟩] 25).fr ((Fr.refl _).alloc (.cells #[.slice a n cap, .int .i64 0, .int .u64 0] 85))
  have F0 : Fr w (w.alloc (.cells #[.string ⟨#[]⟩, .string ⟨#[]⟩] 25)) := (Fr.refl w).alloc _
  have F1 := F0.alloc (.cells #[.slice a n cap, .int .i64 0, .int .u64 0] 85)
  have C0 := Cur.start (h.fr F0)
  have n0 : ((w.alloc (.cells #[.string ⟨#[]⟩, .string ⟨#[]⟩] 25)).alloc (.cells #[.slice a n cap, .int .i64 0, .int .u64 0] 85)).heap.size = w.heap.size + 1 + 1 := by simp only [World.size_alloc]
  have N0 := Lib.hid n0
  clear n0
  rw [World.size_alloc] at C0
  go_enter Tryd.func15, Tryd.ntmps15
  go_wp2_with fail
  refine (among_any _ 0 (w.heap.size + 1 + 1) 6 6 I64 _ (C0.fr ((Fr.refl _).alloc _)) (by omega) (by omega) (by omega) (by omega) (by rw [← N0.out]; exact lit_ints (fun i hi => by rcases i with _ | _ | _ | _ | _ | _ | i; all_goals first | exact ⟨_, rfl, by unfold I64; omega⟩ | omega))).mono ?_
  rintro e w0 ⟨k, rfl, hk, C1, g0⟩
  have B1 := (B0.fr ((Fr.refl _).alloc _)).grown g0 (fun e => by have := Option.some.inj e; omega)
  have G1 := (F1.alloc _).grown g0 (fun k e => by have := Option.some.inj e; omega)
  clear B0 F0 F1 C0 N0 g0
  go_wp2_with fail
  refine (logRecord_any _ 2 _ C1 (by omega)).mono ?_
  rintro e w1 ⟨s, t, rfl, hs, ht, C2, g1⟩
  have B2 := B1.grown g1 (fun e => by have := Option.some.inj e; omega)
  have G2 := G1.grown g1 (fun k e => by have := Option.some.inj e; omega)
  have j0 := B2.cell (j := 0) rfl; have j1 := B2.cell (j := 1) rfl
  have i0 := B2.free 0; have i1 := B2.free 1
  have E3 := Lib.hid (B2.set2 (.string s) (.string t))
  have G3 := Lib.hid (G2.set2 (Nat.le_refl _) (.string s) (.string t))
  clear B1 B2 G1 G2 C1 C2 g1
  go_wp2
  refine bodyPost_ret (results_IR Tryd.results15 _ _ w.heap.size _ _ _ rfl rfl E3.out) rfl ?_
  exact ⟨k, s, t, rfl, hk, hs, ht, G3.out⟩

set_option maxRecDepth 100000 in
theorem DrawIsValidLog_any (w : World) (hE : Env w) (a : Option Addr) (n cap : Nat) (zs : List Int) (h : SLB w a n cap zs) :
    Calls Tryd.prog 19 #[.slice a n cap] w fun e w' => ∃ (d p : ByteArray) (c : Int), e = .returned (.agg #[.string d, .string p, .int .i64 c]) ∧ d.size + p.size ≤ 7000 ∧ 0 ≤ c ∧ c ≤ 62 ∧ Fr w w' := by
  have B0 := (Box.new w #[.string ⟨#[]⟩, .string ⟨#[]⟩, .int .i64 0] 33).fr ((Fr.refl _).alloc (.cells #[.slice a n cap, .int .i64 0, .int .u64 0] 85))
  have F0 : Fr w (w.alloc (.cells #[.string ⟨#[]⟩, .string ⟨#[]⟩, .int .i64 0] 33)) := (Fr.refl w).alloc _
  have F1 := F0.alloc (.cells #[.slice a n cap, .int .i64 0, .int .u64 0] 85)
  have C0 := Cur.start (h.fr F0)
  rw [World.size_alloc] at C0
  go_enter Tryd.func19, Tryd.ntmps19
  go_wp2_with fail
  refine (anyLog_any w hE _ 0 _ F1 (by omega) C0 (by omega)).mono ?_
  rintro e w1 ⟨d, p, c, rfl, hs, hc0, hc1, C1, g1⟩
  have B1 := B0.grown g1 (fun e => by have := Option.some.inj e; omega)
  have G1 := F1.grown g1 (fun k e => by have := Option.some.inj e; omega)
  have j0 := B1.cell (j := 0) rfl; have j1 := B1.cell (j := 1) rfl; have j2 := B1.cell (j := 2) rfl
  have i0 := B1.free 0; have i1 := B1.free 1; have i2 := B1.free 2
  have E3 := Lib.hid (B1.set3 (.string d) (.string p) (.int .i64 c))
  have G3 := Lib.hid (G1.set3 (Nat.le_refl _) (.string d) (.string p) (.int .i64 c))
  clear B0 B1 G1 F0 F1 C0 C1 g1
  go_wp2
  refine bodyPost_ret (results_L Tryd.results19 _ _ w.heap.size _ _ _ rfl E3.out) rfl ?_
  exact ⟨d, p, c, rfl, hs, hc0, hc1, G3.out⟩

theorem results_LR {fn : Func} {k r : Nat} (hr : fn.results = #[.cell k 33, .cell r 25]) (tmps : Array Value) (w : World) (g g' : Nat) (v0 v1 v2 u0 u1 : Value) (h : tmps[k]?.getD undef = .pointer (some ⟨g, 0, none⟩)) (h' : tmps[r]?.getD undef = .pointer (some ⟨g', 0, none⟩))
    (hB : Box w g #[v0, v1, v2] 33) (hD : Box w g' #[u0, u1] 25) : (results fn tmps).run Tryd.prog w = .ok (.tuple #[.agg #[v0, v1, v2], .agg #[u0, u1]]) w := by
  have h0 := hB.cell (j := 0) (v := v0) rfl
  have h1 := hB.cell (j := 1) (v := v1) rfl
  have h2 := hB.cell (j := 2) (v := v2) rfl
  have h3 := hD.cell (j := 0) (v := u0) rfl
  have h4 := hD.cell (j := 1) (v := u1) rfl
  simp [results, hr, go_sem, h, h', h0, h1, h2, h3, h4]
set_option maxRecDepth 100000 in
set_option maxHeartbeats 1000000 in
theorem DrawAppendRecord_any (w : World) (hE : Env w) (a : Option Addr) (n cap : Nat) (zs : List Int) (h : SLB w a n cap zs) :
    Calls Tryd.prog 20 #[.slice a n cap] w fun e w' => ∃ (d p : ByteArray) (c : Int) (s t : ByteArray), e = .returned (.tuple #[.agg #[.string d, .string p, .int .i64 c], .agg #[.string s, .string t]]) ∧ d.size + p.size ≤ 30000 ∧ 0 ≤ c ∧ c ≤ 62 ∧ s.size ≤ 20 ∧ t.size ≤ 20 ∧ Fr w w' := by
  have F0 : Fr w ((w.alloc (.cells #[.string ⟨#[]⟩, .string ⟨#[]⟩, .int .i64 0] 33)).alloc (.cells #[.string ⟨#[]⟩, .string ⟨#[]⟩] 25)) := ((Fr.refl w).alloc _).alloc _
  have B0 := ((Box.new w #[.string ⟨#[]⟩, .string ⟨#[]⟩, .int .i64 0] 33).fr ((Fr.refl _).alloc (.cells #[.string ⟨#[]⟩, .string ⟨#[]⟩] 25))).fr ((Fr.refl _).alloc (.cells #[.slice a n cap, .int .i64 0, .int .u64 0] 85))
  have R0 := (Box.new (w.alloc (.cells #[.string ⟨#[]⟩, .string ⟨#[]⟩, .int .i64 0] 33)) #[.string ⟨#[]⟩, .string ⟨#[]⟩] 25).fr ((Fr.refl _).alloc (.cells #[.slice a n cap, .int .i64 0, .int .u64 0] 85))
  have F1 := F0.alloc (.cells #[.slice a n cap, .int .i64 0, .int .u64 0] 85)
  have C0 := Cur.start (h.fr F0)
  simp only [World.size_alloc] at C0 R0
  go_enter Tryd.func20, Tryd.ntmps20
  go_wp2_with fail
  refine (anyLog_any w hE _ 0 _ F1 (by omega) C0 (by omega)).mono ?_
  rintro e w1 ⟨d, p, c, rfl, hs, hc0, hc1, C1, g1⟩
  have D1 := Box.new w1 #[.string d, .string p, .int .i64 c] 33
  have B1 := (B0.grown g1 (fun e => by have := Option.some.inj e; omega)).fr ((Fr.refl _).alloc (.cells #[.string d, .string p, .int .i64 c] 33))
  have R1 := (R0.grown g1 (fun e => by have := Option.some.inj e; omega)).fr ((Fr.refl _).alloc (.cells #[.string d, .string p, .int .i64 c] 33))
  have G1 := (F1.grown g1 (fun k e => by have := Option.some.inj e; omega)).alloc (.cells #[.string d, .string p, .int .i64 c] 33)
  have hng := C1.lt
  have nw1 : w.heap.size + 1 + 1 < w1.heap.size := hng
  clear B0 R0 F0 F1 C0 g1
  go_wp2_with fail
  refine (one_any _ 120 40 _ (C1.fr ((Fr.refl _).alloc _)) (by omega) (by unfold I64; omega)).mono ?_
  rintro e w2 ⟨b, rfl, C2, g2⟩
  have D2 := D1.grown g2 (fun e => by have := Option.some.inj e; omega)
  have B2 := B1.grown g2 (fun e => by have := Option.some.inj e; omega)
  have R2 := R1.grown g2 (fun e => by have := Option.some.inj e; omega)
  have G2 := G1.grown g2 (fun k e => by have := Option.some.inj e; omega)
  clear D1 B1 R1 G1 C1 g2
  cases b
  · skip
    have c0 := D2.cell (j := 0) (v := .string d) rfl; have c1 := D2.cell (j := 1) (v := .string p) rfl; have c2 := D2.cell (j := 2) (v := .int .i64 c) rfl
    have hne : w.heap.size ≠ w1.heap.size := by omega
    have hne2 : w.heap.size + 1 ≠ w1.heap.size := by omega
    go_upto_region 9 with fail
    go_region_held3 (fun w' => w'.cell? ⟨w1.heap.size, 0, none⟩ = some (.string d) ∧ w'.cell? ⟨w1.heap.size, 1, none⟩ = some (.string p) ∧ w'.cell? ⟨w1.heap.size, 2, none⟩ = some (.int .i64 c))
      (first
        | (with_reducible exact ⟨x0, x1, x2⟩)
        | (with_reducible exact ⟨(cell3 _ _ _ hne).trans x0, (cell3 _ _ _ hne).trans x1, (cell3 _ _ _ hne).trans x2⟩)
        | (with_reducible exact ⟨(cell2 _ _ hne2).trans ((cell3 _ _ _ hne).trans x0), (cell2 _ _ hne2).trans ((cell3 _ _ _ hne).trans x1), (cell2 _ _ hne2).trans ((cell3 _ _ _ hne).trans x2)⟩)
        | go_keep)
      (first | (go_at_call 51; refine (logRecord_any _ (122) _ (by first | exact C2.fr (Fr.drewN _ 1) | exact C2) (by omega)).mono ?_; rintro e w9 ⟨s, t, rfl, hs9, ht9, C9, g9'⟩; have g9 : w2.grownBy w9 (some (w.heap.size + 1 + 1)) := (by first | exact g9' | exact grownBy_trans ((Fr.drewN w2 1).grownBy _) g9'); have D9 := D2.grown g9 (fun e => by have := Option.some.inj e; omega); have B9 := B2.grown g9 (fun e => by have := Option.some.inj e; omega); have R9 := R2.grown g9 (fun e => by have := Option.some.inj e; omega); have x0 := D9.cell (j := 0) (v := .string d) rfl; have x1 := D9.cell (j := 1) (v := .string p) rfl; have x2 := D9.cell (j := 2) (v := .int .i64 c) rfl; have j0 := B9.cell (j := 0) rfl; have j1 := B9.cell (j := 1) rfl; have j2 := B9.cell (j := 2) rfl; have i0 := B9.free 0; have i1 := B9.free 1; have i2 := B9.free 2; have k0 := R9.cell (j := 0) rfl; have k1 := R9.cell (j := 1) rfl; have l0 := R9.free 0; have l1 := R9.free 1) | fail)
    have hw : w.heap.size ≠ w.heap.size + 1 := by omega
    have B10 := B9.set3 (.string d) (.string p) (.int .i64 c)
    have E3 := Lib.hid ((B10.other hw 0 (.string s)).other hw 1 (.string t))
    have E4 := Lib.hid ((((R9.other hw.symm 0 (.string d)).other hw.symm 1 (.string p)).other hw.symm 2 (.int .i64 c)).set2 (.string s) (.string t))
    have G3 := Lib.hid (((G2.grown g9 (fun k e => by have := Option.some.inj e; omega)).set3 (Nat.le_refl _) (.string d) (.string p) (.int .i64 c)).set2 (g := w.heap.size + 1) (by omega) (.string s) (.string t))
    clear x0 x1 x2 j0 j1 j2 i0 i1 i2 k0 k1 l0 l1 B9 D9 R9 B10 c0 c1 c2
    go_wp2
    refine bodyPost_ret (results_LR Tryd.results20 _ _ w.heap.size (w.heap.size + 1) _ _ _ _ _ rfl rfl E3.out E4.out) rfl ?_
    exact ⟨_, _, _, s, t, rfl, by omega, by omega, by omega, hs9, ht9, G3.out⟩
  · have i0 := D2.free 0; have i1 := D2.free 1; have i2 := D2.free 2
    have c0 := D2.cell (j := 0) (v := .string d) rfl; have c1 := D2.cell (j := 1) (v := .string p) rfl; have c2 := D2.cell (j := 2) (v := .int .i64 c) rfl
    go_wp2_with fail
    have D3 := D2.set3 (.string ⟨#[]⟩) (.string ⟨#[]⟩) (.int .i64 0)
    have hne : w.heap.size ≠ w1.heap.size := by omega
    have hne2 : w.heap.size + 1 ≠ w1.heap.size := by omega
    have B3 := ((B2.other hne 0 (.string ⟨#[]⟩)).other hne 1 (.string ⟨#[]⟩)).other hne 2 (.int .i64 0)
    have R3 := ((R2.other hne2 0 (.string ⟨#[]⟩)).other hne2 1 (.string ⟨#[]⟩)).other hne2 2 (.int .i64 0)
    have C3 := ((C2.setCell (q := ⟨w1.heap.size, 0, none⟩) (by exact hng) (.string ⟨#[]⟩)).setCell (q := ⟨w1.heap.size, 1, none⟩) (by exact hng) (.string ⟨#[]⟩)).setCell (q := ⟨w1.heap.size, 2, none⟩) (by exact hng) (.int .i64 0)
    have G3 := G2.set3 (g := w1.heap.size) (by omega) (.string ⟨#[]⟩) (.string ⟨#[]⟩) (.int .i64 0)
    clear D2 B2 R2 C2 G2 i0 i1 i2 c0 c1 c2
    refine (pick_any _ 122 2 _ C3 (by omega) (by unfold I64; omega)).mono ?_
    rintro e w3 ⟨r, rfl, hr0, hr1, C4, g4⟩
    have D4 := D3.grown g4 (fun e => by have := Option.some.inj e; omega)
    have B4 := B3.grown g4 (fun e => by have := Option.some.inj e; omega)
    have R4 := R3.grown g4 (fun e => by have := Option.some.inj e; omega)
    have G4 := G3.grown g4 (fun k e => by have := Option.some.inj e; omega)
    obtain ⟨m, rfl⟩ := Int.eq_ofNat_of_zero_le hr0
    have hm : m ≤ 1 := by omega
    clear D3 B3 R3 C3 G3 g4 hr0 hr1 hs hc0 hc1
    go_wp2_with fail
    go_loopw [6] (fun i wr => ∃ (q : Nat) (d p : ByteArray) (c : Int), i = .int .i64 q ∧ q ≤ 60 ∧ Box wr w1.heap.size #[.string d, .string p, .int .i64 c] 33 ∧ d.size + p.size + 400 * q ≤ 24400 ∧ 0 ≤ c ∧ c ≤ 61 ∧ Cur (w.heap.size + 1 + 1) 124 wr ∧ Box wr w.heap.size #[.string ⟨#[]⟩, .string ⟨#[]⟩, .int .i64 0] 33 ∧ Box wr (w.heap.size + 1) #[.string ⟨#[]⟩, .string ⟨#[]⟩] 25 ∧ Fr w wr) (fun i _ => (intOf i).toNat)
    case atStart => exact ⟨59 + m, ⟨#[]⟩, ⟨#[]⟩, 0, by go_num, by omega, D4, by change 0 + 0 + 400 * (59 + m) ≤ 24400; omega, by omega, by omega, C4, B4, R4, G4⟩
    case round =>
      clear D4 B4 R4 C4 G4
      obtain ⟨q, d, p, c, rfl, hq, D5, hs, hc0, hc1, C5, B5, R5, G5⟩ := hrel
      by_cases h0 : 0 < q
      · have hqi : (0 : Int) < (q : Int) := by omega
        have c0 := D5.cell (j := 0) (v := .string d) rfl; have c1 := D5.cell (j := 1) (v := .string p) rfl; have c2 := D5.cell (j := 2) (v := .int .i64 c) rfl
        go_wp2_with fail
        refine (spec_AppendRecord_any d p c ⟨#[120]⟩ ⟨#[]⟩ _ (by omega) (by decide)).mono ?_
        rintro e w6 ⟨rfl, f6⟩
        have hrg := apdV_rng (d := d) (p := p) (s := ⟨#[120]⟩) (t := ⟨#[]⟩) hc0 hc1
        generalize (apdV d p c ⟨#[120]⟩ ⟨#[]⟩).2.2 = st at hrg ⊢
        generalize (apdV d p c ⟨#[120]⟩ ⟨#[]⟩).1 = p' at hrg ⊢
        generalize (apdV d p c ⟨#[120]⟩ ⟨#[]⟩).2.1 = c' at hrg ⊢
        obtain ⟨⟨hc0', hc1'⟩, hs'⟩ := hrg
        have D6 := D5.fr f6
        have u0 := D6.cell (j := 0) (v := .string d) rfl; have u1 := D6.cell (j := 1) (v := .string p) rfl; have u2 := D6.cell (j := 2) (v := .int .i64 c) rfl
        have i0 := D6.free 0; have i1 := D6.free 1; have i2 := D6.free 2
        have D7 := Lib.hid (D6.set3 (.string d) (.string p') (.int .i64 c'))
        have B7 := Lib.hid ((((B5.fr f6).other hne 0 (.string d)).other hne 1 (.string p')).other hne 2 (.int .i64 c'))
        have R7 := Lib.hid ((((R5.fr f6).other hne2 0 (.string d)).other hne2 1 (.string p')).other hne2 2 (.int .i64 c'))
        have C7 := Lib.hid ((((C5.fr f6).setCell (q := ⟨w1.heap.size, 0, none⟩) (by exact hng) (.string d)).setCell (q := ⟨w1.heap.size, 1, none⟩) (by exact hng) (.string p')).setCell (q := ⟨w1.heap.size, 2, none⟩) (by exact hng) (.int .i64 c'))
        have G7 := Lib.hid ((G5.trans f6).set3 (g := w1.heap.size) (by omega) (.string d) (.string p') (.int .i64 c'))
        clear c0 c1 c2 D5 D6 B5 R5 C5 G5 f6
        go_wp2
        go_roundw
        case rel => exact ⟨q - 1, d, p', c', by go_num, by omega, D7.out, by omega, hc0', hc1', C7.out, B7.out, R7.out, G7.out⟩
        case measure => simp [intOf]; omega
      · obtain rfl : q = 0 := by omega
        clear hne hne2
        have c0 := D5.cell (j := 0) (v := .string d) rfl; have c1 := D5.cell (j := 1) (v := .string p) rfl; have c2 := D5.cell (j := 2) (v := .int .i64 c) rfl
        have hne : w.heap.size ≠ w1.heap.size := by omega
        have hne2 : w.heap.size + 1 ≠ w1.heap.size := by omega
        go_upto_region 9 with fail
        go_region_held3 (fun w' => w'.cell? ⟨w1.heap.size, 0, none⟩ = some (.string d) ∧ w'.cell? ⟨w1.heap.size, 1, none⟩ = some (.string p) ∧ w'.cell? ⟨w1.heap.size, 2, none⟩ = some (.int .i64 c))
          (first
            | (with_reducible exact ⟨x0, x1, x2⟩)
            | (with_reducible exact ⟨(cell3 _ _ _ hne).trans x0, (cell3 _ _ _ hne).trans x1, (cell3 _ _ _ hne).trans x2⟩)
            | (with_reducible exact ⟨(cell2 _ _ hne2).trans ((cell3 _ _ _ hne).trans x0), (cell2 _ _ hne2).trans ((cell3 _ _ _ hne).trans x1), (cell2 _ _ hne2).trans ((cell3 _ _ _ hne).trans x2)⟩)
            | go_keep)
          (first | (go_at_call 51; refine (logRecord_any _ (124) _ (by first | exact C5.fr (Fr.drewN _ 1) | exact C5) (by omega)).mono ?_; rintro e w9 ⟨s, t, rfl, hs9, ht9, C9, g9'⟩; have g9 : wr.grownBy w9 (some (w.heap.size + 1 + 1)) := (by first | exact g9' | exact grownBy_trans ((Fr.drewN wr 1).grownBy _) g9'); have D9 := D5.grown g9 (fun e => by have := Option.some.inj e; omega); have B9 := B5.grown g9 (fun e => by have := Option.some.inj e; omega); have R9 := R5.grown g9 (fun e => by have := Option.some.inj e; omega); have x0 := D9.cell (j := 0) (v := .string d) rfl; have x1 := D9.cell (j := 1) (v := .string p) rfl; have x2 := D9.cell (j := 2) (v := .int .i64 c) rfl; have j0 := B9.cell (j := 0) rfl; have j1 := B9.cell (j := 1) rfl; have j2 := B9.cell (j := 2) rfl; have i0 := B9.free 0; have i1 := B9.free 1; have i2 := B9.free 2; have k0 := R9.cell (j := 0) rfl; have k1 := R9.cell (j := 1) rfl; have l0 := R9.free 0; have l1 := R9.free 1) | fail)
        have hw : w.heap.size ≠ w.heap.size + 1 := by omega
        have B10 := B9.set3 (.string d) (.string p) (.int .i64 c)
        have E3 := Lib.hid ((B10.other hw 0 (.string s)).other hw 1 (.string t))
        have E4 := Lib.hid ((((R9.other hw.symm 0 (.string d)).other hw.symm 1 (.string p)).other hw.symm 2 (.int .i64 c)).set2 (.string s) (.string t))
        have G3 := Lib.hid (((G5.grown g9 (fun k e => by have := Option.some.inj e; omega)).set3 (Nat.le_refl _) (.string d) (.string p) (.int .i64 c)).set2 (g := w.heap.size + 1) (by omega) (.string s) (.string t))
        clear x0 x1 x2 j0 j1 j2 i0 i1 i2 k0 k1 l0 l1 B9 D9 R9 B10 c0 c1 c2
        go_wp2
        refine bodyPost_ret (results_LR Tryd.results20 _ _ w.heap.size (w.heap.size + 1) _ _ _ _ _ rfl rfl E3.out E4.out) rfl ?_
        exact ⟨_, _, _, s, t, rfl, by omega, by omega, by omega, hs9, ht9, G3.out⟩
end Go.Proofs.YtolnloeapbplkaaDoor
