import Derived.Test.YtojipjjfndgbhaaZH18
import Derived.Deep.RegionHeld3
import Derived.Deep.DeepCutAuto
/- DealAll: contracts of the program's and of the reference's. -/
set_option linter.unusedVariables false
namespace Go.Proofs.Ytojipjjfndgbhaa
open Go.ChangeShapes Go.WideShapes Go.ChangeAt Go.RowKit

structure HSt where
  P : List Int
  W : List Int
  X : List Int
  t : Int
  s : Int
  u : Int
  v : Int
def hOk (h : HSt) : Bool := houseB h.P h.W h.X h.t h.s h.u h.v
def hGo (h : HSt) (d : D3) : Bool := goB h.P h.W h.X h.t h.s h.u h.v d.1 d.2.1 d.2.2
def hStep (h : HSt) (d : D3) : HSt := ⟨h.P, dW h.W d.1 d.2.1 d.2.2, dX h.X d.1 d.2.1 d.2.2, dAt h.t d.1 d.2.1, dSt h.s d.1 d.2.1, dPu h.X h.t h.s h.u d.1 d.2.1, h.v + 1⟩
def hRun : HSt → List D3 → HSt × Nat
  | h, [] => (h, 0)
  | h, d :: r => bif hGo h d then ((hRun (hStep h d) r).1, (hRun (hStep h d) r).2 + 1) else (h, 0)
def hZero : HSt := ⟨[], [], [], 0, 0, 0, 0⟩
def allH (h : HSt) (ds : List D3) : HSt := bif hOk h then (hRun h ds).1 else hZero
def allN (h : HSt) (ds : List D3) : Nat := bif hOk h then (hRun h ds).2 else 0
theorem hGo_ok {h : HSt} {d : D3} (hg : hGo h d = true) : hOk (hStep h d) = true := by
  rw [hGo, goB, Bool.and_eq_true] at hg
  exact hg.2
theorem hOk_bd {h : HSt} (ho : hOk h = true) : I64 h.t ∧ I64 h.s ∧ I64 h.u ∧ I64 h.v := by
  obtain ⟨r0, r1, r2, r3⟩ := houseB_all ho
  have hlen : h.P.length ≤ 24 := by
    have h2 : houseB h.P h.W h.X h.t h.s h.u h.v = true := ho
    simp only [houseB, l3B, Bool.and_eq_true] at h2
    exact (treeB_iff.1 h2.1.1.1.1.1).1.2
  unfold I64; omega
theorem hRun_go {h : HSt} {d : D3} {r : List D3} (hg : hGo h d = true) : hRun h (d :: r) = ((hRun (hStep h d) r).1, (hRun (hStep h d) r).2 + 1) := by rw [hRun, hg]; rfl
theorem hRun_no {h : HSt} {d : D3} {r : List D3} (hg : hGo h d = false) : hRun h (d :: r) = (h, 0) := by rw [hRun, hg]; rfl
theorem drop_nthD {ds : List D3} {k : Nat} (h : k < ds.length) : ds.drop k = nthD ds k :: ds.drop (k + 1) := by
  rw [List.drop_eq_getElem_cons h]; simp [nthD, h]
theorem hRun_le (ds : List D3) : ∀ h, (hRun h ds).2 ≤ ds.length := by
  induction ds with
  | nil => intro h; exact Nat.le_refl _
  | cons d r ih =>
    intro h
    cases hg : hGo h d
    · rw [hRun_no hg]; exact Nat.zero_le _
    · rw [hRun_go hg]; have := ih (hStep h d); simp only [List.length_cons]; omega

theorem results_HIB {fn : Func} {k r q : Nat} (hr : fn.results = #[.cell k 31, .tmp r, .tmp q]) (tmps : Array Value) (w : World) (g : Nat) (v0 v1 v2 v3 v4 v5 v6 : Value) (ii bb : Value) (h : tmps[k]?.getD undef = .pointer (some ⟨g, 0, none⟩)) (hi : tmps[r]?.getD undef = ii) (hb : tmps[q]?.getD undef = bb)
    (hB : Blk w g #[v0, v1, v2, v3, v4, v5, v6] 31) : (results fn tmps).run Try.prog w = .ok (.tuple #[.agg #[v0, v1, v2, v3, v4, v5, v6], ii, bb]) w := by
  have h0 := hB.cell (j := 0) (v := v0) rfl; have h1 := hB.cell (j := 1) (v := v1) rfl; have h2 := hB.cell (j := 2) (v := v2) rfl; have h3 := hB.cell (j := 3) (v := v3) rfl; have h4 := hB.cell (j := 4) (v := v4) rfl; have h5 := hB.cell (j := 5) (v := v5) rfl; have h6 := hB.cell (j := 6) (v := v6) rfl
  simp [results, hr, go_sem, h, hi, hb, h0, h1, h2, h3, h4, h5, h6]
/-- A new house, a number and a bool. -/
def RetHIB (h : HSt) (i : Nat) (bb : Bool) (w : World) (e : Ending) (w' : World) : Prop := ∃ (p : Option Addr) (n c : Nat) (q : Option Addr) (m d : Nat) (a : Option Addr) (l k M N : Nat),
  e = .returned (.tuple #[.agg #[.slice p n c, .slice q m d, .slice a l k, .int .i64 h.t, .int .i64 h.s, .int .i64 h.u, .int .i64 h.v], .int .i64 i, .bool bb]) ∧
  Own w.heap.size w' p n c h.P ∧ Own M w' q m d h.W ∧ Own N w' a l k h.X ∧ Within p w.heap.size M ∧ Within q M N ∧ w.heap.size ≤ M ∧ M ≤ N ∧ N ≤ w'.heap.size ∧ Fr w w' ∧ n ≤ 1048576 ∧ m ≤ 1048576 ∧ l ≤ 1048576
/-- A house of the call's own: its slices lie one behind the other. -/
structure OwnH (B : Nat) (w : World) (p : Option Addr) (n c : Nat) (q : Option Addr) (m d : Nat) (a : Option Addr) (l b : Nat) (h : HSt) : Prop where
  own : ∃ L M N, B ≤ L ∧ L ≤ M ∧ M ≤ N ∧ N ≤ w.heap.size ∧ Own L w p n c h.P ∧ Own M w q m d h.W ∧ Own N w a l b h.X ∧ Within p L M ∧ Within q M N
  le : n ≤ 1048576 ∧ m ≤ 1048576 ∧ l ≤ 1048576
theorem OwnH.fr {B : Nat} {w w' : World} {p : Option Addr} {n c : Nat} {q : Option Addr} {m d : Nat} {a : Option Addr} {l b : Nat} {h : HSt} (H : OwnH B w p n c q m d a l b h) (f : Fr w w') : OwnH B w' p n c q m d a l b h := by
  obtain ⟨⟨L, M, N, h1, h2, h3, h4, o1, o2, o3, i1, i2⟩, hl⟩ := H
  exact ⟨⟨L, M, N, h1, h2, h3, by have := f.size; omega, o1.fr f, o2.fr f, o3.fr f, i1, i2⟩, hl⟩
theorem OwnH.set7 {B g : Nat} {w : World} {p : Option Addr} {n c : Nat} {q : Option Addr} {m d : Nat} {a : Option Addr} {l b : Nat} {h : HSt} (H : OwnH B w p n c q m d a l b h) (hg : g < B) (v0 v1 v2 v3 v4 v5 v6 : Value) :
    OwnH B (((((((w.setCell ⟨g, 0, none⟩ v0).setCell ⟨g, 1, none⟩ v1).setCell ⟨g, 2, none⟩ v2).setCell ⟨g, 3, none⟩ v3).setCell ⟨g, 4, none⟩ v4).setCell ⟨g, 5, none⟩ v5).setCell ⟨g, 6, none⟩ v6) p n c q m d a l b h := by
  obtain ⟨⟨L, M, N, h1, h2, h3, h4, o1, o2, o3, i1, i2⟩, hl⟩ := H
  exact ⟨⟨L, M, N, h1, h2, h3, by simpa using h4, o1.set7 (by omega) _ _ _ _ _ _ _, o2.set7 (by omega) _ _ _ _ _ _ _, o3.set7 (by omega) _ _ _ _ _ _ _, i1, i2⟩, hl⟩
theorem OwnH.mono {B B' : Nat} {w : World} {p : Option Addr} {n c : Nat} {q : Option Addr} {m d : Nat} {a : Option Addr} {l b : Nat} {h : HSt} (H : OwnH B w p n c q m d a l b h) (hB : B' ≤ B) : OwnH B' w p n c q m d a l b h := by
  obtain ⟨⟨L, M, N, h1, h⟩, hl⟩ := H
  exact ⟨⟨L, M, N, by omega, h⟩, hl⟩
theorem OwnH.ret {w w' : World} {B : Nat} {p : Option Addr} {n c : Nat} {q : Option Addr} {m d : Nat} {a : Option Addr} {l b : Nat} {h : HSt} {i : Nat} {bb : Bool} (H : OwnH B w' p n c q m d a l b h) (hB : w.heap.size ≤ B) (f : Fr w w') :
    RetHIB h i bb w (.returned (.tuple #[.agg #[.slice p n c, .slice q m d, .slice a l b, .int .i64 h.t, .int .i64 h.s, .int .i64 h.u, .int .i64 h.v], .int .i64 i, .bool bb])) w' := by
  obtain ⟨⟨L, M, N, h1, h2, h3, h4, o1, o2, o3, i1, i2⟩, e1, e2, e3⟩ := H
  exact ⟨p, n, c, q, m, d, a, l, b, M, N, rfl, o1.mono (by omega), o2, o3, fun k hk => by have := i1 k hk; omega, i2, by omega, h3, h4, f, e1, e2, e3⟩
theorem nilH (w : World) : OwnH w.heap.size w none 0 0 none 0 0 none 0 0 hZero :=
  ⟨⟨w.heap.size, w.heap.size, w.heap.size, Nat.le_refl _, Nat.le_refl _, Nat.le_refl _, Nat.le_refl _, Own.nil _ _, Own.nil _ _, Own.nil _ _, fun k hk => by simp [blkOf] at hk, fun k hk => by simp [blkOf] at hk⟩, by omega, by omega, by omega⟩
theorem OwnH.of {w0 w : World} {p : Option Addr} {n c : Nat} {q : Option Addr} {m d : Nat} {a : Option Addr} {l b M N : Nat} {P W X : List Int} {x s u v : Int} (o1 : Own w0.heap.size w p n c P) (o2 : Own M w q m d W) (o3 : Own N w a l b X) (i1 : Within p w0.heap.size M) (i2 : Within q M N) (h1 : w0.heap.size ≤ M) (h2 : M ≤ N) (h3 : N ≤ w.heap.size) (e1 : n ≤ 1048576) (e2 : m ≤ 1048576) (e3 : l ≤ 1048576) :
    OwnH w0.heap.size w p n c q m d a l b ⟨P, W, X, x, s, u, v⟩ := ⟨⟨_, M, N, Nat.le_refl _, h1, h2, h3, o1, o2, o3, i1, i2⟩, e1, e2, e3⟩

set_option maxRecDepth 100000 in
set_option maxHeartbeats 1000000 in
theorem impl_DealAll_any (w : World) (p q a : Option Addr) (n c m d l b : Nat) (h : HSt) (hP : SL w p n c h.P) (hW : SL w q m d h.W) (hX : SL w a l b h.X) (hl1 : n ≤ 1048576) (hl2 : m ≤ 1048576) (hl3 : l ≤ 1048576) (y : Option Addr) (k e : Nat) (ds : List D3) (hD : SD w y k e ds) (hk : k ≤ 1048576) :
    Calls Try.prog 48 #[.agg #[.slice p n c, .slice q m d, .slice a l b, .int .i64 h.t, .int .i64 h.s, .int .i64 h.u, .int .i64 h.v], .slice y k e] w (RetHIB (allH h ds) (allN h ds) (hOk h) w) := by
  have hfr : Fr w ((w.alloc (.cells #[.slice p n c, .slice q m d, .slice a l b, .int .i64 h.t, .int .i64 h.s, .int .i64 h.u, .int .i64 h.v] 31)).alloc (.cells #[.slice none 0 0, .slice none 0 0, .slice none 0 0, .int .i64 0, .int .i64 0, .int .i64 0, .int .i64 0] 31)) := ((Fr.refl w).alloc _).alloc _
  have H0 := Lib.hid ((Blk.new w #[.slice p n c, .slice q m d, .slice a l b, .int .i64 h.t, .int .i64 h.s, .int .i64 h.u, .int .i64 h.v] 31).alloc (.cells #[.slice none 0 0, .slice none 0 0, .slice none 0 0, .int .i64 0, .int .i64 0, .int .i64 0, .int .i64 0] 31))
  have H1 := Blk.new (w.alloc (.cells #[.slice p n c, .slice q m d, .slice a l b, .int .i64 h.t, .int .i64 h.s, .int .i64 h.u, .int .i64 h.v] 31)) #[.slice none 0 0, .slice none 0 0, .slice none 0 0, .int .i64 0, .int .i64 0, .int .i64 0, .int .i64 0] 31
  rw [World.size_alloc] at H1
  replace H1 := Lib.hid H1
  have HD := Lib.hid hD
  have HDL := Lib.hid hD.len
  have HDR := Lib.hid hD.rng
  clear hD
  have k0 := H0.out.cell (j := 0) (v := .slice p n c) rfl; have k1 := H0.out.cell (j := 1) (v := .slice q m d) rfl; have k2 := H0.out.cell (j := 2) (v := .slice a l b) rfl; have k3 := H0.out.cell (j := 3) (v := .int .i64 h.t) rfl; have k4 := H0.out.cell (j := 4) (v := .int .i64 h.s) rfl; have k5 := H0.out.cell (j := 5) (v := .int .i64 h.u) rfl; have k6 := H0.out.cell (j := 6) (v := .int .i64 h.v) rfl
  go_enter Try.func48, Try.ntmps48
  go_wp2_with fail
  clear k0 k1 k2 k3 k4 k5 k6
  refine (impl_IsHouse_any _ _ _ _ _ _ _ _ _ _ _ _ _ (hP.fr hfr) (hW.fr hfr) (hX.fr hfr) _ _ _ _).mono ?_
  rintro e1 w1 ⟨rfl, f1⟩
  have z1 := f1.size
  simp only [World.size_alloc] at z1
  have hF1 := hfr.trans f1
  have G0 := Lib.hid (H0.out.fr f1); have G1 := Lib.hid (H1.out.fr f1)
  clear H0 H1 f1 hfr
  cases ho : hOk h
  · have HV : Hid (allH h ds = hZero ∧ allN h ds = 0) := Lib.hid ⟨by rw [allH, ho]; rfl, by rw [allN, ho]; rfl⟩
    have ho' : houseB h.P h.W h.X h.t h.s h.u h.v = false := ho
    rw [ho']
    have j0 := G1.out.cell (j := 0) rfl; have j1 := G1.out.cell (j := 1) rfl; have j2 := G1.out.cell (j := 2) rfl; have j3 := G1.out.cell (j := 3) rfl; have j4 := G1.out.cell (j := 4) rfl; have j5 := G1.out.cell (j := 5) rfl; have j6 := G1.out.cell (j := 6) rfl
    have i0 := G1.out.free 0; have i1 := G1.out.free 1; have i2 := G1.out.free 2; have i3 := G1.out.free 3; have i4 := G1.out.free 4; have i5 := G1.out.free 5; have i6 := G1.out.free 6
    have HNO := Lib.hid ho
    clear ho ho'
    go_wp2
    have E := G1.out.set7 (.slice none 0 0) (.slice none 0 0) (.slice none 0 0) (.int .i64 0) (.int .i64 0) (.int .i64 0) (.int .i64 0)
    refine bodyPost_ret (results_HIB Try.results48 _ _ (w.heap.size + 1) _ _ _ _ _ _ _ _ _ rfl rfl rfl E) rfl ?_
    rw [HV.out.1, HV.out.2, HNO.out]
    exact ((nilH w1).set7 (g := w.heap.size + 1) (by omega) _ _ _ _ _ _ _).ret (by omega) (hF1.set7 (g := w.heap.size + 1) (by omega) _ _ _ _ _ _ _)
  · have HV : Hid (allH h ds = (hRun h ds).1 ∧ allN h ds = (hRun h ds).2) := Lib.hid ⟨by rw [allH, ho]; rfl, by rw [allN, ho]; rfl⟩
    have ho' : houseB h.P h.W h.X h.t h.s h.u h.v = true := ho
    rw [ho']
    have HO := Lib.hid ho
    have k0 := G0.out.cell (j := 0) (v := .slice p n c) rfl; have k1 := G0.out.cell (j := 1) (v := .slice q m d) rfl; have k2 := G0.out.cell (j := 2) (v := .slice a l b) rfl; have k3 := G0.out.cell (j := 3) (v := .int .i64 h.t) rfl; have k4 := G0.out.cell (j := 4) (v := .int .i64 h.s) rfl; have k5 := G0.out.cell (j := 5) (v := .int .i64 h.u) rfl; have k6 := G0.out.cell (j := 6) (v := .int .i64 h.v) rfl
    have i0 := G0.out.free 0; have i1 := G0.out.free 1; have i2 := G0.out.free 2; have i3 := G0.out.free 3; have i4 := G0.out.free 4; have i5 := G0.out.free 5; have i6 := G0.out.free 6
    clear ho ho'
    go_wp2_with fail
    clear k0 k1 k2 k3 k4 k5 k6 i0 i1 i2 i3 i4 i5 i6
    refine (own_any _ _ _ _ _ _ _ _ _ _ h.P h.W h.X h.t h.s h.u h.v (hP.fr hF1) (hW.fr hF1) (hX.fr hF1) hl1 hl2 hl3).mono ?_
    rintro e2 w2 ⟨p0, n0, c0, q0, m0, d0, a0, l0, b0, M, N, rfl, o1, o2, o3, W1, W2, y1, y2, y3, f2, x1, x2, x3⟩
    have z2 := f2.size
    have OH := (OwnH.of (x := h.t) (s := h.s) (u := h.u) (v := h.v) o1 o2 o3 W1 W2 y1 y2 y3 x1 x2 x3).set7 (g := w.heap.size) (by omega) (.slice p0 n0 c0) (.slice q0 m0 d0) (.slice a0 l0 b0) (.int .i64 h.t) (.int .i64 h.s) (.int .i64 h.u) (.int .i64 h.v)
    have G0' := Lib.hid ((G0.out.fr f2).set7 (.slice p0 n0 c0) (.slice q0 m0 d0) (.slice a0 l0 b0) (.int .i64 h.t) (.int .i64 h.s) (.int .i64 h.u) (.int .i64 h.v))
    have G1' := Lib.hid ((G1.out.fr f2).other7 (g := w.heap.size) (by omega) (.slice p0 n0 c0) (.slice q0 m0 d0) (.slice a0 l0 b0) (.int .i64 h.t) (.int .i64 h.s) (.int .i64 h.u) (.int .i64 h.v))
    have F2 := (hF1.trans f2).set7 (g := w.heap.size) (Nat.le_refl _) (.slice p0 n0 c0) (.slice q0 m0 d0) (.slice a0 l0 b0) (.int .i64 h.t) (.int .i64 h.s) (.int .i64 h.u) (.int .i64 h.v)
    have k0 := (G0.out.fr f2).cell (j := 0) (v := .slice p n c) rfl; have k1 := (G0.out.fr f2).cell (j := 1) (v := .slice q m d) rfl; have k2 := (G0.out.fr f2).cell (j := 2) (v := .slice a l b) rfl; have k3 := (G0.out.fr f2).cell (j := 3) (v := .int .i64 h.t) rfl; have k4 := (G0.out.fr f2).cell (j := 4) (v := .int .i64 h.s) rfl; have k5 := (G0.out.fr f2).cell (j := 5) (v := .int .i64 h.u) rfl; have k6 := (G0.out.fr f2).cell (j := 6) (v := .int .i64 h.v) rfl
    have i0 := (G0.out.fr f2).free 0; have i1 := (G0.out.fr f2).free 1; have i2 := (G0.out.fr f2).free 2; have i3 := (G0.out.fr f2).free 3; have i4 := (G0.out.fr f2).free 4; have i5 := (G0.out.fr f2).free 5; have i6 := (G0.out.fr f2).free 6
    clear o1 o2 o3 W1 W2 y1 y2 y3 G0 G1
    go_wp2_with fail
    clear k0 k1 k2 k3 k4 k5 k6 i0 i1 i2 i3 i4 i5 i6
    clear hP hW hX f2 hF1
    go_loopw [19] (fun i wr => ∃ (j : Nat) (g : HSt) (p1 : Option Addr) (n1 c1 : Nat) (q1 : Option Addr) (m1 d1 : Nat) (a1 : Option Addr) (l1 b1 : Nat), i = .int .i64 j ∧ j ≤ k ∧ Hid (hOk g = true) ∧ Hid (hRun h ds = ((hRun g (ds.drop j)).1, (hRun g (ds.drop j)).2 + j)) ∧
      Blk wr w.heap.size #[.slice p1 n1 c1, .slice q1 m1 d1, .slice a1 l1 b1, .int .i64 g.t, .int .i64 g.s, .int .i64 g.u, .int .i64 g.v] 31 ∧ Blk wr (w.heap.size + 1) #[.slice none 0 0, .slice none 0 0, .slice none 0 0, .int .i64 0, .int .i64 0, .int .i64 0, .int .i64 0] 31 ∧ OwnH (w.heap.size + 1 + 1) wr p1 n1 c1 q1 m1 d1 a1 l1 b1 g ∧ Fr w wr) (fun i _ => k - (intOf i).toNat)
    case atStart => exact ⟨0, h, _, _, _, _, _, _, _, _, _, rfl, Nat.zero_le _, HO, Lib.hid (by simp), G0'.out, G1'.out, OH.mono (by omega), F2⟩
    case round =>
      clear OH G0' G1' F2
      obtain ⟨j, g, p1, n1, c1, q1, m1, d1, a1, l1, b1, rfl, hj, HOK, HRUN, B0, B1, O, F⟩ := hrel
      have hds : ds.length = k := HDL.out
      have BB0 := Lib.hid B0; have BB1 := Lib.hid B1; have OO := Lib.hid O
      clear B0 B1 O
      by_cases hlt : j < k
      · obtain ⟨bd, od, rfl, hc⟩ := (HD.out.fr F).cells.resolve_left (by omega)
        obtain ⟨e0, e1, e2⟩ := hc j hlt
        have hI := HDR.out _ (nthD_mem (i := j) (by omega))
        have hdr := Lib.hid (drop_nthD (ds := ds) (k := j) (by omega))
        generalize nthD ds j = z at e0 e1 e2 hI hdr
        obtain ⟨z0, z1, z2⟩ := z
        dsimp only at e0 e1 e2
        have i0 : (0 : Int) ≤ (j : Int) := by omega
        have i1 : (j : Int) < (k : Int) := by omega
        have fa : Fr wr (wr.alloc (.cells #[.int .i64 z0, .int .i64 z1, .int .i64 z2] 58)) := (Fr.refl _).alloc _
        have k0 := (BB0.out.fr fa).cell (j := 0) (v := .slice p1 n1 c1) rfl; have k1 := (BB0.out.fr fa).cell (j := 1) (v := .slice q1 m1 d1) rfl; have k2 := (BB0.out.fr fa).cell (j := 2) (v := .slice a1 l1 b1) rfl; have k3 := (BB0.out.fr fa).cell (j := 3) (v := .int .i64 g.t) rfl; have k4 := (BB0.out.fr fa).cell (j := 4) (v := .int .i64 g.s) rfl; have k5 := (BB0.out.fr fa).cell (j := 5) (v := .int .i64 g.u) rfl; have k6 := (BB0.out.fr fa).cell (j := 6) (v := .int .i64 g.v) rfl
        clear hc
        go_wp2_with fail
        clear k0 k1 k2 k3 k4 k5 k6
        obtain ⟨⟨L, M2, N2, y1, y2, y3, y4, o1, o2, o3, W1, W2⟩, x4, x5, x6⟩ := OO.out
        obtain ⟨t0, t1, t2, t3⟩ := hOk_bd HOK.out
        have CC := impl_DealHouse_any _ _ _ _ _ _ _ _ _ _ g.P g.W g.X g.t g.s g.u g.v z0 z1 z2 (o1.fr fa).sl (o2.fr fa).sl (o3.fr fa).sl t0 t1 t2 t3 hI.1 hI.2.1 hI.2.2
        have hdb : dealB g.P g.W g.X g.t g.s g.u g.v z0 z1 z2 = hGo g (z0, z1, z2) := by
          rw [dealB, show houseB g.P g.W g.X g.t g.s g.u g.v = true from HOK.out]; rfl
        rw [hdb] at CC
        clear o1 o2 o3 W1 W2 y1 y2 y3 hdb t0 t1 t2 t3
        cases hgo : hGo g (z0, z1, z2)
        · have HR : Hid (hRun h ds = (g, j)) := Lib.hid (by rw [HRUN.out, hdr.out, hRun_no hgo]; simp)
          rw [hgo] at CC
          have C2 : Calls Try.prog 44 #[.agg #[.slice p1 n1 c1, .slice q1 m1 d1, .slice a1 l1 b1, .int .i64 g.t, .int .i64 g.s, .int .i64 g.u, .int .i64 g.v], .agg #[.int .i64 z0, .int .i64 z1, .int .i64 z2]] (wr.alloc (.cells #[.int .i64 z0, .int .i64 z1, .int .i64 z2] 58)) (RetHB [] [] [] 0 0 0 0 false (wr.alloc (.cells #[.int .i64 z0, .int .i64 z1, .int .i64 z2] 58))) := CC
          clear hgo
          refine C2.mono ?_
          rintro e3 w3 ⟨p3, n3, c3, q3, m3, d3, a3, l3, b3, M3, N3, rfl, -, -, -, -, -, -, -, -, f3, -, -, -⟩
          have f4 := (fa.trans f3).alloc (.cells #[.slice p3 n3 c3, .slice q3 m3 d3, .slice a3 l3 b3, .int .i64 0, .int .i64 0, .int .i64 0, .int .i64 0] 31)
          have k0 := (BB0.out.fr f4).cell (j := 0) (v := .slice p1 n1 c1) rfl; have k1 := (BB0.out.fr f4).cell (j := 1) (v := .slice q1 m1 d1) rfl; have k2 := (BB0.out.fr f4).cell (j := 2) (v := .slice a1 l1 b1) rfl; have k3 := (BB0.out.fr f4).cell (j := 3) (v := .int .i64 g.t) rfl; have k4 := (BB0.out.fr f4).cell (j := 4) (v := .int .i64 g.s) rfl; have k5 := (BB0.out.fr f4).cell (j := 5) (v := .int .i64 g.u) rfl; have k6 := (BB0.out.fr f4).cell (j := 6) (v := .int .i64 g.v) rfl
          have j0 := (BB1.out.fr f4).cell (j := 0) rfl; have j1 := (BB1.out.fr f4).cell (j := 1) rfl; have j2 := (BB1.out.fr f4).cell (j := 2) rfl; have j3 := (BB1.out.fr f4).cell (j := 3) rfl; have j4 := (BB1.out.fr f4).cell (j := 4) rfl; have j5 := (BB1.out.fr f4).cell (j := 5) rfl; have j6 := (BB1.out.fr f4).cell (j := 6) rfl
          have i0 := (BB1.out.fr f4).free 0; have i1 := (BB1.out.fr f4).free 1; have i2 := (BB1.out.fr f4).free 2; have i3 := (BB1.out.fr f4).free 3; have i4 := (BB1.out.fr f4).free 4; have i5 := (BB1.out.fr f4).free 5; have i6 := (BB1.out.fr f4).free 6
          have E := Lib.hid ((BB1.out.fr f4).set7 (.slice p1 n1 c1) (.slice q1 m1 d1) (.slice a1 l1 b1) (.int .i64 g.t) (.int .i64 g.s) (.int .i64 g.u) (.int .i64 g.v))
          have OE := Lib.hid ((OO.out.fr f4).set7 (g := w.heap.size + 1) (by omega) (.slice p1 n1 c1) (.slice q1 m1 d1) (.slice a1 l1 b1) (.int .i64 g.t) (.int .i64 g.s) (.int .i64 g.u) (.int .i64 g.v))
          have FE := Lib.hid ((F.trans f4).set7 (g := w.heap.size + 1) (by omega) (.slice p1 n1 c1) (.slice q1 m1 d1) (.slice a1 l1 b1) (.int .i64 g.t) (.int .i64 g.s) (.int .i64 g.u) (.int .i64 g.v))
          clear CC C2 f3 f4 fa OO BB0 BB1
          go_wp2
          refine bodyPost_ret (results_HIB Try.results48 _ _ (w.heap.size + 1) _ _ _ _ _ _ _ _ _ rfl rfl rfl E.out) rfl ?_
          rw [HV.out.1, HV.out.2, HR.out, HO.out]
          exact OE.out.ret (by omega) FE.out
        · have hok2 := hGo_ok hgo
          have HR : Hid (hRun h ds = ((hRun (hStep g (z0, z1, z2)) (ds.drop (j + 1))).1, (hRun (hStep g (z0, z1, z2)) (ds.drop (j + 1))).2 + (j + 1))) := Lib.hid (by
            rw [HRUN.out, hdr.out, hRun_go hgo]; simp only [Prod.mk.injEq, true_and]; omega)
          rw [hgo] at CC
          have C2 : Calls Try.prog 44 #[.agg #[.slice p1 n1 c1, .slice q1 m1 d1, .slice a1 l1 b1, .int .i64 g.t, .int .i64 g.s, .int .i64 g.u, .int .i64 g.v], .agg #[.int .i64 z0, .int .i64 z1, .int .i64 z2]] (wr.alloc (.cells #[.int .i64 z0, .int .i64 z1, .int .i64 z2] 58)) (RetHB (hStep g (z0, z1, z2)).P (hStep g (z0, z1, z2)).W (hStep g (z0, z1, z2)).X (hStep g (z0, z1, z2)).t (hStep g (z0, z1, z2)).s (hStep g (z0, z1, z2)).u (hStep g (z0, z1, z2)).v true (wr.alloc (.cells #[.int .i64 z0, .int .i64 z1, .int .i64 z2] 58))) := CC
          generalize hStep g (z0, z1, z2) = g2 at C2 HR hok2
          clear CC hgo
          refine C2.mono ?_
          rintro e3 w3 ⟨p3, n3, c3, q3, m3, d3, a3, l3, b3, M3, N3, rfl, o4, o5, o6, W3, W4, y5, y6, y7, f3, x7, x8, x9⟩
          have z3 := f3.size
          have z4 := World.size_alloc wr (.cells #[.int .i64 z0, .int .i64 z1, .int .i64 z2] 58)
          have z5 := F.size
          have z6 := BB1.out.lt
          have f5 : Fr w3 (w3.alloc (.cells #[.slice p3 n3 c3, .slice q3 m3 d3, .slice a3 l3 b3, .int .i64 g2.t, .int .i64 g2.s, .int .i64 g2.u, .int .i64 g2.v] 31)) := (Fr.refl _).alloc _
          have f4 := (fa.trans f3).trans f5
          have D9 := Blk.new w3 #[.slice p3 n3 c3, .slice q3 m3 d3, .slice a3 l3 b3, .int .i64 g2.t, .int .i64 g2.s, .int .i64 g2.u, .int .i64 g2.v] 31
          have n9 : w.heap.size < w3.heap.size := by omega
          go_upto_region 8 with fail
          generalize hw4 : w3.alloc (.cells #[.slice p3 n3 c3, .slice q3 m3 d3, .slice a3 l3 b3, .int .i64 g2.t, .int .i64 g2.s, .int .i64 g2.u, .int .i64 g2.v] 31) = w4 at f5 f4 D9 ⊢
          clear hw4
          have h0 := D9.cell (j := 0) (v := .slice p3 n3 c3) rfl; have h1 := D9.cell (j := 1) (v := .slice q3 m3 d3) rfl; have h2 := D9.cell (j := 2) (v := .slice a3 l3 b3) rfl; have h3 := D9.cell (j := 3) (v := .int .i64 g2.t) rfl; have h4 := D9.cell (j := 4) (v := .int .i64 g2.s) rfl; have h5 := D9.cell (j := 5) (v := .int .i64 g2.u) rfl; have h6 := D9.cell (j := 6) (v := .int .i64 g2.v) rfl
          have k0 := (BB0.out.fr f4).cell (j := 0) (v := .slice p1 n1 c1) rfl; have k1 := (BB0.out.fr f4).cell (j := 1) (v := .slice q1 m1 d1) rfl; have k2 := (BB0.out.fr f4).cell (j := 2) (v := .slice a1 l1 b1) rfl; have k3 := (BB0.out.fr f4).cell (j := 3) (v := .int .i64 g.t) rfl; have k4 := (BB0.out.fr f4).cell (j := 4) (v := .int .i64 g.s) rfl; have k5 := (BB0.out.fr f4).cell (j := 5) (v := .int .i64 g.u) rfl; have k6 := (BB0.out.fr f4).cell (j := 6) (v := .int .i64 g.v) rfl
          have i0 := (BB0.out.fr f4).free 0; have i1 := (BB0.out.fr f4).free 1; have i2 := (BB0.out.fr f4).free 2; have i3 := (BB0.out.fr f4).free 3; have i4 := (BB0.out.fr f4).free 4; have i5 := (BB0.out.fr f4).free 5; have i6 := (BB0.out.fr f4).free 6
          have E0 := Lib.hid ((BB0.out.fr f4).set7 (.slice p3 n3 c3) (.slice q3 m3 d3) (.slice a3 l3 b3) (.int .i64 g2.t) (.int .i64 g2.s) (.int .i64 g2.u) (.int .i64 g2.v))
          have E1 := Lib.hid ((BB1.out.fr f4).other7 (g := w.heap.size) (by omega) (.slice p3 n3 c3) (.slice q3 m3 d3) (.slice a3 l3 b3) (.int .i64 g2.t) (.int .i64 g2.s) (.int .i64 g2.u) (.int .i64 g2.v))
          have OE := Lib.hid (((OwnH.of (x := g2.t) (s := g2.s) (u := g2.u) (v := g2.v) o4 o5 o6 W3 W4 y5 y6 y7 x7 x8 x9).fr f5).set7 (g := w.heap.size) (by omega) (.slice p3 n3 c3) (.slice q3 m3 d3) (.slice a3 l3 b3) (.int .i64 g2.t) (.int .i64 g2.s) (.int .i64 g2.u) (.int .i64 g2.v))
          have FE := Lib.hid ((F.trans f4).set7 (g := w.heap.size) (Nat.le_refl _) (.slice p3 n3 c3) (.slice q3 m3 d3) (.slice a3 l3 b3) (.int .i64 g2.t) (.int .i64 g2.s) (.int .i64 g2.u) (.int .i64 g2.v))
          have OE2 := Lib.hid (OE.out.mono (B' := w.heap.size + 1 + 1) (by omega))
          have HK2 := Lib.hid hok2
          have hj1 : j + 1 ≤ k := by omega
          clear C2 f3 f4 f5 fa OO BB0 BB1 D9 o4 o5 o6 W3 W4 OE hok2 z3 z4 z5 z6 y5 y6 y7 x7 x8 x9 hI hds e0 e1 e2 y4 x4 x5 x6
          go_wp2
          go_roundw
          case rel => exact ⟨j + 1, g2, p3, n3, c3, q3, m3, d3, a3, l3, b3, by go_num, by omega, HK2, HR, E0.out, E1.out, OE2.out, FE.out⟩
          case measure => simp [intOf]; omega
      · obtain rfl : j = k := by omega
        have HR : Hid (hRun h ds = (g, j)) := Lib.hid (by rw [HRUN.out, List.drop_of_length_le (by omega)]; simp [hRun])
        have k0 := BB0.out.cell (j := 0) (v := .slice p1 n1 c1) rfl; have k1 := BB0.out.cell (j := 1) (v := .slice q1 m1 d1) rfl; have k2 := BB0.out.cell (j := 2) (v := .slice a1 l1 b1) rfl; have k3 := BB0.out.cell (j := 3) (v := .int .i64 g.t) rfl; have k4 := BB0.out.cell (j := 4) (v := .int .i64 g.s) rfl; have k5 := BB0.out.cell (j := 5) (v := .int .i64 g.u) rfl; have k6 := BB0.out.cell (j := 6) (v := .int .i64 g.v) rfl
        have j0 := BB1.out.cell (j := 0) rfl; have j1 := BB1.out.cell (j := 1) rfl; have j2 := BB1.out.cell (j := 2) rfl; have j3 := BB1.out.cell (j := 3) rfl; have j4 := BB1.out.cell (j := 4) rfl; have j5 := BB1.out.cell (j := 5) rfl; have j6 := BB1.out.cell (j := 6) rfl
        have i0 := BB1.out.free 0; have i1 := BB1.out.free 1; have i2 := BB1.out.free 2; have i3 := BB1.out.free 3; have i4 := BB1.out.free 4; have i5 := BB1.out.free 5; have i6 := BB1.out.free 6
        have hki : ¬ (j : Int) < (j : Int) := by omega
        have E := Lib.hid (BB1.out.set7 (.slice p1 n1 c1) (.slice q1 m1 d1) (.slice a1 l1 b1) (.int .i64 g.t) (.int .i64 g.s) (.int .i64 g.u) (.int .i64 g.v))
        have OE := Lib.hid (OO.out.set7 (g := w.heap.size + 1) (by omega) (.slice p1 n1 c1) (.slice q1 m1 d1) (.slice a1 l1 b1) (.int .i64 g.t) (.int .i64 g.s) (.int .i64 g.u) (.int .i64 g.v))
        have FE := Lib.hid (F.set7 (g := w.heap.size + 1) (by omega) (.slice p1 n1 c1) (.slice q1 m1 d1) (.slice a1 l1 b1) (.int .i64 g.t) (.int .i64 g.s) (.int .i64 g.u) (.int .i64 g.v))
        clear OO BB0 BB1
        go_wp2
        refine bodyPost_ret (results_HIB Try.results48 _ _ (w.heap.size + 1) _ _ _ _ _ _ _ _ _ rfl rfl rfl E.out) rfl ?_
        rw [HV.out.1, HV.out.2, HR.out, HO.out]
        exact OE.out.ret (by omega) FE.out
end Go.Proofs.Ytojipjjfndgbhaa
