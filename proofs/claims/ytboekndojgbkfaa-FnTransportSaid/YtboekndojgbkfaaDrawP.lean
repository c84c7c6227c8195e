import Derived.Test.YtboekndojgbkfaaDrawS2
import Derived.Test.YtboekndojgbkfaaFill4
/- Draws of spreads and plans. -/
set_option linter.unusedVariables false
namespace Go.Proofs.Ytboekndojgbkfaa
open Go.ChangeShapes Go.WideShapes Go.ChangeAt Go.RowKit
theorem Dr.ss {g A B H : Nat} {w w' : World} {a : Option Addr} {n cap : Nat} {T : List (List Int)} (h : Dr g A w w') (s : OwnSS B H w a n cap T) (hB : g < B) : OwnSS B H w' a n cap T :=
  s.keep (p := some ⟨g, 0, none⟩) h.grow (fun k e => by cases e; exact .inl hB)
theorem setC_bd {T : List (List Int)} {lo hi v : Int} (h : ∀ a b, lo ≤ cellT T a b ∧ cellT T a b ≤ hi) (hv : lo ≤ v ∧ v ≤ hi) (i k : Nat) : ∀ a b, lo ≤ cellT (setC T i k v) a b ∧ cellT (setC T i k v) a b ≤ hi := by
  intro a b
  by_cases e : i = a ∧ k = b
  · obtain ⟨rfl, rfl⟩ := e
    by_cases hi2 : i < T.length ∧ k < (nthL T i).length
    · rw [setC_same hi2.1 hi2.2]; exact hv
    · have : setC T i k v = T := by
        unfold setC
        by_cases h1 : i < T.length
        · have e2 : (nthL T i).set k v = nthL T i := List.set_eq_of_length_le (by omega)
          rw [e2, set_nthL]
        · exact List.set_eq_of_length_le (by omega)
      rw [this]; exact h i k
  · rw [setC_ne _ _ _ _ _ _ (by omega)]; exact h a b
set_option maxRecDepth 100000 in
theorem DrawAreAlike_any (w : World) (a : Option Addr) (n cap : Nat) (zs : List Int) (h : SLB w a n cap zs) :
    Calls Try.prog 97 #[.slice a n cap] w fun e w' => ∃ (p : Option Addr) (m c : Nat) (q : Option Addr) (k d : Nat), e = .returned (.tuple #[.slice p m c, .slice q k d]) ∧ (∃ xs ys, SL w' p m c xs ∧ SL w' q k d ys) ∧ m ≤ 10 ∧ k ≤ 20 ∧ Fr w w' := by
  have D0 := Dr.start h
  have HE : Hid (∀ (A : Nat) (w' : World), Dr w.heap.size A (w.alloc (.cells #[.slice a n cap, .int .i64 0, .int .u64 0] 73)) w' → Fr w w') := Lib.hid fun A w' h => h.ends rfl
  have hz0 : w.heap.size ≤ (w.alloc (.cells #[.slice a n cap, .int .i64 0, .int .u64 0] 73)).heap.size := by simp
  have hg : w.heap.size < (w.alloc (.cells #[.slice a n cap, .int .i64 0, .int .u64 0] 73)).heap.size := by simp
  clear h
  go_enter Try.func97, Try.ntmps97
  go_wp2_with fail
  generalize w.alloc (.cells #[.slice a n cap, .int .i64 0, .int .u64 0] 73) = v0 at D0 HE hg hz0 ⊢
  refine (twoSpreads_dr _ D0 (by omega)).mono ?_
  rintro e w1 ⟨p, m, c, q, k, d, rfl, ⟨xs, ys, op, oq⟩, hm, hk, D1, -⟩
  clear D0
  go_wp2_with fail
  refine (one_dr _ 4 D1 (by omega) (by unfold I64; omega)).mono ?_
  rintro e w2 ⟨b, rfl, D2, E2⟩
  replace op := E2.own op hg
  replace oq := E2.own oq hg
  clear D1 E2
  cases b
  · go_wp2
    go_ret2
    exact ⟨_, _, _, _, _, _, rfl, ⟨_, _, op.sl, oq.sl⟩, by omega, by omega, HE.out _ _ D2⟩
  · go_wp2_with fail
    refine (spread_dr _ 3 5 D2 (by omega) (by omega) (by omega)).mono ?_
    rintro e w3 ⟨p3, m3, c3, us, rfl, o3, hm3, D3, E3⟩
    replace op := E3.own op hg
    go_wp2
    go_ret2
    exact ⟨_, _, _, _, _, _, rfl, ⟨_, _, op.sl, o3.sl⟩, by omega, by omega, HE.out _ _ D3⟩
theorem DrawKeepingPlan_any (w : World) (a : Option Addr) (n cap : Nat) (zs : List Int) (h : SLB w a n cap zs) :
    Calls Try.prog 46 #[.slice a n cap] w fun e w' => ∃ (p : Option Addr) (m c : Nat) (q : Option Addr) (k d : Nat), e = .returned (.tuple #[.slice p m c, .slice q k d]) ∧ (∃ xs ys, SL w' p m c xs ∧ SL w' q k d ys) ∧ m ≤ 10 ∧ k ≤ 20 ∧ Fr w w' := by
  go_enter Try.func46, Try.ntmps46
  go_wp2_with fail
  refine (DrawAreAlike_any w a n cap zs h).mono ?_
  rintro e w1 ⟨p, m, c, q, k, d, rfl, hx, hm, hk, f⟩
  go_wp2
  go_ret2
  exact ⟨_, _, _, _, _, _, rfl, hx, hm, hk, f⟩
theorem DrawEarthDistance_any (w : World) (a : Option Addr) (n cap : Nat) (zs : List Int) (h : SLB w a n cap zs) :
    Calls Try.prog 69 #[.slice a n cap] w fun e w' => ∃ (p : Option Addr) (m c : Nat) (q : Option Addr) (k d : Nat), e = .returned (.tuple #[.slice p m c, .slice q k d]) ∧ (∃ xs ys, SL w' p m c xs ∧ SL w' q k d ys) ∧ m ≤ 10 ∧ k ≤ 20 ∧ Fr w w' := by
  go_enter Try.func69, Try.ntmps69
  go_wp2_with fail
  refine (DrawAreAlike_any w a n cap zs h).mono ?_
  rintro e w1 ⟨p, m, c, q, k, d, rfl, hx, hm, hk, f⟩
  go_wp2
  go_ret2
  exact ⟨_, _, _, _, _, _, rfl, hx, hm, hk, f⟩
theorem DrawIsAbove_any (w : World) (a : Option Addr) (n cap : Nat) (zs : List Int) (h : SLB w a n cap zs) :
    Calls Try.prog 59 #[.slice a n cap] w fun e w' => ∃ (p : Option Addr) (m c : Nat) (q : Option Addr) (k d : Nat), e = .returned (.tuple #[.slice p m c, .slice q k d]) ∧ (∃ xs ys, SL w' p m c xs ∧ SL w' q k d ys) ∧ m ≤ 10 ∧ k ≤ 20 ∧ Fr w w' := by
  have D0 := Dr.start h
  have HE : Hid (∀ (A : Nat) (w' : World), Dr w.heap.size A (w.alloc (.cells #[.slice a n cap, .int .i64 0, .int .u64 0] 73)) w' → Fr w w') := Lib.hid fun A w' h => h.ends rfl
  have hz0 : w.heap.size ≤ (w.alloc (.cells #[.slice a n cap, .int .i64 0, .int .u64 0] 73)).heap.size := by simp
  have hg : w.heap.size < (w.alloc (.cells #[.slice a n cap, .int .i64 0, .int .u64 0] 73)).heap.size := by simp
  clear h
  go_enter Try.func59, Try.ntmps59
  go_wp2_with fail
  generalize w.alloc (.cells #[.slice a n cap, .int .i64 0, .int .u64 0] 73) = v0 at D0 HE hg hz0 ⊢
  refine (orders_dr _ D0 (by omega)).mono ?_
  rintro e w1 ⟨p, m, c, q, k, d, rfl, ⟨xs, ys, op, oq⟩, hm, hk, D1, -⟩
  go_wp2
  go_ret2
  exact ⟨_, _, _, _, _, _, rfl, ⟨_, _, op.sl, oq.sl⟩, by omega, by omega, HE.out _ _ D1⟩
set_option maxRecDepth 100000 in
theorem DrawMoveApart_any (w : World) (a : Option Addr) (n cap : Nat) (zs : List Int) (h : SLB w a n cap zs) :
    Calls Try.prog 64 #[.slice a n cap] w fun e w' => ∃ (p : Option Addr) (m c : Nat) (s : Int), e = .returned (.tuple #[.slice p m c, .int .i64 s]) ∧ (∃ xs, SL w' p m c xs) ∧ m ≤ 10 ∧ (-2 ≤ s ∧ s ≤ 9) ∧ Fr w w' := by
  have D0 := Dr.start h
  have HE : Hid (∀ (A : Nat) (w' : World), Dr w.heap.size A (w.alloc (.cells #[.slice a n cap, .int .i64 0, .int .u64 0] 73)) w' → Fr w w') := Lib.hid fun A w' h => h.ends rfl
  have hz0 : w.heap.size ≤ (w.alloc (.cells #[.slice a n cap, .int .i64 0, .int .u64 0] 73)).heap.size := by simp
  have hg : w.heap.size < (w.alloc (.cells #[.slice a n cap, .int .i64 0, .int .u64 0] 73)).heap.size := by simp
  clear h
  go_enter Try.func64, Try.ntmps64
  go_wp2_with fail
  generalize w.alloc (.cells #[.slice a n cap, .int .i64 0, .int .u64 0] 73) = v0 at D0 HE hg hz0 ⊢
  refine (twoSpreads_dr _ D0 (by omega)).mono ?_
  rintro e w1 ⟨p, m, c, q, k, d, rfl, ⟨xs, ys, op, oq⟩, hm, hk, D1, -⟩
  clear D0 oq
  go_wp2_with fail
  refine (pick_dr _ 9 D1 (by omega) (by unfold I64; omega)).mono ?_
  rintro e w2 ⟨r, rfl, hr, D2, E2⟩
  replace op := E2.own op hg
  clear D1 E2
  go_wp2_with fail
  refine (pick_dr _ 2 D2 (by omega) (by unfold I64; omega)).mono ?_
  rintro e w3 ⟨s, rfl, hs, D3, E3⟩
  replace op := E3.own op hg
  clear D2 E3
  go_wp2
  go_ret2
  exact ⟨_, _, _, _, rfl, ⟨_, op.sl⟩, by omega, by omega, HE.out _ _ D3⟩
/-- A drawn plan: its rows have the right lengths and small numbers. -/
structure PlI (w : World) (g A B H : Nat) (M : Int) (p q t : Option Addr) (m c d ct : Nat) (wr : World) : Prop where
  op : ∃ xs, Own w.heap.size wr p m c xs
  oq : ∃ ys, Own w.heap.size wr q m d ys
  T : ∃ xss, OwnSS B H wr t m ct xss ∧ (∀ i, i < m → (nthL xss i).length = m) ∧ ∀ a b, -M ≤ cellT xss a b ∧ cellT xss a b ≤ 40 + M
  D : Dr g A w wr
  wp : Within p w.heap.size B
  wq : Within q w.heap.size B
  lo : w.heap.size ≤ B
  sz : H ≤ wr.heap.size
theorem PlI.mono {w : World} {g A A' B H : Nat} {M M' : Int} {p q t : Option Addr} {m c d ct : Nat} {wr : World} (h : PlI w g A B H M p q t m c d ct wr) (hA : A ≤ A') (hM : M ≤ M') : PlI w g A' B H M' p q t m c d ct wr := by
  obtain ⟨h1, h2, ⟨xss, h3, h4, h5⟩, h6, h7, h8, h9, h10⟩ := h
  exact ⟨h1, h2, ⟨xss, h3, h4, fun a b => by have := h5 a b; omega⟩, h6.mono hA, h7, h8, h9, h10⟩
theorem PlI.step {w : World} {g A A' B H : Nat} {M : Int} {p q t : Option Addr} {m c d ct : Nat} {wr w' : World} (h : PlI w g A B H M p q t m c d ct wr) (hg : g < w.heap.size) (E : Dr g A' wr w') : PlI w g A' B H M p q t m c d ct w' := by
  obtain ⟨⟨xs, h1⟩, ⟨ys, h2⟩, ⟨xss, h3, h4, h5⟩, h6, h7, h8, h9, h10⟩ := h
  exact ⟨⟨xs, E.own h1 hg⟩, ⟨ys, E.own h2 hg⟩, ⟨xss, E.ss h3 (by omega), h4, h5⟩, h6.trans E, h7, h8, h9, Nat.le_trans h10 E.size⟩
theorem PlI.fr {w : World} {g A B H : Nat} {M : Int} {p q t : Option Addr} {m c d ct : Nat} {wr w' : World} (h : PlI w g A B H M p q t m c d ct wr) (f : Fr wr w') : PlI w g A B H M p q t m c d ct w' := by
  obtain ⟨⟨xs, h1⟩, ⟨ys, h2⟩, ⟨xss, h3, h4, h5⟩, h6, h7, h8, h9, h10⟩ := h
  exact ⟨⟨xs, h1.fr f⟩, ⟨ys, h2.fr f⟩, ⟨xss, h3.fr f, h4, h5⟩, h6.fr f, h7, h8, h9, Nat.le_trans h10 f.size⟩
/-- One number of the plan: where it lies, and that it may be set. -/
theorem PlI.spot {w : World} {g A B H : Nat} {M : Int} {p q t : Option Addr} {m c d ct : Nat} {wr : World} (h : PlI w g A B H M p q t m c d ct wr) (hg : g < w.heap.size) (hM : 0 ≤ M ∧ M ≤ 4611686018427387900) {i k : Nat} (hi : i < m) (hk : k < m) :
    ∃ gt r cr x, t = some ⟨gt, 0, none⟩ ∧ wr.cell? ⟨gt, i, none⟩ = some (.slice (some ⟨r, 0, none⟩) m cr) ∧ wr.cell? ⟨r, k, none⟩ = some (.int .i64 x) ∧ wr.frozen? ⟨r, k, none⟩ = false ∧ (-M ≤ x ∧ x ≤ 40 + M) ∧ gt ≠ r ∧ B ≤ gt ∧ B ≤ r ∧
      ∀ v, (-(M + 1) ≤ v ∧ v ≤ 40 + (M + 1)) → PlI w g A B H (M + 1) p q t m c d ct (wr.setCell ⟨r, k, none⟩ (.int .i64 v)) := by
  obtain ⟨⟨xs, h1⟩, ⟨ys, h2⟩, ⟨xss, h3, h4, h5⟩, h6, h7, h8, h9, h10⟩ := h
  obtain ⟨gt, r, cr, hta, hc1, hc2, hfz, hB, hH, hB2, hH2, hset⟩ := h3.spot h4 hi hk
  have hne : gt ≠ r := by
    rintro rfl
    obtain ⟨g3, p3, m3, c3, e3, hc3, ho3, hw3, _, _⟩ := h3.rowAt hi
    rw [hta] at e3
    injection e3 with e3; injection e3 with e3; subst e3
    rw [hc1] at hc3
    injection hc3 with hc3
    injection hc3 with ea eb ec
    subst ea; subst eb; subst ec
    obtain ⟨g4, hg4, _, _, hcell, _⟩ := ho3.op (by omega)
    injection hg4 with hg4; injection hg4 with hg4; subst hg4
    have := hcell i hi
    rw [hc1] at this
    cases this
  refine ⟨gt, r, cr, cellT xss i k, hta, hc1, hc2, hfz, h5 i k, hne, hB2, hB, fun v hv => ?_⟩
  refine ⟨⟨xs, h1.setOther (p := ⟨r, k, none⟩) (fun e => by have := h7 r e; omega) _⟩, ⟨ys, h2.setOther (p := ⟨r, k, none⟩) (fun e => by have := h8 r e; omega) _⟩,
    ⟨_, hset v (by unfold I64; omega), fun j hj => by rw [setC_row]; exact h4 j hj, ?_⟩, h6.set (q := ⟨r, k, none⟩) (by show w.heap.size ≤ r; omega) hg _, h7, h8, h9, by simpa [World.setCell] using h10⟩
  have := setC_bd (T := xss) (lo := -(M + 1)) (hi := 40 + (M + 1)) (fun a b => by have := h5 a b; omega) hv i k
  exact this
end Go.Proofs.Ytboekndojgbkfaa
