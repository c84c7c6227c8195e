import Derived.Test.YtboekndojgbkfaaLeastE
import Derived.Deep.LoopGhost
/- The walk of the program's least cost. -/
set_option linter.unusedVariables false
namespace Go.Proofs.Ytboekndojgbkfaa
open Go.ChangeShapes Go.WideShapes Go.ChangeAt Go.RowKit
abbrev farI : Int := 1073741824
/-- Four lists of the call's own. -/
structure Quad (w : World) (g1 g2 g3 g4 n : Nat) (a b c d : Nat → Int) (wr : World) : Prop where
  o1 : Own w.heap.size wr (some ⟨g1, 0, none⟩) n n (lst n a)
  o2 : Own w.heap.size wr (some ⟨g2, 0, none⟩) n n (lst n b)
  o3 : Own w.heap.size wr (some ⟨g3, 0, none⟩) n n (lst n c)
  o4 : Own w.heap.size wr (some ⟨g4, 0, none⟩) n n (lst n d)
  f : Fr w wr
  ne : g1 ≠ g2 ∧ g1 ≠ g3 ∧ g1 ≠ g4 ∧ g2 ≠ g3 ∧ g2 ≠ g4 ∧ g3 ≠ g4
  ge : w.heap.size ≤ g1 ∧ w.heap.size ≤ g2 ∧ w.heap.size ≤ g3 ∧ w.heap.size ≤ g4
section
variable {w wr w' : World} {g1 g2 g3 g4 n i k : Nat} {a b c d a' b' c' d' : Nat → Int}
theorem Quad.fr (h : Quad w g1 g2 g3 g4 n a b c d wr) (k : Fr wr w') : Quad w g1 g2 g3 g4 n a b c d w' := ⟨h.o1.fr k, h.o2.fr k, h.o3.fr k, h.o4.fr k, h.f.trans k, h.ne, h.ge⟩
theorem Quad.drew (h : Quad w g1 g2 g3 g4 n a b c d wr) : Quad w g1 g2 g3 g4 n a b c d wr.drew := h.fr (Fr.drewN _ 1)
theorem Quad.c1 (h : Quad w g1 g2 g3 g4 n a b c d wr) (hi : i < n) : wr.cell? ⟨g1, i, none⟩ = some (.int .i64 (a i)) := by
  have := h.o1.cellAt rfl hi; rwa [lst_nth _ hi] at this
theorem Quad.c2 (h : Quad w g1 g2 g3 g4 n a b c d wr) (hi : i < n) : wr.cell? ⟨g2, i, none⟩ = some (.int .i64 (b i)) := by
  have := h.o2.cellAt rfl hi; rwa [lst_nth _ hi] at this
theorem Quad.c3 (h : Quad w g1 g2 g3 g4 n a b c d wr) (hi : i < n) : wr.cell? ⟨g3, i, none⟩ = some (.int .i64 (c i)) := by
  have := h.o3.cellAt rfl hi; rwa [lst_nth _ hi] at this
theorem Quad.c4 (h : Quad w g1 g2 g3 g4 n a b c d wr) (hi : i < n) : wr.cell? ⟨g4, i, none⟩ = some (.int .i64 (d i)) := by
  have := h.o4.cellAt rfl hi; rwa [lst_nth _ hi] at this
theorem Quad.alter (h : Quad w g1 g2 g3 g4 n a b c d wr) (ha : ∀ i, i < n → a i = a' i) (hb : ∀ i, i < n → b i = b' i) (hc : ∀ i, i < n → c i = c' i) (hd : ∀ i, i < n → d i = d' i) : Quad w g1 g2 g3 g4 n a' b' c' d' wr := by
  obtain ⟨h1, h2, h3, h4, h5, h6, h7⟩ := h
  rw [lst_congr ha] at h1; rw [lst_congr hb] at h2; rw [lst_congr hc] at h3; rw [lst_congr hd] at h4
  exact ⟨h1, h2, h3, h4, h5, h6, h7⟩
theorem Quad.set1 (h : Quad w g1 g2 g3 g4 n a b c d wr) (hi : i < n) {v : Int} (hv : I64 v) : Quad w g1 g2 g3 g4 n (updI a i v) b c d (wr.setCell ⟨g1, i, none⟩ (.int .i64 v)) := by
  have hn := h.ne
  refine ⟨by rw [← lst_set]; exact h.o1.set rfl hi hv, h.o2.setOther (p := ⟨g1, i, none⟩) (fun e => ?_) _, h.o3.setOther (p := ⟨g1, i, none⟩) (fun e => ?_) _, h.o4.setOther (p := ⟨g1, i, none⟩) (fun e => ?_) _, h.f.setCell (p := ⟨g1, i, none⟩) h.ge.1 _, hn, h.ge⟩
  · injection e with e; change g2 = g1 at e; omega
  · injection e with e; change g3 = g1 at e; omega
  · injection e with e; change g4 = g1 at e; omega
theorem Quad.set2 (h : Quad w g1 g2 g3 g4 n a b c d wr) (hi : i < n) {v : Int} (hv : I64 v) : Quad w g1 g2 g3 g4 n a (updI b i v) c d (wr.setCell ⟨g2, i, none⟩ (.int .i64 v)) := by
  have hn := h.ne
  refine ⟨h.o1.setOther (p := ⟨g2, i, none⟩) (fun e => ?_) _, by rw [← lst_set]; exact h.o2.set rfl hi hv, h.o3.setOther (p := ⟨g2, i, none⟩) (fun e => ?_) _, h.o4.setOther (p := ⟨g2, i, none⟩) (fun e => ?_) _, h.f.setCell (p := ⟨g2, i, none⟩) h.ge.2.1 _, hn, h.ge⟩
  · injection e with e; change g1 = g2 at e; omega
  · injection e with e; change g3 = g2 at e; omega
  · injection e with e; change g4 = g2 at e; omega
theorem Quad.set3 (h : Quad w g1 g2 g3 g4 n a b c d wr) (hi : i < n) {v : Int} (hv : I64 v) : Quad w g1 g2 g3 g4 n a b (updI c i v) d (wr.setCell ⟨g3, i, none⟩ (.int .i64 v)) := by
  have hn := h.ne
  refine ⟨h.o1.setOther (p := ⟨g3, i, none⟩) (fun e => ?_) _, h.o2.setOther (p := ⟨g3, i, none⟩) (fun e => ?_) _, by rw [← lst_set]; exact h.o3.set rfl hi hv, h.o4.setOther (p := ⟨g3, i, none⟩) (fun e => ?_) _, h.f.setCell (p := ⟨g3, i, none⟩) h.ge.2.2.1 _, hn, h.ge⟩
  · injection e with e; change g1 = g3 at e; omega
  · injection e with e; change g2 = g3 at e; omega
  · injection e with e; change g4 = g3 at e; omega
theorem Quad.set4 (h : Quad w g1 g2 g3 g4 n a b c d wr) (hi : i < n) {v : Int} (hv : I64 v) : Quad w g1 g2 g3 g4 n a b c (updI d i v) (wr.setCell ⟨g4, i, none⟩ (.int .i64 v)) := by
  have hn := h.ne
  refine ⟨h.o1.setOther (p := ⟨g4, i, none⟩) (fun e => ?_) _, h.o2.setOther (p := ⟨g4, i, none⟩) (fun e => ?_) _, h.o3.setOther (p := ⟨g4, i, none⟩) (fun e => ?_) _, by rw [← lst_set]; exact h.o4.set rfl hi hv, h.f.setCell (p := ⟨g4, i, none⟩) h.ge.2.2.2 _, hn, h.ge⟩
  · injection e with e; change g1 = g4 at e; omega
  · injection e with e; change g2 = g4 at e; omega
  · injection e with e; change g3 = g4 at e; omega
end
/-- The places before, for spots of the first spread. -/
def bfo (n : Nat) (b : Nat → Int) (i : Nat) : Int := if b i < 0 then -1 else b i - n
abbrev QS (w : World) (g1 g2 g3 g4 n : Nat) (s : BF) (wr : World) : Prop := Quad w g1 g2 g3 g4 n s.d (fun k => s.d (n + k)) (bfo n s.b) (fun k => s.b (n + k)) wr
section
variable {w wr : World} {g1 g2 g3 g4 n i k : Nat} {s : BF}
theorem QS.k1 (h : QS w g1 g2 g3 g4 n s wr) (hi : i < n) : wr.cell? ⟨g1, i, none⟩ = some (.int .i64 (s.d i)) := Quad.c1 h hi
theorem QS.k2 (h : QS w g1 g2 g3 g4 n s wr) (hi : i < n) : wr.cell? ⟨g2, i, none⟩ = some (.int .i64 (s.d (n + i))) := Quad.c2 h hi
theorem QS.k3 (h : QS w g1 g2 g3 g4 n s wr) (hi : i < n) : wr.cell? ⟨g3, i, none⟩ = some (.int .i64 (bfo n s.b i)) := Quad.c3 h hi
theorem QS.k4 (h : QS w g1 g2 g3 g4 n s wr) (hi : i < n) : wr.cell? ⟨g4, i, none⟩ = some (.int .i64 (s.b (n + i))) := Quad.c4 h hi
theorem QS.up (h : QS w g1 g2 g3 g4 n s wr) (hi : i < n) (hk : k < n) {v : Int} (hv : I64 v) (hn : n ≤ 8) : QS w g1 g2 g3 g4 n ⟨updI s.d (n + k) v, updI s.b (n + k) (i : Int)⟩ ((wr.setCell ⟨g2, k, none⟩ (.int .i64 v)).setCell ⟨g4, k, none⟩ (.int .i64 (i : Int))) := by
  refine ((Quad.set2 h hk hv).set4 hk (v := (i : Int)) (by unfold I64; omega)).alter (fun j hj => ?_) (fun j hj => ?_) (fun j hj => ?_) (fun j hj => ?_)
  · show s.d j = updI s.d (n + k) v j; rw [updI_ne _ _ (by omega)]
  · show updI _ k v j = updI s.d (n + k) v (n + j)
    by_cases e : j = k
    · subst e; rw [updI_at, updI_at]
    · rw [updI_ne _ _ e, updI_ne _ _ (by omega)]
  · show bfo n s.b j = bfo n (updI s.b (n + k) i) j
    unfold bfo; rw [updI_ne _ _ (by omega)]
  · show updI _ k (i : Int) j = updI s.b (n + k) i (n + j)
    by_cases e : j = k
    · subst e; rw [updI_at, updI_at]
    · rw [updI_ne _ _ e, updI_ne _ _ (by omega)]
theorem QS.down (h : QS w g1 g2 g3 g4 n s wr) (hi : i < n) (hk : k < n) {v : Int} (hv : I64 v) (hn : n ≤ 8) : QS w g1 g2 g3 g4 n ⟨updI s.d i v, updI s.b i ((n + k : Nat) : Int)⟩ ((wr.setCell ⟨g1, i, none⟩ (.int .i64 v)).setCell ⟨g3, i, none⟩ (.int .i64 (k : Int))) := by
  refine ((Quad.set1 h hi hv).set3 hi (v := (k : Int)) (by unfold I64; omega)).alter (fun j hj => ?_) (fun j hj => ?_) (fun j hj => ?_) (fun j hj => ?_)
  · rfl
  · show s.d (n + j) = updI s.d i v (n + j); rw [updI_ne _ _ (by omega)]
  · show updI (bfo n s.b) i (k : Int) j = bfo n (updI s.b i ((n + k : Nat) : Int)) j
    by_cases e : j = i
    · subst e; unfold bfo; rw [updI_at, updI_at, if_neg (by omega)]; omega
    · unfold bfo; rw [updI_ne _ _ e, updI_ne _ _ e]
  · show s.b (n + j) = updI s.b i ((n + k : Nat) : Int) (n + j); rw [updI_ne _ _ (by omega)]
end
/-- Whether something has changed since. -/
def Chg (n : Nat) (b : Bool) (s t : BF) : Prop := (b = false → t = s) ∧ (b = true → sumG (2 * n) t.d < sumG (2 * n) s.d)
theorem Chg.no (n : Nat) (s : BF) : Chg n false s s := ⟨fun _ => rfl, fun e => by cases e⟩
theorem Chg.yes {n : Nat} {b : Bool} {s t : BF} {F c : Int} {x y : Nat} (h : Chg n b s t) (hy : y < 2 * n) (h1 : t.d x < F) (h2 : t.d x + c < t.d y) : Chg n true s (rlx F c x y t) := by
  refine ⟨fun e => (by cases e), fun _ => ?_⟩
  have h3 : sumG (2 * n) (rlx F c x y t).d < sumG (2 * n) t.d := by
    rcases rlx_sum F c (x := x) hy t with e | e
    · exact absurd ⟨h1, h2⟩ (rlx_same e)
    · exact e
  cases b
  · rw [h.1 rfl] at h3 ⊢; exact h3
  · have := h.2 rfl; omega
theorem sumG_ge {N : Nat} {f : Nat → Int} (h : ∀ y, y < N → -1000000000000000 ≤ f y) (hN : N ≤ 16) : -16000000000000000 ≤ sumG N f := by
  have h1 : sumG N (fun _ => (-1000000000000000 : Int)) ≤ sumG N f := sumG_le h
  rw [sumG_const] at h1
  omega
theorem sumG_le8 {n : Nat} {f : Nat → Int} {c : Int} (h : ∀ y, y < n → f y ≤ c) (hc : 0 ≤ c) (hn : n ≤ 8) : sumG n f ≤ 8 * c := by
  have h1 : sumG n f ≤ sumG n (fun _ => c) := sumG_le h
  rw [sumG_const] at h1
  have h2 : (n : Int) * c ≤ 8 * c := Int.mul_le_mul_of_nonneg_right (by omega) hc
  omega
theorem costN_bd {n : Nat} {C X : Nat → Nat → Int} (hX : ∀ i k, i < n → k < n → 0 ≤ X i k ∧ X i k ≤ 40) (hC : ∀ i k, i < n → k < n → 0 ≤ C i k ∧ C i k ≤ 99) (hn : n ≤ 8) : 0 ≤ costN n C X ∧ costN n C X ≤ 253440 := by
  have key : ∀ i k, i < n → k < n → 0 ≤ X i k * C i k ∧ X i k * C i k ≤ 3960 := fun i k hi hk => by
    have h1 := hX i k hi hk; have h2 := hC i k hi hk
    refine ⟨Int.mul_nonneg h1.1 h2.1, ?_⟩
    have := Int.mul_le_mul h1.2 h2.2 h2.1 (by decide)
    omega
  refine ⟨sumG_nonneg fun i hi => sumG_nonneg fun k hk => (key i k hi hk).1, ?_⟩
  have := sumG_le8 (c := 31680) (fun i hi => by
    have := sumG_le8 (c := 3960) (f := fun k => X i k * C i k) (fun k hk => (key i k hi hk).2) (by decide) hn
    omega) (by decide) hn (f := fun i => sumG n fun k => X i k * C i k)
  unfold costN; omega
theorem upd_if (g : Nat → Int) (i y : Nat) : updI (fun y => if y < i then g y else 0) i (g i) y = if y < i + 1 then g y else 0 := by
  by_cases e : y = i
  · subst e; rw [updI_at, if_pos (by omega)]
  · rw [updI_ne _ _ e]
    by_cases e2 : y < i
    · rw [if_pos e2, if_pos (by omega)]
    · rw [if_neg e2, if_neg (by omega)]
theorem updI_twice (f : Nat → Int) (i : Nat) (u v : Int) : updI (updI f i u) i v = updI f i v := by
  funext y
  by_cases e : y = i
  · subst e; rw [updI_at, updI_at]
  · rw [updI_ne _ _ e, updI_ne _ _ e, updI_ne _ _ e]
theorem back_yes {x F c : Int} {K i : Nat} {s : BF} (h : 0 < x ∧ s.d K < F ∧ s.d K - c < s.d i) : (if 0 < x then rlx F (-c) K i s else s) = ⟨updI s.d i (s.d K - c), updI s.b i (K : Int)⟩ := by
  rw [if_pos h.1, rlx_yes h.2.1 (by omega), Int.sub_eq_add_neg]
theorem back_no {x F c : Int} {K i : Nat} {s : BF} (h : ¬ (0 < x ∧ s.d K < F ∧ s.d K - c < s.d i)) : (if 0 < x then rlx F (-c) K i s else s) = s := by
  by_cases h0 : 0 < x
  · rw [if_pos h0]
    unfold rlx
    rw [if_neg (fun e => h ⟨h0, e.1, by omega⟩)]
  · rw [if_neg h0]
theorem forth_no {F c : Int} {K i : Nat} {s : BF} (h : ¬ (s.d i < F ∧ s.d i + c < s.d K)) : rlx F c i K s = s := if_neg h
theorem SS.num {w : World} {a : Option Addr} {n cap : Nat} {T : List (List Int)} (h : SS w a n cap T) {b o : Nat} (ha : a = some ⟨b, o, none⟩) {i k : Nat} (hi : i < n) (hk : k < (nthL T i).length) : ∃ r z m c, w.cell? ⟨b, o + i, none⟩ = some (.slice (some ⟨r, z, none⟩) m c) ∧ w.cell? ⟨r, z + k, none⟩ = some (.int .i64 (cellT T i k)) ∧ m = (nthL T i).length := by
  obtain ⟨b', o', e, rc⟩ := h.rows.resolve_left (by omega)
  rw [ha] at e
  injection e with e; injection e with e1 e2; subst e1; subst e2
  obtain ⟨p, m, c, k1, s1⟩ := rc i hi
  have hl := s1.len
  obtain ⟨r, z, rfl, hd⟩ := s1.cells.resolve_left (by omega)
  exact ⟨r, z, m, c, k1, hd k (by omega), hl.symm⟩
set_option maxRecDepth 100000 in
set_option maxHeartbeats 4000000 in
theorem impl_LeastCost_any (w : World) (a b s : Option Addr) (n1 c1 n2 c2 n4 c4 : Nat) (p q : List Int) (C : List (List Int)) (hp : SL w a n1 c1 p) (hq : SL w b n2 c2 q) (hc : SS w s n4 c4 C) :
    Calls Try.prog 43 #[.slice a n1 c1, .slice b n2 c2, .slice s n4 c4] w fun e w' => e = .returned (.tuple #[.int .i64 (leastV p q C), .bool (okC p q C)]) ∧ Fr w w' := by
  have Hp := Lib.hid hp.len; have Hq := Lib.hid hq.len; have Hc := Lib.hid hc.len
  cases h0 : alikeB p q
  · have HB : Hid (okC p q C = false) := Lib.hid (by rw [okC, h0]; rfl)
    go_enter Try.func43, Try.ntmps43
    go_wp2_with (go_at_call 74; refine (alike_any _ _ _ _ _ _ _ _ _ hp hq).mono ?_; rintro e w' ⟨rfl, rfl⟩)
    go_ret2
    exact ⟨by rw [leastV_no HB.out, HB.out]; rfl, Fr.refl _⟩
  have H1 := Lib.hid h0
  go_enter Try.func43, Try.ntmps43
  go_wp2_with fail
  refine (alike_any _ _ _ _ _ _ _ _ _ hp hq).mono ?_
  rintro e w' ⟨rfl, rfl⟩
  clear h0
  go_wp2_with fail
  refine (areCosts_any _ _ _ _ _ _ _ _ _ _ _ _ _ hp hq hc).mono ?_
  rintro e w' ⟨rfl, rfl⟩
  cases h2 : costsB p q C
  · have HB : Hid (okC p q C = false) := Lib.hid (by rw [okC, h2]; simp)
    go_wp2
    go_ret2
    exact ⟨by rw [leastV_no HB.out, HB.out]; rfl, Fr.refl _⟩
  have HB : Hid (okC p q C = true) := Lib.hid (by rw [okC, H1.out, h2]; rfl)
  obtain ⟨s1, s2, s3, s4⟩ := alikeB_iff.1 H1.out
  have l8 := (spreadB_iff.1 s1).1
  have hws := (spreadB_iff.1 s1).2.2
  have hcr := costs_rows h2
  obtain rfl : n4 = n1 := by rw [← Hc.out, hcr.1, Hp.out]
  obtain rfl : n2 = n4 := by rw [← Hq.out, ← s3, Hp.out]
  have hcr2 := hcr.2
  have e3 := Hp.out; have e4 := Hq.out
  rw [e3, e4] at hcr2
  rw [e3] at l8
  have HL := Lib.hid hcr2
  have HLen : Hid (p.length = n2) := Lib.hid e3
  have HT := Lib.hid (costs_cell h2)
  have HP : Hid (∀ i, i < n2 → nth p i ≤ 40) := Lib.hid fun i _ => (spread_nth s1 i).2
  obtain ⟨bc, oc, rfl, _⟩ := hc.rows.resolve_left (by omega)
  have Sc := Lib.hid hc
  have EP : Hid (p = lst n2 (nth p)) := Lib.hid (lst_of hp.len)
  have EQ : Hid (q = lst n2 (nth q)) := Lib.hid (lst_of hq.len)
  obtain ⟨u0, hu0⟩ := Int.eq_ofNat_of_zero_le (show 0 ≤ wsum p by omega)
  have HR0 : Hid (RunS farI n2 (cellT C) (fun _ _ => 0) (nth p) (nth q) (nth p) (nth q) u0) := Lib.hid (RunS.start H1.out e3 (by decide) (fun i k _ _ => HT.out i k) hu0)
  have hu40 : u0 ≤ 40 := by omega
  clear s1 s2 s3 s4 hcr hcr2 e3 e4 hws hc
  go_wp2_with fail
  refine (emptyTable_any _ n2 n2 (by omega) (by omega)).mono ?_
  rintro e w1 ⟨t, n1, ct, rfl, oT, f1, -⟩
  obtain rfl : n1 = n2 := by rw [← oT.len]; simp [zeros]
  rw [tab_zero] at oT
  obtain ⟨gt, _, _, rfl, _⟩ := oT.spot (m := n1) (fun i hi => tab_rowLen _ hi) (i := 0) (k := 0) (by omega) (by omega)
  go_wp2_with fail
  refine (copied_any _ _ _ _ _ (hp.fr f1) (by omega)).mono ?_
  rintro e w2 ⟨ah, n2, ch, rfl, oh, f2, -⟩
  obtain rfl : n2 = n1 := by rw [← oh.len, hp.len]
  go_wp2_with fail
  refine (copied_any _ _ _ _ _ ((hq.fr f1).fr f2) (by omega)).mono ?_
  rintro e w3 ⟨al, n3, cl, rfl, ol, f3, -⟩
  obtain rfl : n3 = n2 := by rw [← ol.len, hq.len]
  obtain ⟨gh, rfl, hgh, hgh2, _, _⟩ := oh.op (by omega)
  obtain ⟨gl, rfl, hgl, hgl2, _, _⟩ := ol.op (by omega)
  have sz1 := f1.size; have sz2 := f2.size
  have S0 : FlI w w.heap.size w1.heap.size gt gh gl n3 ct ch cl (fun _ _ => 0) (nth p) (nth q) w3 :=
    ⟨(oT.fr f2).fr f3, by rw [← EP.out]; exact (oh.fr f3).mono (by omega), by rw [← EQ.out]; exact ol.mono (by omega), (f1.trans f2).trans f3, Nat.le_refl _, hgh, by omega, by omega, sz1⟩
  generalize w1.heap.size = H at S0
  generalize hB : w.heap.size = B at S0
  clear oT oh ol hgh hgh2 hgl hgl2 sz1 sz2
  go_wp2_with fail
  refine (total_any _ _ _ _ _ ((hp.fr f1).fr (f2.trans f3))).mono ?_
  rintro e w' ⟨rfl, rfl⟩
  rw [hu0]
  clear hp hq f1 f2 f3 EP EQ hu0 Hp Hq Hc h2 H1
  have HZ0 : Hid ((0 : Int) = costN n3 (cellT C) (fun _ _ => 0)) := Lib.hid (by
    unfold costN; simp only [Int.zero_mul]; rw [sumG_const, sumG_const]; simp)
  go_wp2
  go_loopw [12, 47] (fun sm i wr => ∃ (u j : Nat) (z : Int) (X : Nat → Nat → Int) (h l : Nat → Int), j + u = u0 ∧ i = .int .i64 j ∧ sm = .int .i64 z ∧ (0 ≤ z ∧ z ≤ 253440) ∧ Hid (z = costN n3 (cellT C) X) ∧ FlI w B H gt gh gl n3 ct ch cl X h l wr ∧ Hid (RunS farI n3 (cellT C) X (nth p) (nth q) h l u)) (fun _ i _ => u0 - (intOf i).toNat)
  case atStart => exact ⟨u0, 0, 0, _, _, _, by omega, rfl, rfl, by omega, HZ0, S0, HR0⟩
  case round =>
    as_aux_lemma =>
      clear S0 HR0 HZ0
      obtain ⟨u, j, z, X, h, l, hju, rfl, rfl, hz0, HZ, S, HR⟩ := hrel
      obtain ⟨w4, rfl⟩ : ∃ wo : World, wo = wr := ⟨_, rfl⟩
      by_cases hlt : j < u0
      · obtain ⟨v, hv⟩ : ∃ v, u = v + 1 := ⟨u - 1, by omega⟩
        have vj : (j : Int) < (u0 : Int) := by omega
        have HV := Lib.hid hv
        clear hv
        have hmk := run_make_row' 22 3 (.int .i64 0) 8 Try.underlying22 infoInt rfl .i64 .i64 n3 (by omega) (by omega)
        go_upto_region 7 with fail
        go_cut [13, 14] from 49 to 52 (fun x y wx => ∃ g1 g2 : Nat, g1 ≠ g2 ∧ x = .slice (some ⟨g1, 0, none⟩) n3 n3 ∧ y = .slice (some ⟨g2, 0, none⟩) n3 n3 ∧ Own w4.heap.size wx (some ⟨g1, 0, none⟩) n3 n3 (lst n3 fun _ => 0) ∧ Own w4.heap.size wx (some ⟨g2, 0, none⟩) n3 n3 (lst n3 fun _ => 0) ∧ Fr w4 wx)
        case first =>
          as_aux_lemma =>
            have o1 := Own.made (B := w4.heap.size) w4 n3 (Nat.le_refl _) (by unfold maxLen; omega)
            have o2 := Own.made (B := w4.heap.size) (w4.alloc (.cells (madeCells #[.int .i64 0] n3) 3)) n3 (by simp) (by unfold maxLen; omega)
            have f1 := (Fr.refl w4).alloc (.cells (madeCells #[.int .i64 0] n3) 3)
            have f2 := (Fr.refl (w4.alloc (.cells (madeCells #[.int .i64 0] n3) 3))).alloc (.cells (madeCells #[.int .i64 0] n3) 3)
            rw [lst_rep] at o1 o2
            have o3 := Lib.hid ((o1.fr f2).fr (Fr.drewN _ 1))
            have o4 := Lib.hid (o2.fr (Fr.drewN _ 1))
            have f3 := Lib.hid ((f1.trans f2).trans (Fr.drewN _ 1))
            have hz : (w4.alloc (.cells (madeCells #[.int .i64 0] n3) 3)).heap.size = w4.heap.size + 1 := by simp
            rw [hz] at o4
            clear o1 o2 f1 f2 hz
            go_region
            all_goals
              go_wp2
              go_meet
              first
                | exact ⟨_, _, by omega, rfl, rfl, o3.out, o4.out, f3.out⟩
                | exact ⟨_, _, by omega, rfl, rfl, o4.out, o3.out, f3.out⟩
        case rest =>
          obtain ⟨g1, g2, h12, rfl, rfl, o1, o2, fA⟩ := hcut
          obtain ⟨w5, rfl⟩ : ∃ wz : World, wz = wc := ⟨_, rfl⟩
          obtain ⟨g1', e1, hg1, hg1s, _, _⟩ := o1.op (by omega)
          injection e1 with e1; injection e1 with e1; subst e1
          obtain ⟨g2', e2, hg2, hg2s, _, _⟩ := o2.op (by omega)
          injection e2 with e2; injection e2 with e2; subst e2
          go_upto_region 8 with fail
          go_cut [15, 16] from 53 to 56 (fun x y wx => ∃ g3 g4 : Nat, g3 ≠ g4 ∧ w5.heap.size ≤ g3 ∧ w5.heap.size ≤ g4 ∧ x = .slice (some ⟨g3, 0, none⟩) n3 n3 ∧ y = .slice (some ⟨g4, 0, none⟩) n3 n3 ∧ Own w4.heap.size wx (some ⟨g3, 0, none⟩) n3 n3 (lst n3 fun _ => 0) ∧ Own w4.heap.size wx (some ⟨g4, 0, none⟩) n3 n3 (lst n3 fun _ => 0) ∧ Fr w5 wx)
          case first =>
            as_aux_lemma =>
              have hfs := fA.size
              have o1 := Own.made (B := w4.heap.size) w5 n3 hfs (by unfold maxLen; omega)
              have o2 := Own.made (B := w4.heap.size) (w5.alloc (.cells (madeCells #[.int .i64 0] n3) 3)) n3 (by simp; omega) (by unfold maxLen; omega)
              have f1 := (Fr.refl w5).alloc (.cells (madeCells #[.int .i64 0] n3) 3)
              have f2 := (Fr.refl (w5.alloc (.cells (madeCells #[.int .i64 0] n3) 3))).alloc (.cells (madeCells #[.int .i64 0] n3) 3)
              rw [lst_rep] at o1 o2
              have o3 := Lib.hid ((o1.fr f2).fr (Fr.drewN _ 1))
              have o4 := Lib.hid (o2.fr (Fr.drewN _ 1))
              have f3 := Lib.hid ((f1.trans f2).trans (Fr.drewN _ 1))
              have hz : (w5.alloc (.cells (madeCells #[.int .i64 0] n3) 3)).heap.size = w5.heap.size + 1 := by simp
              rw [hz] at o4
              clear o1 o2 f1 f2 hz hfs hg1 hg1s hg2 hg2s
              go_region
              all_goals
                go_wp2
                go_meet
                first
                  | exact ⟨_, _, by omega, by omega, by omega, rfl, rfl, o3.out, o4.out, f3.out⟩
                  | exact ⟨_, _, by omega, by omega, by omega, rfl, rfl, o4.out, o3.out, f3.out⟩
          case rest =>
            obtain ⟨g3, g4, h34, hg3, hg4, rfl, rfl, o3, o4, fB⟩ := hcut
            obtain ⟨w6, rfl⟩ : ∃ wz : World, wz = wc := ⟨_, rfl⟩
            have Q0 : Quad w4 g1 g2 g3 g4 n3 (fun _ => 0) (fun _ => 0) (fun _ => 0) (fun _ => 0) w6 := ⟨o1.fr fB, o2.fr fB, o3, o4, fA.trans fB, by omega, by omega⟩
            clear o1 o2 o3 o4 fA fB hg1 hg1s hg2 hg2s hg3 hg4 h12 h34 hmk
            have S' := Lib.hid S
            have HLow := Lib.hid (HR.out.low (by decide))
            clear S
            go_wp2
            go_loopw [58] (fun i wr => ∃ j : Nat, j ≤ n3 ∧ i = .int .i64 j ∧ Quad w4 g1 g2 g3 g4 n3 (fun y => if y < j then (startBF farI n3 h).d y else 0) (fun y => if y < j then farI else 0) (fun y => if y < j then -1 else 0) (fun y => if y < j then -1 else 0) wr) (fun i _ => n3 - (intOf i).toNat)
            case atStart => exact ⟨0, Nat.zero_le _, rfl, by simpa using Q0⟩
            case round =>
              as_aux_lemma =>
                clear Q0
                obtain ⟨i, hi, rfl, Q⟩ := hrel
                obtain ⟨wi, rfl⟩ : ∃ wo : World, wo = wr := ⟨_, rfl⟩
                by_cases hit : i < n3
                · have vi0 : (0 : Int) ≤ (i : Int) := by omega
                  have vi1 : (i : Int) < (n3 : Int) := by omega
                  have z1 := Q.o1.frz i; have k1 := Q.c1 hit
                  have Q1 := Q.set1 hit (v := 1073741824) (by unfold I64; omega)
                  have z2 := Q1.o2.frz i; have k2 := Q1.c2 hit
                  have Q2 := Q1.set2 hit (v := 1073741824) (by unfold I64; omega)
                  have z3 := Q2.o3.frz i; have k3 := Q2.c3 hit
                  have Q3 := Q2.set3 hit (v := -1) (by unfold I64; omega)
                  have z4 := Q3.o4.frz i; have k4 := Q3.c4 hit
                  have Q4 := Q3.set4 hit (v := -1) (by unfold I64; omega)
                  clear Q Q1 Q2 Q3
                  go_upto_region 13 with fail
                  clear z1 k1 z2 k2 z3 k3 z4 k4
                  have kh := (S'.out.fr Q4.f).cellh hit
                  have sd := startBF_d farI n3 h i
                  by_cases c2 : 0 < h i
                  · rw [if_pos ⟨hit, c2⟩] at sd
                    have z1 := Q4.o1.frz i; have k1 := Q4.c1 hit
                    have Q5 := (Q4.set1 hit (v := 0) (by unfold I64; omega)).alter (a' := fun y => if y < i + 1 then (startBF farI n3 h).d y else 0) (b' := fun y => if y < i + 1 then farI else 0) (c' := fun y => if y < i + 1 then -1 else 0) (d' := fun y => if y < i + 1 then -1 else 0)
                      (fun y _ => by have := upd_if (startBF farI n3 h).d i y; rw [sd] at this; rw [updI_twice]; exact this) (fun y _ => upd_if (fun _ => farI) i y) (fun y _ => upd_if (fun _ => -1) i y) (fun y _ => upd_if (fun _ => -1) i y)
                    clear Q4
                    go_wp2
                    go_roundw
                    case rel => exact ⟨i + 1, by omega, by go_num, Q5⟩
                    case measure => simp [intOf]; omega
                  · rw [if_neg (fun e => c2 e.2)] at sd
                    have Q5 := Q4.alter (a' := fun y => if y < i + 1 then (startBF farI n3 h).d y else 0) (b' := fun y => if y < i + 1 then farI else 0) (c' := fun y => if y < i + 1 then -1 else 0) (d' := fun y => if y < i + 1 then -1 else 0)
                      (fun y _ => by have := upd_if (startBF farI n3 h).d i y; rw [sd] at this; exact this) (fun y _ => upd_if (fun _ => farI) i y) (fun y _ => upd_if (fun _ => -1) i y) (fun y _ => upd_if (fun _ => -1) i y)
                    clear Q4
                    go_wp2
                    go_roundw
                    case rel => exact ⟨i + 1, by omega, by go_num, Q5⟩
                    case measure => simp [intOf]; omega
                · obtain rfl : n3 = i := by omega
                  have Q1 : QS w4 g1 g2 g3 g4 n3 (startBF farI n3 h) wi := Q.alter (fun y hy => by rw [if_pos hy]) (fun y hy => by rw [if_pos hy, startBF_d, if_neg (by omega)]) (fun y hy => by rw [if_pos hy]; unfold bfo; rw [startBF_b, if_pos (by decide)]) (fun y hy => by rw [if_pos hy, startBF_b])
                  clear Q
                  go_wp2
                  go_loopg [18] ((sumG (2 * n3) (startBF farI n3 h).d + 16000000000000000).toNat + 1) (fun gk c wr => ∃ (s : BF) (bb : Bool), c = .bool bb ∧ QS w4 g1 g2 g3 g4 n3 s wr ∧ Hid (Steps farI (Arc n3 (cellT C) X) (2 * n3) (startBF farI n3 h) s) ∧ Hid (bb = false → Fix farI (Arc n3 (cellT C) X) (2 * n3) s) ∧ Hid ((sumG (2 * n3) s.d + 16000000000000000).toNat + (if bb = true then 1 else 0) ≤ gk))
                  case atStart => exact ⟨startBF farI n3 h, true, rfl, Q1, Lib.hid (Steps.refl _), Lib.hid (fun e => by cases e), Lib.hid (by simp)⟩
                  case round =>
                    as_aux_lemma =>
                      clear Q1
                      obtain ⟨s, bb, rfl, Q, HS, HF, HG⟩ := hrel
                      obtain ⟨wi, rfl⟩ : ∃ wo : World, wo = wr := ⟨_, rfl⟩
                      cases bb
                      · have TT : Hid (Told farI n3 (cellT C) X h s) := Lib.hid ⟨HR.out.flow.inv (by decide) HS.out, HF.out rfl⟩
                        have HBd := Lib.hid (HLow.out s HS.out)
                        have HRv : Hid (RunS farI n3 (cellT C) X (nth p) (nth q) h l (v + 1)) := Lib.hid (by rw [← HV.out]; exact HR.out)
                        have HLe : Hid (∀ k, k < n3 → 0 ≤ l k) := Lib.hid HR.out.flow.lpos
                        have G : Hid (gh < w4.heap.size ∧ gl < w4.heap.size ∧ H ≤ gh) := Lib.hid (by
                          obtain ⟨x1, e1, _, h1, _, _⟩ := S'.out.oh.op (by omega)
                          obtain ⟨x2, e2, _, h2, _, _⟩ := S'.out.ol.op (by omega)
                          injection e1 with e1; injection e1 with e1; subst e1
                          injection e2 with e2; injection e2 with e2; subst e2
                          exact ⟨h1, h2, S'.out.hh⟩)
                        obtain ⟨dep, _, hdep2⟩ := TT.out.dep
                        have HD2 := Lib.hid hdep2
                        clear hdep2 HS HF HG HLow HR
                        go_wp2
                        go_loopw [21, 190] (fun b i wr => ∃ (k : Nat) (zb : Int), k ≤ n3 ∧ i = .int .i64 k ∧ b = .int .i64 zb ∧ Hid ((zb = -1 ∧ ∀ j, j < k → l j ≤ 0) ∨ ∃ m : Nat, m < k ∧ zb = m ∧ 0 < l m) ∧ Qt wi wr) (fun _ i _ => n3 - (intOf i).toNat)
                        case atStart => exact ⟨0, -1, Nat.zero_le _, rfl, rfl, Lib.hid (.inl ⟨rfl, fun j hj => by omega⟩), Qt.refl _⟩
                        case round =>
                          as_aux_lemma =>
                            obtain ⟨k, zb, hk, rfl, rfl, hz, hq⟩ := hrel
                            by_cases hkt : k < n3
                            · have vk0 : (0 : Int) ≤ (k : Int) := by omega
                              have vk1 : (k : Int) < (n3 : Int) := by omega
                              have k1 := (S'.out.fr (Q.f.trans hq.fr)).celll hkt
                              have k2 := QS.k2 (Quad.fr Q hq.fr) hkt
                              by_cases c0 : 0 < l k
                              · rcases hz.out with ⟨rfl, hz1⟩ | ⟨m, hm, rfl, hz1⟩
                                · go_wp2
                                  go_quiet (fail)
                                  go_wp2
                                  go_roundw
                                  case rel => exact ⟨k + 1, k, by omega, by go_num, rfl, Lib.hid (.inr ⟨k, by omega, rfl, c0⟩), hq.drewN _⟩
                                  case measure => simp [intOf]; omega
                                · have vm0 : (0 : Int) ≤ (m : Int) := by omega
                                  have vm1 : (m : Int) < (n3 : Int) := by omega
                                  have vm2 : ¬ (m : Int) < 0 := by omega
                                  have k3 := QS.k2 (Quad.fr Q hq.fr) (show m < n3 by omega)
                                  by_cases c1 : s.d (n3 + k) < s.d (n3 + m)
                                  · go_wp2
                                    go_quiet (fail)
                                    go_wp2
                                    go_roundw
                                    case rel => exact ⟨k + 1, k, by omega, by go_num, rfl, Lib.hid (.inr ⟨k, by omega, rfl, c0⟩), hq.drewN _⟩
                                    case measure => simp [intOf]; omega
                                  · go_wp2
                                    go_quiet (fail)
                                    go_wp2
                                    go_roundw
                                    case rel => exact ⟨k + 1, m, by omega, by go_num, rfl, Lib.hid (.inr ⟨m, by omega, rfl, hz1⟩), hq.drewN _⟩
                                    case measure => simp [intOf]; omega
                              · have e0 : l k = 0 := by have := HLe.out k hkt; omega
                                rw [e0] at k1
                                have HE0 := Lib.hid e0
                                clear e0 c0 k2
                                go_wp2
                                go_quiet (fail)
                                go_wp2
                                go_roundw
                                case rel =>
                                  have e0 := HE0.out
                                  refine ⟨k + 1, zb, by omega, by go_num, rfl, Lib.hid ?_, hq.drewN _⟩
                                  rcases hz.out with ⟨e, hz1⟩ | ⟨m, hm, e, hz1⟩
                                  · exact .inl ⟨e, fun j hj => by
                                      by_cases e2 : j = k
                                      · subst e2; omega
                                      · exact hz1 j (by omega)⟩
                                  · exact .inr ⟨m, by omega, e, hz1⟩
                                case measure => simp [intOf]; omega
                            · obtain rfl : n3 = k := by omega
                              rcases hz.out with ⟨_, h0⟩ | ⟨m, hm, rfl, hlm⟩
                              · exfalso
                                obtain ⟨i, hi, h1⟩ := sumG_pos (show 0 < sumG n3 l by rw [HRv.out.sl]; omega)
                                have := h0 i hi
                                omega
                              · obtain ⟨w7, rfl⟩ : ∃ wo : World, wo = wr := ⟨_, rfl⟩
                                have Q7 := Quad.fr Q hq.fr
                                have S6 := S'.out.fr Q7.f
                                have vm0 : (0 : Int) ≤ (m : Int) := by omega
                                have vm1 : (m : Int) < (n3 : Int) := by omega
                                have k1 := S6.celll hm
                                have k2 := QS.k2 Q7 hm
                                have z1 := S6.ol.frz m
                                have bm : -1000000000000000 ≤ s.d (n3 + m) ∧ s.d (n3 + m) ≤ 1073741824 := HBd.out (n3 + m) (by omega)
                                have hl40 : l m ≤ 40 := by
                                  have h1 := sumG_one (f := l) HLe.out hm
                                  have h2 := HRv.out.sl; have h3 := HRv.out.u40
                                  omega
                                have hlm' : 0 < l m := hlm
                                have S7 := S6.setl hm (v := l m - 1) (by unfold I64; omega)
                                have Hge := Lib.hid Q7.ge
                                have HA : Hid (AugAt n3 (cellT C) X s dep m m X) := Lib.hid (AugAt.start TT.out (by decide) (fun i k' _ _ => HT.out i k') (sumG_pos (by rw [HRv.out.sh]; omega)) HRv.out.flow.pos hm dep)
                                have o3 : Own w4.heap.size (w7.setCell ⟨gl, m, none⟩ (.int .i64 (l m - 1))) (some ⟨g3, 0, none⟩) n3 n3 (lst n3 (bfo n3 s.b)) := Q7.o3.setOther (p := ⟨gl, m, none⟩) (fun e => by injection e with e; change g3 = gl at e; have := G.out; have := Hge.out; omega) _
                                have o4 : Own w4.heap.size (w7.setCell ⟨gl, m, none⟩ (.int .i64 (l m - 1))) (some ⟨g4, 0, none⟩) n3 n3 (lst n3 fun k => s.b (n3 + k)) := Q7.o4.setOther (p := ⟨gl, m, none⟩) (fun e => by injection e with e; change g4 = gl at e; have := G.out; have := Hge.out; omega) _
                                clear Q Q7 S6 hq
                                go_wp2
                                go_loopw [23] (fun i wr => ∃ (y : Nat) (Y : Nat → Nat → Int), i = .int .i64 y ∧ FlI w B H gt gh gl n3 ct ch cl Y h (updI l m (l m - 1)) wr ∧ Hid (AugAt n3 (cellT C) X s dep m y Y) ∧ Own w4.heap.size wr (some ⟨g3, 0, none⟩) n3 n3 (lst n3 (bfo n3 s.b)) ∧ Own w4.heap.size wr (some ⟨g4, 0, none⟩) n3 n3 (lst n3 fun k => s.b (n3 + k))) (fun i _ => dep (n3 + (intOf i).toNat))
                                case atStart => exact ⟨m, X, rfl, S7, HA, o3, o4⟩
                                case round =>
                                  as_aux_lemma =>
                                    clear S7 HA o3 o4 k1 k2 z1
                                    obtain ⟨y, Y, rfl, S, HA, o3, o4⟩ := hrel
                                    obtain ⟨w8, rfl⟩ : ∃ wo : World, wo = wr := ⟨_, rfl⟩
                                    have ly : y < n3 := HA.out.lt
                                    have vy0 : (0 : Int) ≤ (y : Int) := by omega
                                    have vy1 : (y : Int) < (n3 : Int) := by omega
                                    have HS0 : Hid (∃ i, i < n3 ∧ 0 < h i) := Lib.hid (sumG_pos (by rw [HRv.out.sh]; omega))
                                    obtain ⟨i, hi, e1, e2, e3⟩ := TT.out.behind (by decide) (fun i k' _ _ => HT.out i k') HS0.out ly
                                    have vi0 : (0 : Int) ≤ (i : Int) := by omega
                                    have vi1 : (i : Int) < (n3 : Int) := by omega
                                    have k4 : w8.cell? ⟨g4, y, none⟩ = some (.int .i64 (i : Int)) := by
                                      have := o4.cellAt rfl ly
                                      rw [lst_nth _ ly] at this
                                      rw [this]; show some (Value.int .i64 (s.b (n3 + y))) = _; rw [e1]
                                    have b0 := Place.bd HRv.out HP.out (.inl ⟨y, ly, rfl, HA.out⟩) hi ly
                                    obtain ⟨r, cr, q1, q2, q3, q5, q4⟩ := S.spot hi ly
                                    have S2 := q4 (Y i y + 1) (by unfold I64; omega)
                                    have n3r : r ≠ g3 ∧ r ≠ g4 := by have := G.out; have := Hge.out; omega
                                    have o3' := o3.setOther (p := ⟨r, y, none⟩) (fun e => by injection e with e; change g3 = r at e; omega) (.int .i64 (Y i y + 1))
                                    have o4' := o4.setOther (p := ⟨r, y, none⟩) (fun e => by injection e with e; change g4 = r at e; omega) (.int .i64 (Y i y + 1))
                                    have d1 := Lib.hid (HD2.out _ _ (by omega) e1)
                                    have k3 := o3'.cellAt rfl hi
                                    rw [lst_nth _ hi] at k3
                                    have HE2 := Lib.hid e2; have HE3 := Lib.hid e3
                                    clear e1 e2 q4 o3 o4 S q5
                                    rcases TT.out.before hi e3 with ⟨b1, b2, b3⟩ | ⟨k2, hk2, b1, b2, b3⟩
                                    · have eb : bfo n3 s.b i = -1 := by unfold bfo; rw [b1]; rfl
                                      rw [eb] at k3
                                      have kh := S2.cellh hi
                                      have zh := S2.oh.frz i
                                      have b8 : h i ≤ 40 := by
                                        have h1 := sumG_one (f := h) HRv.out.flow.hpos hi
                                        have h2 := HRv.out.sh; have h3 := HRv.out.u40
                                        omega
                                      have S3 := S2.seth hi (v := h i - 1) (by unfold I64; omega)
                                      obtain ⟨R2, cst⟩ := RunS.next HRv.out TT.out (by decide) (fun i k' _ _ => HT.out i k') HA.out hm hlm' hi HE2.out b2 b3
                                      have HR2 := Lib.hid R2
                                      have HZ2 : Hid (z + s.d (n3 + m) = costN n3 (cellT C) (upd2 Y i y (Y i y + 1))) := Lib.hid (by rw [cst, HZ.out])
                                      have HZ3 : Hid (0 ≤ z + s.d (n3 + m) ∧ z + s.d (n3 + m) ≤ 253440) := Lib.hid (by
                                        rw [HZ2.out]
                                        exact costN_bd (HR2.out.bd HP.out) (fun i k' _ _ => HT.out i k') (by omega))
                                      have hv := HV.out
                                      clear S2 R2 cst eb b1 b2 e3 o3' o4'
                                      go_wp2
                                      go_roundw
                                      case rel => exact ⟨v, j + 1, z + s.d (n3 + m), _, _, _, by omega, by go_num, rfl, HZ3.out, HZ2, S3, HR2⟩
                                      case measure => simp [intOf]; omega
                                    · have eb : bfo n3 s.b i = (k2 : Int) := by unfold bfo; rw [b1, if_neg (by omega)]; omega
                                      rw [eb] at k3
                                      have vk0 : (0 : Int) ≤ (k2 : Int) := by omega
                                      have vk1 : (k2 : Int) < (n3 : Int) := by omega
                                      have d2 := Lib.hid (HD2.out _ _ (by omega) b1)
                                      have c0 := Place.bd HRv.out HP.out (.inr ⟨i, y, Y, hi, ly, rfl, HA.out, rfl, d1.out, HE2.out, HE3.out⟩) hi hk2
                                      obtain ⟨A2, _⟩ := HA.out.next hi hk2 d1.out d2.out HE2.out b3 b2
                                      have HA2 := Lib.hid A2
                                      obtain ⟨r2, cr2, p1, p2, p3, p5, p4⟩ := S2.spot hi hk2
                                      have S3 := p4 (upd2 Y i y (Y i y + 1) i k2 - 1) (by unfold I64; omega)
                                      have n3r2 : r2 ≠ g3 ∧ r2 ≠ g4 := by have := G.out; have := Hge.out; omega
                                      have o3'' := o3'.setOther (p := ⟨r2, k2, none⟩) (fun e => by injection e with e; change g3 = r2 at e; omega) (.int .i64 (upd2 Y i y (Y i y + 1) i k2 - 1))
                                      have o4'' := o4'.setOther (p := ⟨r2, k2, none⟩) (fun e => by injection e with e; change g4 = r2 at e; omega) (.int .i64 (upd2 Y i y (Y i y + 1) i k2 - 1))
                                      have d3 : Hid (dep (n3 + k2) < dep (n3 + y)) := Lib.hid (by have := d1.out; have := d2.out; omega)
                                      clear S2 A2 eb b1 b2 b3 e3 o3' o4' p4
                                      go_wp2
                                      go_roundw
                                      case rel => exact ⟨k2, _, rfl, S3, HA2, o3'', o4''⟩
                                      case measure => simp [intOf]; exact d3.out
                      · clear HF
                        go_wp2
                        go_loopw [18, 84] (fun c i wr => ∃ (i' : Nat) (b2 : Bool), i' ≤ n3 ∧ c = .bool b2 ∧ i = .int .i64 i' ∧ QS w4 g1 g2 g3 g4 n3 (rndTo farI n3 (cellT C) X s i') wr ∧ Hid (Chg n3 b2 s (rndTo farI n3 (cellT C) X s i'))) (fun _ i _ => n3 - (intOf i).toNat)
                        case atStart => exact ⟨0, false, Nat.zero_le _, rfl, rfl, Q, Lib.hid (Chg.no _ _)⟩
                        case round =>
                          as_aux_lemma =>
                            clear Q
                            obtain ⟨i, b2, hi, rfl, rfl, Q, HC⟩ := hrel
                            obtain ⟨wi, rfl⟩ : ∃ wo : World, wo = wr := ⟨_, rfl⟩
                            by_cases hit : i < n3
                            · have vi0 : (0 : Int) ≤ (i : Int) := by omega
                              have vi1 : (i : Int) < (n3 : Int) := by omega
                              go_wp2
                              go_loopw [18, 88] (fun c i2 wr => ∃ (k : Nat) (b3 : Bool), k ≤ n3 ∧ c = .bool b3 ∧ i2 = .int .i64 k ∧ QS w4 g1 g2 g3 g4 n3 (rowTo farI n3 (cellT C) X i (rndTo farI n3 (cellT C) X s i) k) wr ∧ Hid (Chg n3 b3 s (rowTo farI n3 (cellT C) X i (rndTo farI n3 (cellT C) X s i) k))) (fun _ i _ => n3 - (intOf i).toNat)
                              case atStart => exact ⟨0, b2, Nat.zero_le _, rfl, rfl, Q, HC⟩
                              case round =>
                                as_aux_lemma =>
                                  clear Q HC
                                  obtain ⟨k, b3, hk, rfl, rfl, Q, HC⟩ := hrel
                                  obtain ⟨wk, rfl⟩ : ∃ wo : World, wo = wr := ⟨_, rfl⟩
                                  by_cases hkt : k < n3
                                  · have vk0 : (0 : Int) ≤ (k : Int) := by omega
                                    have vk1 : (k : Int) < (n3 : Int) := by omega
                                    have HStp : Hid (Steps farI (Arc n3 (cellT C) X) (2 * n3) (startBF farI n3 h) (rowTo farI n3 (cellT C) X i (rndTo farI n3 (cellT C) X s i) k)) := Lib.hid (HS.out.trans (at_steps s hit hk))
                                    have HN1 : Hid (rowTo farI n3 (cellT C) X i (rndTo farI n3 (cellT C) X s i) (k + 1) = relP farI n3 (cellT C) X i k (rowTo farI n3 (cellT C) X i (rndTo farI n3 (cellT C) X s i) k)) := Lib.hid rfl
                                    generalize rowTo farI n3 (cellT C) X i (rndTo farI n3 (cellT C) X s i) k = t at Q HStp HN1 HC
                                    have HSt1 : Hid (Steps farI (Arc n3 (cellT C) X) (2 * n3) (startBF farI n3 h) (rlx farI (cellT C i k) i (n3 + k) t)) := Lib.hid (HStp.out.tail (by omega) (by omega) (.inl ⟨i, k, hit, hkt, rfl, rfl, rfl⟩))
                                    rw [relP] at HN1
                                    have hb1 : -1000000000000000 ≤ t.d i ∧ t.d i ≤ 1073741824 := HLow.out t HStp.out i (by omega)
                                    have hb2 : -1000000000000000 ≤ t.d (n3 + k) ∧ t.d (n3 + k) ≤ 1073741824 := HLow.out t HStp.out (n3 + k) (by omega)
                                    have hcb := HT.out i k
                                    obtain ⟨rc, zc, mc, cc, q1, q2, qm⟩ := (Sc.out.fr (S'.out.f.trans Q.f)).num rfl hit (k := k) (by rw [HL.out i hit]; exact hkt)
                                    obtain rfl : n3 = mc := by rw [qm]; exact (HL.out i hit).symm
                                    clear qm
                                    have e1 : IntKind.i64.wrap (t.d i + cellT C i k) = t.d i + cellT C i k := IntWalk.i64_in _ (by omega)
                                    go_upto_region 25 with fail
                                    go_cut [114] from 91 to 114 (fun b wx => ∃ bb : Bool, b = .bool bb ∧ (bb = true ↔ (t.d i < 1073741824 ∧ t.d i + cellT C i k < t.d (n3 + k))) ∧ Qt wk wx)
                                    case first =>
                                      as_aux_lemma =>
                                        have k1 := QS.k1 Q hit; have k2 := QS.k2 Q hkt
                                        by_cases c1 : t.d i < 1073741824
                                        · by_cases c2 : t.d i + cellT C i k < t.d (n3 + k)
                                          · go_quiet (fail)
                                            go_wp2_with fail
                                            go_meet
                                            exact ⟨true, rfl, ⟨fun _ => ⟨c1, c2⟩, fun _ => rfl⟩, (Qt.refl _).drewN _⟩
                                          · go_quiet (fail)
                                            go_wp2_with fail
                                            go_meet
                                            exact ⟨false, rfl, ⟨fun e => (by cases e), fun e => absurd e.2 (by omega)⟩, (Qt.refl _).drewN _⟩
                                        · go_quiet (fail)
                                          go_wp2_with fail
                                          go_meet
                                          exact ⟨false, rfl, ⟨fun e => (by cases e), fun e => absurd e.1 (by omega)⟩, (Qt.refl _).drewN _⟩
                                    case rest =>
                                      obtain ⟨bb, rfl, hbb, hq⟩ := hcut
                                      obtain ⟨w7, rfl⟩ : ∃ wz : World, wz = wc := ⟨_, rfl⟩
                                      have Q1 := Quad.fr Q hq.fr
                                      clear Q q1 q2 hq
                                      go_upto_if 114 with fail
                                      go_cut [18] from 115 to 133 (fun c wx => ∃ b4 : Bool, c = .bool b4 ∧ QS w4 g1 g2 g3 g4 n3 (rlx farI (cellT C i k) i (n3 + k) t) wx ∧ Hid (Chg n3 b4 s (rlx farI (cellT C i k) i (n3 + k) t)))
                                      case first =>
                                        as_aux_lemma =>
                                          cases bb
                                          · have hn : rlx farI (cellT C i k) i (n3 + k) t = t := forth_no (fun e => by have := hbb.2 e; cases this)
                                            have Q2 : QS w4 g1 g2 g3 g4 n3 (rlx farI (cellT C i k) i (n3 + k) t) w7 := by rw [hn]; exact Q1
                                            have HC2 : Hid (Chg n3 b3 s (rlx farI (cellT C i k) i (n3 + k) t)) := Lib.hid (by rw [hn]; exact HC.out)
                                            clear Q1 hn
                                            go_wp2_with fail
                                            go_meet
                                            exact ⟨b3, rfl, Q2, HC2⟩
                                          · obtain ⟨c1, c2⟩ := hbb.1 rfl
                                            have HC2 : Hid (Chg n3 true s (rlx farI (cellT C i k) i (n3 + k) t)) := Lib.hid (HC.out.yes (by omega) c1 c2)
                                            obtain ⟨rc, zc, mc, cc, q1, q2, qm⟩ := (Sc.out.fr (S'.out.f.trans Q1.f)).num rfl hit (k := k) (by rw [HL.out i hit]; exact hkt)
                                            obtain rfl : n3 = mc := by rw [qm]; exact (HL.out i hit).symm
                                            have k1 := QS.k1 Q1 hit
                                            have z2 := Q1.o2.frz k; have k2 := QS.k2 Q1 hkt
                                            have Q2 := Quad.set2 Q1 hkt (v := t.d i + cellT C i k) (by unfold I64; omega)
                                            have z4 := Q2.o4.frz k; have k4 := Q2.c4 hkt
                                            have Q3 : Hid (QS w4 g1 g2 g3 g4 n3 (rlx farI (cellT C i k) i (n3 + k) t) (((w7.setCell ⟨g2, k, none⟩ (.int .i64 (t.d i + cellT C i k))).setCell ⟨g4, k, none⟩ (.int .i64 (i : Int))).drew)) := Lib.hid (by
                                              rw [rlx_yes c1 c2]; exact Quad.drew (QS.up Q1 hit hkt (by unfold I64; omega) (by omega)))
                                            clear Q1 Q2 qm hbb
                                            go_upto_region 26 with fail
                                            go_region
                                            go_wp2_with fail
                                            go_meet
                                            exact ⟨true, rfl, Q3.out, HC2⟩
                                      case rest =>
                                        obtain ⟨b4, rfl, Q2, HC2⟩ := hcut
                                        obtain ⟨w8, rfl⟩ : ∃ wz : World, wz = wc := ⟨_, rfl⟩
                                        clear Q1 hb1 hb2 hbb HC e1
                                        generalize rlx farI (cellT C i k) i (n3 + k) t = t2 at Q2 HSt1 HN1 HC2
                                        have hb1 : -1000000000000000 ≤ t2.d i ∧ t2.d i ≤ 1073741824 := HLow.out t2 HSt1.out i (by omega)
                                        have hb2 : -1000000000000000 ≤ t2.d (n3 + k) ∧ t2.d (n3 + k) ≤ 1073741824 := HLow.out t2 HSt1.out (n3 + k) (by omega)
                                        obtain ⟨rc, zc, mc, cc, q1, q2, qm⟩ := (Sc.out.fr (S'.out.f.trans Q2.f)).num rfl hit (k := k) (by rw [HL.out i hit]; exact hkt)
                                        obtain rfl : n3 = mc := by rw [qm]; exact (HL.out i hit).symm
                                        obtain ⟨r, cr, p1, p2, _, _, _⟩ := (S'.out.fr Q2.f).spot hit hkt
                                        clear qm
                                        have e1 : IntKind.i64.wrap (t2.d (n3 + k) - cellT C i k) = t2.d (n3 + k) - cellT C i k := IntWalk.i64_in _ (by omega)
                                        go_upto_region 27 with fail
                                        go_cut [167] from 134 to 167 (fun b wx => ∃ bb : Bool, b = .bool bb ∧ (bb = true ↔ (0 < X i k ∧ t2.d (n3 + k) < 1073741824 ∧ t2.d (n3 + k) - cellT C i k < t2.d i)) ∧ Qt w8 wx)
                                        case first =>
                                          as_aux_lemma =>
                                            have k1 := QS.k1 Q2 hit; have k2 := QS.k2 Q2 hkt
                                            by_cases c0 : 0 < X i k
                                            · by_cases c1 : t2.d (n3 + k) < 1073741824
                                              · by_cases c2 : t2.d (n3 + k) - cellT C i k < t2.d i
                                                · go_quiet (fail)
                                                  go_wp2_with fail
                                                  go_meet
                                                  exact ⟨true, rfl, ⟨fun _ => ⟨c0, c1, c2⟩, fun _ => rfl⟩, (Qt.refl _).drewN _⟩
                                                · go_quiet (fail)
                                                  go_wp2_with fail
                                                  go_meet
                                                  exact ⟨false, rfl, ⟨fun e => (by cases e), fun e => absurd e.2.2 (by omega)⟩, (Qt.refl _).drewN _⟩
                                              · go_quiet (fail)
                                                go_wp2_with fail
                                                go_meet
                                                exact ⟨false, rfl, ⟨fun e => (by cases e), fun e => absurd e.2.1 (by omega)⟩, (Qt.refl _).drewN _⟩
                                            · go_quiet (fail)
                                              go_wp2_with fail
                                              go_meet
                                              exact ⟨false, rfl, ⟨fun e => (by cases e), fun e => absurd e.1 (by omega)⟩, (Qt.refl _).drewN _⟩
                                        case rest =>
                                          obtain ⟨bb, rfl, hbb, hq⟩ := hcut
                                          obtain ⟨w9, rfl⟩ : ∃ wz : World, wz = wc := ⟨_, rfl⟩
                                          have Q3 := Quad.fr Q2 hq.fr
                                          clear Q2 q1 q2 hq p1 p2
                                          go_upto_if 167 with fail
                                          cases bb
                                          · rw [back_no (fun e => by have := hbb.2 e; cases this)] at HN1
                                            have Q4 : QS w4 g1 g2 g3 g4 n3 (rowTo farI n3 (cellT C) X i (rndTo farI n3 (cellT C) X s i) (k + 1)) w9 := by rw [HN1.out]; exact Q3
                                            have HC4 : Hid (Chg n3 b4 s (rowTo farI n3 (cellT C) X i (rndTo farI n3 (cellT C) X s i) (k + 1))) := Lib.hid (by rw [HN1.out]; exact HC2.out)
                                            clear Q3 HC2 hbb e1
                                            go_wp2
                                            go_roundw
                                            case rel => exact ⟨k + 1, b4, by omega, rfl, by go_num, Q4, HC4⟩
                                            case measure => simp [intOf]; omega
                                          · obtain ⟨c0, c1, c2⟩ := hbb.1 rfl
                                            obtain ⟨rc, zc, mc, cc, q1, q2, qm⟩ := (Sc.out.fr (S'.out.f.trans Q3.f)).num rfl hit (k := k) (by rw [HL.out i hit]; exact hkt)
                                            obtain rfl : n3 = mc := by rw [qm]; exact (HL.out i hit).symm
                                            have HC4 : Hid (Chg n3 true s (rowTo farI n3 (cellT C) X i (rndTo farI n3 (cellT C) X s i) (k + 1))) := Lib.hid (by
                                              rw [HN1.out, if_pos c0]; exact HC2.out.yes (by omega) c1 (by omega))
                                            have k1 := QS.k1 Q3 hit; have k2 := QS.k2 Q3 hkt
                                            have z1 := Q3.o1.frz i
                                            have Q4 := Quad.set1 Q3 hit (v := t2.d (n3 + k) - cellT C i k) (by unfold I64; omega)
                                            have z3 := Q4.o3.frz i; have k3 := Q4.c3 hit
                                            have Q5 : Hid (QS w4 g1 g2 g3 g4 n3 (rowTo farI n3 (cellT C) X i (rndTo farI n3 (cellT C) X s i) (k + 1)) (((w9.setCell ⟨g1, i, none⟩ (.int .i64 (t2.d (n3 + k) - cellT C i k))).setCell ⟨g3, i, none⟩ (.int .i64 (k : Int))).drew)) := Lib.hid (by
                                              rw [HN1.out, back_yes ⟨c0, c1, c2⟩]; exact Quad.drew (QS.down Q3 hit hkt (by unfold I64; omega) (by omega)))
                                            clear Q3 Q4 qm hbb HC2
                                            go_upto_region 28 with fail
                                            go_region
                                            go_wp2
                                            go_roundw
                                            case rel => exact ⟨k + 1, true, by omega, rfl, by go_num, Q5.out, HC4⟩
                                            case measure => simp [intOf]; omega
                                  · obtain rfl : n3 = k := by omega
                                    go_wp2
                                    go_roundw
                                    case rel => exact ⟨i + 1, b3, by omega, rfl, by go_num, Q, HC⟩
                                    case measure => simp [intOf]; omega
                            · obtain rfl : n3 = i := by omega
                              have HSt : Hid (Steps farI (Arc n3 (cellT C) X) (2 * n3) (startBF farI n3 h) (rndTo farI n3 (cellT C) X s n3)) := Lib.hid (HS.out.trans (rndTo_steps _ (Nat.zero_le _) (Nat.le_refl _)))
                              have HG2 : Hid ((sumG (2 * n3) (rndTo farI n3 (cellT C) X s n3).d + 16000000000000000).toNat + (if b2 = true then 1 else 0) ≤ (sumG (2 * n3) s.d + 16000000000000000).toNat ∧ (sumG (2 * n3) s.d + 16000000000000000).toNat < gk) := Lib.hid (by
                                have h1 := HG.out
                                simp only [if_true] at h1
                                have h2 := sumG_ge (fun y hy => (HLow.out _ HSt.out y hy).1) (by omega : 2 * n3 ≤ 16)
                                cases b2
                                · rw [HC.out.1 rfl]; simp; omega
                                · have := HC.out.2 rfl; simp; omega)
                              have HF : Hid (b2 = false → Fix farI (Arc n3 (cellT C) X) (2 * n3) (rndTo farI n3 (cellT C) X s n3)) := Lib.hid (fun e => by have h1 := HC.out.1 e; rw [h1]; exact rnd_fix h1)
                              clear HG
                              go_wp2
                              go_roundg ((sumG (2 * n3) s.d + 16000000000000000).toNat)
                              case rel => exact ⟨_, b2, rfl, Q, HSt, HF, Lib.hid HG2.out.1⟩
                              case measure => exact HG2.out.2
      · obtain rfl : u = 0 := by omega
        have HV : Hid (leastV p q C = z) := Lib.hid (by
          rw [HZ.out]
          refine leastV_is HB.out ⟨farI, X, h, l, ?_, ?_⟩
          · rw [HLen.out]; exact HR.out
          · rw [HLen.out])
        have HF := Lib.hid S.f
        clear S HR HZ
        go_wp2
        go_ret2
        exact ⟨by rw [HV.out, HB.out]; rfl, HF.out⟩
end Go.Proofs.Ytboekndojgbkfaa
