import Derived.Test.YtojipjjfndgbhaaHouse
/- Contracts of the laws' functions on trees and houses: sizes, copies, comparisons, marks. -/
set_option linter.unusedVariables false
namespace Go.Proofs.Ytojipjjfndgbhaa
open Go.ChangeShapes Go.WideShapes Go.ChangeAt Go.RowKit

def szI (n : Nat) (l : Int) : Int := if l - n < 0 then -1 else l - n
def szT (n m : Nat) (l : Int) : Int := if szI n l < 0 then -1 else szI m (szI n l)
def szH (n m k : Nat) (l : Int) : Int := if szT n m l < 0 then -1 else szI k (szT n m l)
theorem szI_fit {n : Nat} {l : Int} (h : ¬ szI n l < 0) : (n : Int) ≤ l ∧ szI n l = l - n := by unfold szI at h ⊢; split at h <;> simp_all <;> omega
theorem szI_rng (n : Nat) (l : Int) (h : 0 ≤ l) : -1 ≤ szI n l ∧ szI n l ≤ l := by unfold szI; split <;> omega
theorem szT_fit {n m : Nat} {l : Int} (h : ¬ szT n m l < 0) : (n : Int) ≤ l ∧ (n : Int) + m ≤ l ∧ szT n m l = l - n - m := by
  unfold szT at h ⊢
  by_cases h1 : szI n l < 0
  · rw [if_pos h1] at h; simp at h
  · rw [if_neg h1] at h ⊢
    have := szI_fit h1; have := szI_fit h; omega
theorem szT_rng (n m : Nat) (l : Int) (h : 0 ≤ l) : -1 ≤ szT n m l ∧ szT n m l ≤ l := by
  unfold szT; have := szI_rng n l h
  split
  · omega
  · have := szI_rng m (szI n l) (by omega); omega
theorem szH_fit {n m k : Nat} {l : Int} (h : ¬ szH n m k l < 0) : (n : Int) ≤ l ∧ (m : Int) ≤ l ∧ (k : Int) ≤ l ∧ szH n m k l = l - n - m - k := by
  unfold szH at h ⊢
  by_cases h1 : szT n m l < 0
  · rw [if_pos h1] at h; simp at h
  · rw [if_neg h1] at h ⊢
    have := szT_fit h1; have := szI_fit h; omega
theorem szH_rng (n m k : Nat) (l : Int) (h : 0 ≤ l) : -1 ≤ szH n m k l ∧ szH n m k l ≤ l := by
  unfold szH; have := szT_rng n m l h
  split
  · omega
  · have := szI_rng k (szT n m l) (by omega); omega

theorem szIntS_any (w : World) (a : Option Addr) (n c : Nat) (l : Int) (hn : n ≤ 9223372036854775807) (h0 : 0 ≤ l) (h1 : l ≤ 1048576) :
    Calls Try.prog 67 #[.slice a n c, .int .i64 l] w fun e w' => e = .returned (.int .i64 (szI n l)) ∧ w = w' := by
  by_cases h : l - (n : Int) < 0
  · have HV : Hid (szI n l = -1) := Lib.hid (by rw [szI, if_pos h])
    go_enter Try.func67, Try.ntmps67
    go_wp2
    go_ret
    exact ⟨by rw [HV.out]; rfl, rfl⟩
  · have HV : Hid (szI n l = l - (n : Int)) := Lib.hid (by rw [szI, if_neg h])
    go_enter Try.func67, Try.ntmps67
    go_wp2
    go_ret
    exact ⟨by rw [HV.out]; rfl, rfl⟩

theorem szTree_any (w : World) (p q : Option Addr) (n c m d : Nat) (l : Int) (hn : n ≤ 9223372036854775807) (hm : m ≤ 9223372036854775807) (h0 : 0 ≤ l) (h1 : l ≤ 1048576) :
    Calls Try.prog 20 #[.agg #[.slice p n c, .slice q m d], .int .i64 l] w fun e w' => e = .returned (.int .i64 (szT n m l)) ∧ Fr w w' := by
  have hfr : Fr w (w.alloc (.cells #[.slice p n c, .slice q m d] 24)) := (Fr.refl w).alloc _
  have r1 := szI_rng n l h0
  by_cases h : szI n l < 0
  · have HV : Hid (szT n m l = -1) := Lib.hid (by rw [szT, if_pos h])
    go_enter Try.func20, Try.ntmps20
    go_wp2_with fail
    refine (szIntS_any _ _ _ _ _ hn h0 h1).mono ?_
    rintro e w' ⟨rfl, rfl⟩
    go_wp2
    go_ret
    exact ⟨by rw [HV.out]; rfl, hfr⟩
  · have HV : Hid (szT n m l = szI m (szI n l)) := Lib.hid (by rw [szT, if_neg h])
    have r2 := szI_rng m (szI n l) (by omega)
    go_enter Try.func20, Try.ntmps20
    go_wp2_with fail
    refine (szIntS_any _ _ _ _ _ hn h0 h1).mono ?_
    rintro e w' ⟨rfl, rfl⟩
    go_wp2_with fail
    refine (szIntS_any _ _ _ _ _ hm (by omega) (by omega)).mono ?_
    rintro e w' ⟨rfl, rfl⟩
    by_cases h3 : szI m (szI n l) < 0
    · have HX : Hid (szI m (szI n l) = -1) := Lib.hid (by omega)
      go_wp2
      go_ret
      exact ⟨by rw [HV.out, HX.out]; rfl, hfr⟩
    · go_wp2
      go_ret
      exact ⟨by rw [HV.out]; rfl, hfr⟩

theorem szHouse_any (w : World) (p q a : Option Addr) (n c m d k b : Nat) (x s u v l : Int) (hn : n ≤ 9223372036854775807) (hm : m ≤ 9223372036854775807) (hk : k ≤ 9223372036854775807) (h0 : 0 ≤ l) (h1 : l ≤ 1048576) :
    Calls Try.prog 15 #[.agg #[.slice p n c, .slice q m d, .slice a k b, .int .i64 x, .int .i64 s, .int .i64 u, .int .i64 v], .int .i64 l] w fun e w' => e = .returned (.int .i64 (szH n m k l)) ∧ Fr w w' := by
  have hfr : Fr w (w.alloc (.cells #[.slice p n c, .slice q m d, .slice a k b, .int .i64 x, .int .i64 s, .int .i64 u, .int .i64 v] 26)) := (Fr.refl w).alloc _
  have r1 := szT_rng n m l h0
  by_cases h : szT n m l < 0
  · have HV : Hid (szH n m k l = -1) := Lib.hid (by rw [szH, if_pos h])
    go_enter Try.func15, Try.ntmps15
    go_wp2_with fail
    refine (szTree_any _ _ _ _ _ _ _ _ hn hm h0 h1).mono ?_
    rintro e w1 ⟨rfl, f1⟩
    go_wp2
    go_ret
    exact ⟨by rw [HV.out]; rfl, hfr.trans f1⟩
  · have HV : Hid (szH n m k l = szI k (szT n m l)) := Lib.hid (by rw [szH, if_neg h])
    have r2 := szI_rng k (szT n m l) (by omega)
    go_enter Try.func15, Try.ntmps15
    go_wp2_with fail
    refine (szTree_any _ _ _ _ _ _ _ _ hn hm h0 h1).mono ?_
    rintro e w1 ⟨rfl, f1⟩
    have b2 := f1.newCell (j := 2) (v := .slice a k b) rfl
    go_wp2_with fail
    refine (szIntS_any _ _ _ _ _ hk (by omega) (by omega)).mono ?_
    rintro e w' ⟨rfl, rfl⟩
    by_cases h3 : szI k (szT n m l) < 0
    · have HX : Hid (szI k (szT n m l) = -1) := Lib.hid (by omega)
      go_wp2
      go_ret
      exact ⟨by rw [HV.out, HX.out]; rfl, hfr.trans f1⟩
    · go_wp2
      go_ret
      exact ⟨by rw [HV.out]; rfl, hfr.trans f1⟩

/-- A block known whole. -/
def Blk (w : World) (g : Nat) (cs : Array Value) (t : TypeId) : Prop := w.heap[g]? = some (.cells cs t (0, 0))
theorem Blk.new (w : World) (cs : Array Value) (t : TypeId) : Blk (w.alloc (.cells cs t)) w.heap.size cs t := heap_alloc_new w _
theorem Blk.lt {w : World} {g : Nat} {cs : Array Value} {t : TypeId} (h : Blk w g cs t) : g < w.heap.size := (Array.getElem?_eq_some_iff.1 h).1
theorem Blk.fr {w w' : World} {g : Nat} {cs : Array Value} {t : TypeId} (h : Blk w g cs t) (f : Fr w w') : Blk w' g cs t := by unfold Blk; rw [f.block g h.lt]; exact h
theorem Blk.alloc {w : World} {g : Nat} {cs : Array Value} {t : TypeId} (h : Blk w g cs t) (o : Obj) : Blk (w.alloc o) g cs t := h.fr ((Fr.refl w).alloc o)
theorem Blk.cell {w : World} {g : Nat} {cs : Array Value} {t : TypeId} (h : Blk w g cs t) {j : Nat} {v : Value} (hv : cs[j]? = some v) : w.cell? ⟨g, j, none⟩ = some v := by
  rw [cell_of_row w g j cs t (0, 0) h]; exact hv
theorem Blk.free {w : World} {g : Nat} {cs : Array Value} {t : TypeId} (h : Blk w g cs t) (j : Nat) : w.frozen? ⟨g, j, none⟩ = false := by
  unfold Blk at h; simp [World.frozen?, h]
theorem Blk.set {w : World} {g : Nat} {cs : Array Value} {t : TypeId} (h : Blk w g cs t) (j : Nat) (v : Value) : Blk (w.setCell ⟨g, j, none⟩ v) g (cs.setIfInBounds j v) t := by
  unfold Blk at h ⊢; simp [World.setCell, Array.getElem?_modify, h]
theorem Blk.grown {w w' : World} {g : Nat} {cs : Array Value} {t : TypeId} {row : Option Nat} (h : Blk w g cs t) (hg : w.grownBy w' row) (hr : row ≠ some g) : Blk w' g cs t := by
  unfold Blk; rw [hg.block g h.lt (Ne.symm hr)]; exact h
theorem Blk.other {w : World} {g : Nat} {cs : Array Value} {t : TypeId} (h : Blk w g cs t) {p : Addr} (hp : p.block ≠ g) (v : Value) : Blk (w.setCell p v) g cs t :=
  h.grown (grownBy_setCell (grownBy_refl w (some p.block)) rfl v) (by simpa using hp)

theorem results_T {fn : Func} {k : Nat} (hr : fn.results = #[.cell k 29]) (tmps : Array Value) (w : World) (g : Nat) (v0 v1 : Value) (h : tmps[k]?.getD undef = .pointer (some ⟨g, 0, none⟩))
    (h0 : w.cell? ⟨g, 0, none⟩ = some v0) (h1 : w.cell? ⟨g, 1, none⟩ = some v1) : (results fn tmps).run Try.prog w = .ok (.agg #[v0, v1]) w := by
  simp [results, hr, go_sem, h, h0, h1]

/-- A new tree. -/
def RetT (P W : List Int) (w : World) (e : Ending) (w' : World) : Prop := ∃ (p : Option Addr) (n c : Nat) (q : Option Addr) (m d M : Nat), e = .returned (.agg #[.slice p n c, .slice q m d]) ∧
  Own w.heap.size w' p n c P ∧ Own M w' q m d W ∧ Within p w.heap.size M ∧ w.heap.size ≤ M ∧ M ≤ w'.heap.size ∧ Fr w w' ∧ n ≤ 1048576 ∧ m ≤ 1048576

theorem toTree_any (w : World) (p q : Option Addr) (n c m d : Nat) (P W : List Int) (hP : SL w p n c P) (hW : SL w q m d W) (hn : n ≤ 1048576) (hm : m ≤ 1048576) :
    Calls Try.prog 22 #[.agg #[.slice p n c, .slice q m d]] w (RetT P W w) := by
  have hb0 := ((Blk.new w #[.slice p n c, .slice q m d] 24).alloc (.cells #[.slice none 0 0, .slice none 0 0] 29)).alloc (.cells #[.slice none 0 0, .slice none 0 0] 29)
  have hb1 := (Blk.new (w.alloc (.cells #[.slice p n c, .slice q m d] 24)) #[.slice none 0 0, .slice none 0 0] 29).alloc (.cells #[.slice none 0 0, .slice none 0 0] 29)
  have hb2 := Blk.new ((w.alloc (.cells #[.slice p n c, .slice q m d] 24)).alloc (.cells #[.slice none 0 0, .slice none 0 0] 29)) #[.slice none 0 0, .slice none 0 0] 29
  have hfr : Fr w (((w.alloc (.cells #[.slice p n c, .slice q m d] 24)).alloc (.cells #[.slice none 0 0, .slice none 0 0] 29)).alloc (.cells #[.slice none 0 0, .slice none 0 0] 29)) := (((Fr.refl w).alloc _).alloc _).alloc _
  simp only [World.size_alloc] at hb1 hb2
  have H0 := Lib.hid hb0; have H1 := Lib.hid hb1; have H2 := Lib.hid hb2
  clear hb0 hb1 hb2
  have c00 := H0.out.cell (j := 0) rfl
  go_enter Try.func22, Try.ntmps22
  go_wp2_with fail
  refine (toIntS_any _ _ _ _ _ (hP.fr hfr) hn).mono ?_
  rintro e w1 ⟨a1, n1, c1, rfl, o1, f1, m1⟩
  have z1 := f1.size
  simp only [World.size_alloc] at z1
  have g0 := Lib.hid (H0.out.fr f1); have g1 := Lib.hid (H1.out.fr f1); have g2 := Lib.hid (H2.out.fr f1)
  have k1 := g0.out.cell (j := 1) rfl
  have k2 := g2.out.cell (j := 0) rfl
  have k3 := g2.out.free 0
  clear c00
  go_wp2_with fail
  have hF1 := (hfr.trans f1).setCell (p := ⟨w.heap.size + 1 + 1, 0, none⟩) (by simp; omega) (.slice a1 n1 c1)
  have o1' := o1.setOther (p := ⟨w.heap.size + 1 + 1, 0, none⟩) (fun e => by have := o1.blk _ e; simp at this; omega) (.slice a1 n1 c1)
  have g0' := Lib.hid (g0.out.other (p := ⟨w.heap.size + 1 + 1, 0, none⟩) (by simp; omega) (.slice a1 n1 c1))
  have g1' := Lib.hid (g1.out.other (p := ⟨w.heap.size + 1 + 1, 0, none⟩) (by simp) (.slice a1 n1 c1))
  have g2' := Lib.hid (g2.out.set 0 (.slice a1 n1 c1))
  have W1 : Within a1 w.heap.size w1.heap.size := fun k hk => by have := o1.blk k hk; simp at this; omega
  clear k1 k2 k3 g0 g1 g2 o1
  refine (toIntS_any _ _ _ _ _ (hW.fr hF1) hm).mono ?_
  rintro e w2 ⟨a2, n2, c2, rfl, o2, f2, m2⟩
  have z2 := f2.size
  have d0 := g1'.out.fr f2
  have d1 := g2'.out.fr f2
  have k1 := d1.cell (j := 0) (v := .slice a1 n1 c1) rfl
  have k2 := d1.cell (j := 1) (v := .slice none 0 0) rfl
  have k3 := d1.free 1
  have k4 := d0.cell (j := 0) rfl
  have k5 := d0.cell (j := 1) rfl
  have k6 := d0.free 0
  have k7 := d0.free 1
  have D0 := Lib.hid d0
  have D1 := Lib.hid d1
  clear d0 d1
  go_wp2
  have E := ((D0.out.other (p := ⟨w.heap.size + 1 + 1, 1, none⟩) (by simp) (.slice a2 n2 c2)).set 0 (.slice a1 n1 c1)).set 1 (.slice a2 n2 c2)
  refine bodyPost_ret (results_T Try.results22 _ _ (w.heap.size + 1) (.slice a1 n1 c1) (.slice a2 n2 c2) rfl (E.cell rfl) (E.cell rfl)) rfl ?_
  refine ⟨a1, n1, c1, a2, n2, c2, w1.heap.size, rfl, ?_, ?_, W1, by omega, by simpa using z2, ?_, m1, m2⟩
  · exact ((((o1'.mono (by simp; omega)).fr f2).setOther (fun e => by have := o1'.blk _ e; simp at this; omega) _).setOther (fun e => by have := o1'.blk _ e; simp at this; omega) _).setOther (fun e => by have := o1'.blk _ e; simp at this; omega) _
  · exact ((o2.mono (by simp)).setOther (fun e => by have := o2.blk _ e; simp at this; omega) _).setOther (fun e => by have := o2.blk _ e; simp at this; omega) _ |>.setOther (fun e => by have := o2.blk _ e; simp at this; omega) _
  · exact (((hF1.trans f2).setCell (by simp; omega) _).setCell (by simp) _).setCell (by simp) _

theorem Own.past {L : Nat} {w : World} {a : Option Addr} {n cap : Nat} {xs : List Int} (h : Own L w a n cap xs) {p : Addr} (hp : p.block < L) (v : Value) : Own L (w.setCell p v) a n cap xs :=
  h.setOther (fun e => by have := h.blk _ e; omega) v
theorem results_H {fn : Func} {k : Nat} (hr : fn.results = #[.cell k 31]) (tmps : Array Value) (w : World) (g : Nat) (v0 v1 v2 v3 v4 v5 v6 : Value) (h : tmps[k]?.getD undef = .pointer (some ⟨g, 0, none⟩))
    (h0 : w.cell? ⟨g, 0, none⟩ = some v0) (h1 : w.cell? ⟨g, 1, none⟩ = some v1) (h2 : w.cell? ⟨g, 2, none⟩ = some v2) (h3 : w.cell? ⟨g, 3, none⟩ = some v3) (h4 : w.cell? ⟨g, 4, none⟩ = some v4) (h5 : w.cell? ⟨g, 5, none⟩ = some v5) (h6 : w.cell? ⟨g, 6, none⟩ = some v6) :
    (results fn tmps).run Try.prog w = .ok (.agg #[v0, v1, v2, v3, v4, v5, v6]) w := by
  simp [results, hr, go_sem, h, h0, h1, h2, h3, h4, h5, h6]
/-- A new house. -/
def RetH (P W X : List Int) (x s u v : Int) (w : World) (e : Ending) (w' : World) : Prop := ∃ (p : Option Addr) (n c : Nat) (q : Option Addr) (m d : Nat) (a : Option Addr) (l k M N : Nat),
  e = .returned (.agg #[.slice p n c, .slice q m d, .slice a l k, .int .i64 x, .int .i64 s, .int .i64 u, .int .i64 v]) ∧
  Own w.heap.size w' p n c P ∧ Own M w' q m d W ∧ Own N w' a l k X ∧ Within p w.heap.size M ∧ Within q M N ∧ w.heap.size ≤ M ∧ M ≤ N ∧ N ≤ w'.heap.size ∧ Fr w w' ∧ n ≤ 1048576 ∧ m ≤ 1048576 ∧ l ≤ 1048576

set_option maxRecDepth 100000 in
set_option maxHeartbeats 1000000 in
theorem toHouse_any (w : World) (p q a : Option Addr) (n c m d l b : Nat) (P W X : List Int) (x s u v : Int) (hP : SL w p n c P) (hW : SL w q m d W) (hX : SL w a l b X) (hn : n ≤ 1048576) (hm : m ≤ 1048576) (hl : l ≤ 1048576) :
    Calls Try.prog 17 #[.agg #[.slice p n c, .slice q m d, .slice a l b, .int .i64 x, .int .i64 s, .int .i64 u, .int .i64 v]] w (RetH P W X x s u v w) := by
  have hb0 := ((Blk.new w #[.slice p n c, .slice q m d, .slice a l b, .int .i64 x, .int .i64 s, .int .i64 u, .int .i64 v] 26).alloc (.cells #[.slice none 0 0, .slice none 0 0, .slice none 0 0, .int .i64 0, .int .i64 0, .int .i64 0, .int .i64 0] 31)).alloc (.cells #[.slice none 0 0, .slice none 0 0, .slice none 0 0, .int .i64 0, .int .i64 0, .int .i64 0, .int .i64 0] 31)
  have hb1 := (Blk.new (w.alloc (.cells #[.slice p n c, .slice q m d, .slice a l b, .int .i64 x, .int .i64 s, .int .i64 u, .int .i64 v] 26)) #[.slice none 0 0, .slice none 0 0, .slice none 0 0, .int .i64 0, .int .i64 0, .int .i64 0, .int .i64 0] 31).alloc (.cells #[.slice none 0 0, .slice none 0 0, .slice none 0 0, .int .i64 0, .int .i64 0, .int .i64 0, .int .i64 0] 31)
  have hb2 := Blk.new ((w.alloc (.cells #[.slice p n c, .slice q m d, .slice a l b, .int .i64 x, .int .i64 s, .int .i64 u, .int .i64 v] 26)).alloc (.cells #[.slice none 0 0, .slice none 0 0, .slice none 0 0, .int .i64 0, .int .i64 0, .int .i64 0, .int .i64 0] 31)) #[.slice none 0 0, .slice none 0 0, .slice none 0 0, .int .i64 0, .int .i64 0, .int .i64 0, .int .i64 0] 31
  have hfr : Fr w (((w.alloc (.cells #[.slice p n c, .slice q m d, .slice a l b, .int .i64 x, .int .i64 s, .int .i64 u, .int .i64 v] 26)).alloc (.cells #[.slice none 0 0, .slice none 0 0, .slice none 0 0, .int .i64 0, .int .i64 0, .int .i64 0, .int .i64 0] 31)).alloc (.cells #[.slice none 0 0, .slice none 0 0, .slice none 0 0, .int .i64 0, .int .i64 0, .int .i64 0, .int .i64 0] 31)) := (((Fr.refl w).alloc _).alloc _).alloc _
  simp only [World.size_alloc] at hb1 hb2
  have H0 := Lib.hid hb0; have H1 := Lib.hid hb1; have H2 := Lib.hid hb2
  clear hb0 hb1 hb2
  have c00 := H0.out.cell (j := 0) rfl
  have c01 := H0.out.cell (j := 1) rfl
  go_enter Try.func17, Try.ntmps17
  go_wp2_with fail
  refine (toTree_any _ _ _ _ _ _ _ _ _ (hP.fr hfr) (hW.fr hfr) hn hm).mono ?_
  rintro e w1 ⟨a1, n1, c1, a2, n2, c2, M, rfl, o1, o2, W1, y1, y2, f1, m1, m2⟩
  have z1 := f1.size
  simp only [World.size_alloc] at z1 y1
  have g0 := Lib.hid (H0.out.fr f1); have g1 := Lib.hid (H1.out.fr f1); have g2 := Lib.hid (H2.out.fr f1)
  have k1 := g0.out.cell (j := 2) rfl
  have k2 := g2.out.cell (j := 0) rfl
  have k2b := g2.out.cell (j := 1) rfl
  have k3 := g2.out.free 0
  have k4 := g2.out.free 1
  clear c00 c01
  go_wp2_with fail
  have hF1 := ((hfr.trans f1).setCell (p := ⟨w.heap.size + 1 + 1, 0, none⟩) (by simp; omega) (.slice a1 n1 c1)).setCell (p := ⟨w.heap.size + 1 + 1, 1, none⟩) (by simp; omega) (.slice a2 n2 c2)
  have o1' := (o1.past (p := ⟨w.heap.size + 1 + 1, 0, none⟩) (by simp) (.slice a1 n1 c1)).past (p := ⟨w.heap.size + 1 + 1, 1, none⟩) (by simp) (.slice a2 n2 c2)
  have o2' := (o2.past (p := ⟨w.heap.size + 1 + 1, 0, none⟩) (by simp; omega) (.slice a1 n1 c1)).past (p := ⟨w.heap.size + 1 + 1, 1, none⟩) (by simp; omega) (.slice a2 n2 c2)
  have g0' := Lib.hid ((g0.out.other (p := ⟨w.heap.size + 1 + 1, 0, none⟩) (by simp; omega) (.slice a1 n1 c1)).other (p := ⟨w.heap.size + 1 + 1, 1, none⟩) (by simp; omega) (.slice a2 n2 c2))
  have g1' := Lib.hid ((g1.out.other (p := ⟨w.heap.size + 1 + 1, 0, none⟩) (by simp) (.slice a1 n1 c1)).other (p := ⟨w.heap.size + 1 + 1, 1, none⟩) (by simp) (.slice a2 n2 c2))
  have g2' := Lib.hid ((g2.out.set 0 (.slice a1 n1 c1)).set 1 (.slice a2 n2 c2))
  have W2 : Within a2 M w1.heap.size := o2.within
  clear k1 k2 k2b k3 k4 g0 g1 g2 o1 o2
  refine (toIntS_any _ _ _ _ _ (hX.fr hF1) hl).mono ?_
  rintro e w2 ⟨a3, n3, c3, rfl, o3, f2, m3⟩
  have z2 := f2.size
  have dd := g0'.out.fr f2
  have d0 := g1'.out.fr f2
  have d1 := g2'.out.fr f2
  have s0 := dd.cell (j := 3) rfl; have s1 := dd.cell (j := 4) rfl; have s2 := dd.cell (j := 5) rfl; have s3 := dd.cell (j := 6) rfl
  have k0 := d1.cell (j := 0) (v := .slice a1 n1 c1) rfl; have k1 := d1.cell (j := 1) (v := .slice a2 n2 c2) rfl; have k2 := d1.cell (j := 2) (v := .slice none 0 0) rfl
  have k3 := d1.cell (j := 3) (v := .int .i64 0) rfl; have k4 := d1.cell (j := 4) (v := .int .i64 0) rfl; have k5 := d1.cell (j := 5) (v := .int .i64 0) rfl; have k6 := d1.cell (j := 6) (v := .int .i64 0) rfl
  have q2 := d1.free 2; have q3 := d1.free 3; have q4 := d1.free 4; have q5 := d1.free 5; have q6 := d1.free 6
  have j0 := d0.cell (j := 0) rfl; have j1 := d0.cell (j := 1) rfl; have j2 := d0.cell (j := 2) rfl; have j3 := d0.cell (j := 3) rfl; have j4 := d0.cell (j := 4) rfl; have j5 := d0.cell (j := 5) rfl; have j6 := d0.cell (j := 6) rfl
  have i0 := d0.free 0; have i1 := d0.free 1; have i2 := d0.free 2; have i3 := d0.free 3; have i4 := d0.free 4; have i5 := d0.free 5; have i6 := d0.free 6
  have D0 := Lib.hid d0
  clear dd d0 d1
  go_wp2
  have E := ((((((((((((D0.out.other (p := ⟨w.heap.size + 1 + 1, 2, none⟩) (by simp) (.slice a3 n3 c3)).other (p := ⟨w.heap.size + 1 + 1, 3, none⟩) (by simp) (.int .i64 x)).other (p := ⟨w.heap.size + 1 + 1, 4, none⟩) (by simp) (.int .i64 s)).other (p := ⟨w.heap.size + 1 + 1, 5, none⟩) (by simp) (.int .i64 u)).other (p := ⟨w.heap.size + 1 + 1, 6, none⟩) (by simp) (.int .i64 v)).set 0 (.slice a1 n1 c1)).set 1 (.slice a2 n2 c2)).set 2 (.slice a3 n3 c3)).set 3 (.int .i64 x)).set 4 (.int .i64 s)).set 5 (.int .i64 u)).set 6 (.int .i64 v))
  simp only [List.setIfInBounds_toArray, List.set_cons_zero, List.set_cons_succ] at E
  refine bodyPost_ret (results_H Try.results17 _ _ (w.heap.size + 1) _ _ _ _ _ _ _ rfl (E.cell rfl) (E.cell rfl) (E.cell rfl) (E.cell rfl) (E.cell rfl) (E.cell rfl) (E.cell rfl)) rfl ?_
  refine ⟨a1, n1, c1, a2, n2, c2, a3, n3, c3, M, w1.heap.size, rfl, ?_, ?_, ?_, fun k hk => ?_, W2, by omega, by omega, by simpa using z2, ?_, m1, m2, m3⟩
  · have h := o1'.fr f2
    refine Own.mono ?_ (show w.heap.size ≤ (((w.alloc (.cells #[.slice p n c, .slice q m d, .slice a l b, .int .i64 x, .int .i64 s, .int .i64 u, .int .i64 v] 26)).alloc (.cells #[.slice none 0 0, .slice none 0 0, .slice none 0 0, .int .i64 0, .int .i64 0, .int .i64 0, .int .i64 0] 31)).alloc (.cells #[.slice none 0 0, .slice none 0 0, .slice none 0 0, .int .i64 0, .int .i64 0, .int .i64 0, .int .i64 0] 31)).heap.size by simp; omega)
    iterate 12 refine Own.past ?_ (by simp) _
    exact h
  · iterate 12 refine Own.past ?_ (by simp; omega) _
    exact o2'.fr f2
  · refine Own.mono ?_ (show w1.heap.size ≤ _ from (by simp : w1.heap.size ≤ ((w1.setCell ⟨w.heap.size + 1 + 1, 0, none⟩ (.slice a1 n1 c1)).setCell ⟨w.heap.size + 1 + 1, 1, none⟩ (.slice a2 n2 c2)).heap.size))
    iterate 12 refine Own.past ?_ (by simp; omega) _
    exact o3
  · have := W1 k hk; simp at this; omega
  · iterate 12 refine Fr.setCell ?_ (by dsimp only; omega) _
    exact hF1.trans f2

end Go.Proofs.Ytojipjjfndgbhaa
