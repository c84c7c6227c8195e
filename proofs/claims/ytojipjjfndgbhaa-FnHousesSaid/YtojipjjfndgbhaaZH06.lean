import Derived.Test.YtojipjjfndgbhaaZH05
import Derived.Test.YtojipjjfndgbhaaZH03
/- Contracts of the laws' functions on trees and houses: sizes, copies, comparisons, marks. -/
set_option linter.unusedVariables false
namespace Go.Proofs.Ytojipjjfndgbhaa
open Go.ChangeShapes Go.WideShapes Go.ChangeAt Go.RowKit

def szI (n : Nat) (l : Int) : Int := if l - n < 0 then -1 else l - n
def szT (n m : Nat) (l : Int) : Int := if szI n l < 0 then -1 else szI m (szI n l)
def szH (n m k : Nat) (l : Int) : Int := if szT n m l < 0 then -1 else szI k (szT n m l)
theorem szI_fit {n : Nat} {l : Int} (h : ¬ szI n l < 0) : (n : Int) ≤ l ∧ szI n l = l - n := by unfold szI at h ⊢; split at h <;> simp_all <;> omega
theorem szI_rng (n : Nat) (l : Int) (h : 0 ≤ l) : -1 ≤ szI n l ∧ szI n l ≤ l := by unfold szI; split <;> omega
theorem szT_fit {n m : Nat} {l : Int} (h : ¬ szT n m l < 0) : (n : Int) ≤ l ∧ (n : Int) + m ≤ l ∧ szT n m l = l - n - m := by
  unfold szT at h ⊢
  by_cases h1 : szI n l < 0
  · rw [if_pos h1] at h; simp at h
  · rw [if_neg h1] at h ⊢
    have := szI_fit h1; have := szI_fit h; omega
theorem szT_rng (n m : Nat) (l : Int) (h : 0 ≤ l) : -1 ≤ szT n m l ∧ szT n m l ≤ l := by
  unfold szT; have := szI_rng n l h
  split
  · omega
  · have := szI_rng m (szI n l) (by omega); omega
theorem szH_fit {n m k : Nat} {l : Int} (h : ¬ szH n m k l < 0) : (n : Int) ≤ l ∧ (m : Int) ≤ l ∧ (k : Int) ≤ l ∧ szH n m k l = l - n - m - k := by
  unfold szH at h ⊢
  by_cases h1 : szT n m l < 0
  · rw [if_pos h1] at h; simp at h
  · rw [if_neg h1] at h ⊢
    have := szT_fit h1; have := szI_fit h; omega
theorem szH_rng (n m k : Nat) (l : Int) (h : 0 ≤ l) : -1 ≤ szH n m k l ∧ szH n m k l ≤ l := by
  unfold szH; have := szT_rng n m l h
  split
  · omega
  · have := szI_rng k (szT n m l) (by omega); omega

theorem szIntS_any (w : World) (a : Option Addr) (n c : Nat) (l : Int) (hn : n ≤ 9223372036854775807) (h0 : 0 ≤ l) (h1 : l ≤ 1048576) :
    Calls Try.prog 67 #[.slice a n c, .int .i64 l] w fun e w' => e = .returned (.int .i64 (szI n l)) ∧ w = w' := by
  by_cases h : l - (n : Int) < 0
  · have HV : Hid (szI n l = -1) := Lib.hid (by rw [szI, if_pos h])
    go_enter Try.func67, Try.ntmps67
    go_wp2
    go_ret
    exact ⟨by rw [HV.out]; rfl, rfl⟩
  · have HV : Hid (szI n l = l - (n : Int)) := Lib.hid (by rw [szI, if_neg h])
    go_enter Try.func67, Try.ntmps67
    go_wp2
    go_ret
    exact ⟨by rw [HV.out]; rfl, rfl⟩

theorem szTree_any (w : World) (p q : Option Addr) (n c m d : Nat) (l : Int) (hn : n ≤ 9223372036854775807) (hm : m ≤ 9223372036854775807) (h0 : 0 ≤ l) (h1 : l ≤ 1048576) :
    Calls Try.prog 20 #[.agg #[.slice p n c, .slice q m d], .int .i64 l] w fun e w' => e = .returned (.int .i64 (szT n m l)) ∧ Fr w w' := by
  have hfr : Fr w (w.alloc (.cells #[.slice p n c, .slice q m d] 24)) := (Fr.refl w).alloc _
  have r1 := szI_rng n l h0
  by_cases h : szI n l < 0
  · have HV : Hid (szT n m l = -1) := Lib.hid (by rw [szT, if_pos h])
    go_enter Try.func20, Try.ntmps20
    go_wp2_with fail
    refine (szIntS_any _ _ _ _ _ hn h0 h1).mono ?_
    rintro e w' ⟨rfl, rfl⟩
    go_wp2
    go_ret
    exact ⟨by rw [HV.out]; rfl, hfr⟩
  · have HV : Hid (szT n m l = szI m (szI n l)) := Lib.hid (by rw [szT, if_neg h])
    have r2 := szI_rng m (szI n l) (by omega)
    go_enter Try.func20, Try.ntmps20
    go_wp2_with fail
    refine (szIntS_any _ _ _ _ _ hn h0 h1).mono ?_
    rintro e w' ⟨rfl, rfl⟩
    go_wp2_with fail
    refine (szIntS_any _ _ _ _ _ hm (by omega) (by omega)).mono ?_
    rintro e w' ⟨rfl, rfl⟩
    by_cases h3 : szI m (szI n l) < 0
    · have HX : Hid (szI m (szI n l) = -1) := Lib.hid (by omega)
      go_wp2
      go_ret
      exact ⟨by rw [HV.out, HX.out]; rfl, hfr⟩
    · go_wp2
      go_ret
      exact ⟨by rw [HV.out]; rfl, hfr⟩

theorem szHouse_any (w : World) (p q a : Option Addr) (n c m d k b : Nat) (x s u v l : Int) (hn : n ≤ 9223372036854775807) (hm : m ≤ 9223372036854775807) (hk : k ≤ 9223372036854775807) (h0 : 0 ≤ l) (h1 : l ≤ 1048576) :
    Calls Try.prog 15 #[.agg #[.slice p n c, .slice q m d, .slice a k b, .int .i64 x, .int .i64 s, .int .i64 u, .int .i64 v], .int .i64 l] w fun e w' => e = .returned (.int .i64 (szH n m k l)) ∧ Fr w w' := by
  have hfr : Fr w (w.alloc (.cells #[.slice p n c, .slice q m d, .slice a k b, .int .i64 x, .int .i64 s, .int .i64 u, .int .i64 v] 26)) := (Fr.refl w).alloc _
  have r1 := szT_rng n m l h0
  by_cases h : szT n m l < 0
  · have HV : Hid (szH n m k l = -1) := Lib.hid (by rw [szH, if_pos h])
    go_enter Try.func15, Try.ntmps15
    go_wp2_with fail
    refine (szTree_any _ _ _ _ _ _ _ _ hn hm h0 h1).mono ?_
    rintro e w1 ⟨rfl, f1⟩
    go_wp2
    go_ret
    exact ⟨by rw [HV.out]; rfl, hfr.trans f1⟩
  · have HV : Hid (szH n m k l = szI k (szT n m l)) := Lib.hid (by rw [szH, if_neg h])
    have r2 := szI_rng k (szT n m l) (by omega)
    go_enter Try.func15, Try.ntmps15
    go_wp2_with fail
    refine (szTree_any _ _ _ _ _ _ _ _ hn hm h0 h1).mono ?_
    rintro e w1 ⟨rfl, f1⟩
    have b2 := f1.newCell (j := 2) (v := .slice a k b) rfl
    go_wp2_with fail
    refine (szIntS_any _ _ _ _ _ hk (by omega) (by omega)).mono ?_
    rintro e w' ⟨rfl, rfl⟩
    by_cases h3 : szI k (szT n m l) < 0
    · have HX : Hid (szI k (szT n m l) = -1) := Lib.hid (by omega)
      go_wp2
      go_ret
      exact ⟨by rw [HV.out, HX.out]; rfl, hfr.trans f1⟩
    · go_wp2
      go_ret
      exact ⟨by rw [HV.out]; rfl, hfr.trans f1⟩

/-- A block known whole. -/
def Blk (w : World) (g : Nat) (cs : Array Value) (t : TypeId) : Prop := w.heap[g]? = some (.cells cs t (0, 0))
theorem Blk.new (w : World) (cs : Array Value) (t : TypeId) : Blk (w.alloc (.cells cs t)) w.heap.size cs t := heap_alloc_new w _
theorem Blk.lt {w : World} {g : Nat} {cs : Array Value} {t : TypeId} (h : Blk w g cs t) : g < w.heap.size := (Array.getElem?_eq_some_iff.1 h).1
theorem Blk.fr {w w' : World} {g : Nat} {cs : Array Value} {t : TypeId} (h : Blk w g cs t) (f : Fr w w') : Blk w' g cs t := by unfold Blk; rw [f.block g h.lt]; exact h
theorem Blk.alloc {w : World} {g : Nat} {cs : Array Value} {t : TypeId} (h : Blk w g cs t) (o : Obj) : Blk (w.alloc o) g cs t := h.fr ((Fr.refl w).alloc o)
theorem Blk.cell {w : World} {g : Nat} {cs : Array Value} {t : TypeId} (h : Blk w g cs t) {j : Nat} {v : Value} (hv : cs[j]? = some v) : w.cell? ⟨g, j, none⟩ = some v := by
  rw [cell_of_row w g j cs t (0, 0) h]; exact hv
theorem Blk.free {w : World} {g : Nat} {cs : Array Value} {t : TypeId} (h : Blk w g cs t) (j : Nat) : w.frozen? ⟨g, j, none⟩ = false := by
  unfold Blk at h; simp [World.frozen?, h]
theorem Blk.set {w : World} {g : Nat} {cs : Array Value} {t : TypeId} (h : Blk w g cs t) (j : Nat) (v : Value) : Blk (w.setCell ⟨g, j, none⟩ v) g (cs.setIfInBounds j v) t := by
  unfold Blk at h ⊢; simp [World.setCell, Array.getElem?_modify, h]
theorem Blk.grown {w w' : World} {g : Nat} {cs : Array Value} {t : TypeId} {row : Option Nat} (h : Blk w g cs t) (hg : w.grownBy w' row) (hr : row ≠ some g) : Blk w' g cs t := by
  unfold Blk; rw [hg.block g h.lt (Ne.symm hr)]; exact h
theorem Blk.other {w : World} {g : Nat} {cs : Array Value} {t : TypeId} (h : Blk w g cs t) {p : Addr} (hp : p.block ≠ g) (v : Value) : Blk (w.setCell p v) g cs t :=
  h.grown (grownBy_setCell (grownBy_refl w (some p.block)) rfl v) (by simpa using hp)

theorem results_T {fn : Func} {k : Nat} (hr : fn.results = #[.cell k 29]) (tmps : Array Value) (w : World) (g : Nat) (v0 v1 : Value) (h : tmps[k]?.getD undef = .pointer (some ⟨g, 0, none⟩))
    (h0 : w.cell? ⟨g, 0, none⟩ = some v0) (h1 : w.cell? ⟨g, 1, none⟩ = some v1) : (results fn tmps).run Try.prog w = .ok (.agg #[v0, v1]) w := by
  simp [results, hr, go_sem, h, h0, h1]

/-- A new tree. -/
def RetT (P W : List Int) (w : World) (e : Ending) (w' : World) : Prop := ∃ (p : Option Addr) (n c : Nat) (q : Option Addr) (m d M : Nat), e = .returned (.agg #[.slice p n c, .slice q m d]) ∧
  Own w.heap.size w' p n c P ∧ Own M w' q m d W ∧ Within p w.heap.size M ∧ w.heap.size ≤ M ∧ M ≤ w'.heap.size ∧ Fr w w' ∧ n ≤ 1048576 ∧ m ≤ 1048576

theorem toTree_any (w : World) (p q : Option Addr) (n c m d : Nat) (P W : List Int) (hP : SL w p n c P) (hW : SL w q m d W) (hn : n ≤ 1048576) (hm : m ≤ 1048576) :
    Calls Try.prog 22 #[.agg #[.slice p n c, .slice q m d]] w (RetT P W w) := by
  have hb0 := ((Blk.new w #[.slice p n c, .slice q m d] 24).alloc (.cells #[.slice none 0 0, .slice none 0 0] 29)).alloc (.cells #[.slice none 0 0, .slice none 0 0] 29)
  have hb1 := (Blk.new (w.alloc (.cells #[.slice p n c, .slice q m d] 24)) #[.slice none 0 0, .slice none 0 0] 29).alloc (.cells #[.slice none 0 0, .slice none 0 0] 29)
  have hb2 := Blk.new ((w.alloc (.cells #[.slice p n c, .slice q m d] 24)).alloc (.cells #[.slice none 0 0, .slice none 0 0] 29)) #[.slice none 0 0, .slice none 0 0] 29
  have hfr : Fr w (((w.alloc (.cells #[.slice p n c, .slice q m d] 24)).alloc (.cells #[.slice none 0 0, .slice none 0 0] 29)).alloc (.cells #[.slice none 0 0, .slice none 0 0] 29)) := (((Fr.refl w).alloc _).alloc _).alloc _
  simp only [World.size_alloc] at hb1 hb2
  have H0 := Lib.hid hb0; have H1 := Lib.hid hb1; have H2 := Lib.hid hb2
  clear hb0 hb1 hb2
  have c00 := H0.out.cell (j := 0) rfl
  go_enter Try.func22, Try.ntmps22
  go_wp2_with fail
  refine (toIntS_any _ _ _ _ _ (hP.fr hfr) hn).mono ?_
  rintro e w1 ⟨a1, n1, c1, rfl, o1, f1, m1⟩
  have z1 := f1.size
  simp only [World.size_alloc] at z1
  have g0 := Lib.hid (H0.out.fr f1); have g1 := Lib.hid (H1.out.fr f1); have g2 := Lib.hid (H2.out.fr f1)
  have k1 := g0.out.cell (j := 1) rfl
  have k2 := g2.out.cell (j := 0) rfl
  have k3 := g2.out.free 0
  clear c00
  go_wp2_with fail
  have hF1 := (hfr.trans f1).setCell (p := ⟨w.heap.size + 1 + 1, 0, none⟩) (by simp; omega) (.slice a1 n1 c1)
  have o1' := o1.setOther (p := ⟨w.heap.size + 1 + 1, 0, none⟩) (fun e => by have := o1.blk _ e; simp at this; omega) (.slice a1 n1 c1)
  have g0' := Lib.hid (g0.out.other (p := ⟨w.heap.size + 1 + 1, 0, none⟩) (by simp; omega) (.slice a1 n1 c1))
  have g1' := Lib.hid (g1.out.other (p := ⟨w.heap.size + 1 + 1, 0, none⟩) (by simp) (.slice a1 n1 c1))
  have g2' := Lib.hid (g2.out.set 0 (.slice a1 n1 c1))
  have W1 : Within a1 w.heap.size w1.heap.size := fun k hk => by have := o1.blk k hk; simp at this; omega
  clear k1 k2 k3 g0 g1 g2 o1
  refine (toIntS_any _ _ _ _ _ (hW.fr hF1) hm).mono ?_
  rintro e w2 ⟨a2, n2, c2, rfl, o2, f2, m2⟩
  have z2 := f2.size
  have d0 := g1'.out.fr f2
  have d1 := g2'.out.fr f2
  have k1 := d1.cell (j := 0) (v := .slice a1 n1 c1) rfl
  have k2 := d1.cell (j := 1) (v := .slice none 0 0) rfl
  have k3 := d1.free 1
  have k4 := d0.cell (j := 0) rfl
  have k5 := d0.cell (j := 1) rfl
  have k6 := d0.free 0
  have k7 := d0.free 1
  have D0 := Lib.hid d0
  have D1 := Lib.hid d1
  clear d0 d1
  go_wp2
  have E := ((D0.out.other (p := ⟨w.heap.size + 1 + 1, 1, none⟩) (by simp) (.slice a2 n2 c2)).set 0 (.slice a1 n1 c1)).set 1 (.slice a2 n2 c2)
  refine bodyPost_ret (results_T Try.results22 _ _ (w.heap.size + 1) (.slice a1 n1 c1) (.slice a2 n2 c2) rfl (E.cell rfl) (E.cell rfl)) rfl ?_
  refine ⟨a1, n1, c1, a2, n2, c2, w1.heap.size, rfl, ?_, ?_, W1, by omega, by simpa using z2, ?_, m1, m2⟩
  · exact ((((o1'.mono (by simp; omega)).fr f2).setOther (fun e => by have := o1'.blk _ e; simp at this; omega) _).setOther (fun e => by have := o1'.blk _ e; simp at this; omega) _).setOther (fun e => by have := o1'.blk _ e; simp at this; omega) _
  · exact ((o2.mono (by simp)).setOther (fun e => by have := o2.blk _ e; simp at this; omega) _).setOther (fun e => by have := o2.blk _ e; simp at this; omega) _ |>.setOther (fun e => by have := o2.blk _ e; simp at this; omega) _
  · exact (((hF1.trans f2).setCell (by simp; omega) _).setCell (by simp) _).setCell (by simp) _

theorem Own.past {L : Nat} {w : World} {a : Option Addr} {n cap : Nat} {xs : List Int} (h : Own L w a n cap xs) {p : Addr} (hp : p.block < L) (v : Value) : Own L (w.setCell p v) a n cap xs :=
  h.setOther (fun e => by have := h.blk _ e; omega) v
theorem results_H {fn : Func} {k : Nat} (hr : fn.results = #[.cell k 31]) (tmps : Array Value) (w : World) (g : Nat) (v0 v1 v2 v3 v4 v5 v6 : Value) (h : tmps[k]?.getD undef = .pointer (some ⟨g, 0, none⟩))
    (h0 : w.cell? ⟨g, 0, none⟩ = some v0) (h1 : w.cell? ⟨g, 1, none⟩ = some v1) (h2 : w.cell? ⟨g, 2, none⟩ = some v2) (h3 : w.cell? ⟨g, 3, none⟩ = some v3) (h4 : w.cell? ⟨g, 4, none⟩ = some v4) (h5 : w.cell? ⟨g, 5, none⟩ = some v5) (h6 : w.cell? ⟨g, 6, none⟩ = some v6) :
    (results fn tmps).run Try.prog w = .ok (.agg #[v0, v1, v2, v3, v4, v5, v6]) w := by
  simp [results, hr, go_sem, h, h0, h1, h2, h3, h4, h5, h6]
/-- A new house. -/
def RetH (P W X : List Int) (x s u v : Int) (w : World) (e : Ending) (w' : World) : Prop := ∃ (p : Option Addr) (n c : Nat) (q : Option Addr) (m d : Nat) (a : Option Addr) (l k M N : Nat),
  e = .returned (.agg #[.slice p n c, .slice q m d, .slice a l k, .int .i64 x, .int .i64 s, .int .i64 u, .int .i64 v]) ∧
  Own w.heap.size w' p n c P ∧ Own M w' q m d W ∧ Own N w' a l k X ∧ Within p w.heap.size M ∧ Within q M N ∧ w.heap.size ≤ M ∧ M ≤ N ∧ N ≤ w'.heap.size ∧ Fr w w' ∧ n ≤ 1048576 ∧ m ≤ 1048576 ∧ l ≤ 1048576

set_option maxRecDepth 100000 in
set_option maxHeartbeats 1000000 in
theorem toHouse_any (w : World) (p q a : Option Addr) (n c m d l b : Nat) (P W X : List Int) (x s u v : Int) (hP : SL w p n c P) (hW : SL w q m d W) (hX : SL w a l b X) (hn : n ≤ 1048576) (hm : m ≤ 1048576) (hl : l ≤ 1048576) :
    Calls Try.prog 17 #[.agg #[.slice p n c, .slice q m d, .slice a l b, .int .i64 x, .int .i64 s, .int .i64 u, .int .i64 v]] w (RetH P W X x s u v w) := by
  have hb0 := ((Blk.new w #[.slice p n c, .slice q m d, .slice a l b, .int .i64 x, .int .i64 s, .int .i64 u, .int .i64 v] 26).alloc (.cells #[.slice none 0 0, .slice none 0 0, .slice none 0 0, .int .i64 0, .int .i64 0, .int .i64 0, .int .i64 0] 31)).alloc (.cells #[.slice none 0 0, .slice none 0 0, .slice none 0 0, .int .i64 0, .int .i64 0, .int .i64 0, .int .i64 0] 31)
  have hb1 := (Blk.new (w.alloc (.cells #[.slice p n c, .slice q m d, .slice a l b, .int .i64 x, .int .i64 s, .int .i64 u, .int .i64 v] 26)) #[.slice none 0 0, .slice none 0 0, .slice none 0 0, .int .i64 0, .int .i64 0, .int .i64 0, .int .i64 0] 31).alloc (.cells #[.slice none 0 0, .slice none 0 0, .slice none 0 0, .int .i64 0, .int .i64 0, .int .i64 0, .int .i64 0] 31)
  have hb2 := Blk.new ((w.alloc (.cells #[.slice p n c, .slice q m d, .slice a l b, .int .i64 x, .int .i64 s, .int .i64 u, .int .i64 v] 26)).alloc (.cells #[.slice none 0 0, .slice none 0 0, .slice none 0 0, .int .i64 0, .int .i64 0, .int .i64 0, .int .i64 0] 31)) #[.slice none 0 0, .slice none 0 0, .slice none 0 0, .int .i64 0, .int .i64 0, .int .i64 0, .int .i64 0] 31
  have hfr : Fr w (((w.alloc (.cells #[.slice p n c, .slice q m d, .slice a l b, .int .i64 x, .int .i64 s, .int .i64 u, .int .i64 v] 26)).alloc (.cells #[.slice none 0 0, .slice none 0 0, .slice none 0 0, .int .i64 0, .int .i64 0, .int .i64 0, .int .i64 0] 31)).alloc (.cells #[.slice none 0 0, .slice none 0 0, .slice none 0 0, .int .i64 0, .int .i64 0, .int .i64 0, .int .i64 0] 31)) := (((Fr.refl w).alloc _).alloc _).alloc _
  simp only [World.size_alloc] at hb1 hb2
  have H0 := Lib.hid hb0; have H1 := Lib.hid hb1; have H2 := Lib.hid hb2
  clear hb0 hb1 hb2
  have c00 := H0.out.cell (j := 0) rfl
  have c01 := H0.out.cell (j := 1) rfl
  go_enter Try.func17, Try.ntmps17
  go_wp2_with fail
  refine (toTree_any _ _ _ _ _ _ _ _ _ (hP.fr hfr) (hW.fr hfr) hn hm).mono ?_
  rintro e w1 ⟨a1, n1, c1, a2, n2, c2, M, rfl, o1, o2, W1, y1, y2, f1, m1, m2⟩
  have z1 := f1.size
  simp only [World.size_alloc] at z1 y1
  have g0 := Lib.hid (H0.out.fr f1); have g1 := Lib.hid (H1.out.fr f1); have g2 := Lib.hid (H2.out.fr f1)
  have k1 := g0.out.cell (j := 2) rfl
  have k2 := g2.out.cell (j := 0) rfl
  have k2b := g2.out.cell (j := 1) rfl
  have k3 := g2.out.free 0
  have k4 := g2.out.free 1
  clear c00 c01
  go_wp2_with fail
  have hF1 := ((hfr.trans f1).setCell (p := ⟨w.heap.size + 1 + 1, 0, none⟩) (by simp; omega) (.slice a1 n1 c1)).setCell (p := ⟨w.heap.size + 1 + 1, 1, none⟩) (by simp; omega) (.slice a2 n2 c2)
  have o1' := (o1.past (p := ⟨w.heap.size + 1 + 1, 0, none⟩) (by simp) (.slice a1 n1 c1)).past (p := ⟨w.heap.size + 1 + 1, 1, none⟩) (by simp) (.slice a2 n2 c2)
  have o2' := (o2.past (p := ⟨w.heap.size + 1 + 1, 0, none⟩) (by simp; omega) (.slice a1 n1 c1)).past (p := ⟨w.heap.size + 1 + 1, 1, none⟩) (by simp; omega) (.slice a2 n2 c2)
  have g0' := Lib.hid ((g0.out.other (p := ⟨w.heap.size + 1 + 1, 0, none⟩) (by simp; omega) (.slice a1 n1 c1)).other (p := ⟨w.heap.size + 1 + 1, 1, none⟩) (by simp; omega) (.slice a2 n2 c2))
  have g1' := Lib.hid ((g1.out.other (p := ⟨w.heap.size + 1 + 1, 0, none⟩) (by simp) (.slice a1 n1 c1)).other (p := ⟨w.heap.size + 1 + 1, 1, none⟩) (by simp) (.slice a2 n2 c2))
  have g2' := Lib.hid ((g2.out.set 0 (.slice a1 n1 c1)).set 1 (.slice a2 n2 c2))
  have W2 : Within a2 M w1.heap.size := o2.within
  clear k1 k2 k2b k3 k4 g0 g1 g2 o1 o2
  refine (toIntS_any _ _ _ _ _ (hX.fr hF1) hl).mono ?_
  rintro e w2 ⟨a3, n3, c3, rfl, o3, f2, m3⟩
  have z2 := f2.size
  have dd := g0'.out.fr f2
  have d0 := g1'.out.fr f2
  have d1 := g2'.out.fr f2
  have s0 := dd.cell (j := 3) rfl; have s1 := dd.cell (j := 4) rfl; have s2 := dd.cell (j := 5) rfl; have s3 := dd.cell (j := 6) rfl
  have k0 := d1.cell (j := 0) (v := .slice a1 n1 c1) rfl; have k1 := d1.cell (j := 1) (v := .slice a2 n2 c2) rfl; have k2 := d1.cell (j := 2) (v := .slice none 0 0) rfl
  have k3 := d1.cell (j := 3) (v := .int .i64 0) rfl; have k4 := d1.cell (j := 4) (v := .int .i64 0) rfl; have k5 := d1.cell (j := 5) (v := .int .i64 0) rfl; have k6 := d1.cell (j := 6) (v := .int .i64 0) rfl
  have q2 := d1.free 2; have q3 := d1.free 3; have q4 := d1.free 4; have q5 := d1.free 5; have q6 := d1.free 6
  have j0 := d0.cell (j := 0) rfl; have j1 := d0.cell (j := 1) rfl; have j2 := d0.cell (j := 2) rfl; have j3 := d0.cell (j := 3) rfl; have j4 := d0.cell (j := 4) rfl; have j5 := d0.cell (j := 5) rfl; have j6 := d0.cell (j := 6) rfl
  have i0 := d0.free 0; have i1 := d0.free 1; have i2 := d0.free 2; have i3 := d0.free 3; have i4 := d0.free 4; have i5 := d0.free 5; have i6 := d0.free 6
  have D0 := Lib.hid d0
  clear dd d0 d1
  go_wp2
  have E := ((((((((((((D0.out.other (p := ⟨w.heap.size + 1 + 1, 2, none⟩) (by simp) (.slice a3 n3 c3)).other (p := ⟨w.heap.size + 1 + 1, 3, none⟩) (by simp) (.int .i64 x)).other (p := ⟨w.heap.size + 1 + 1, 4, none⟩) (by simp) (.int .i64 s)).other (p := ⟨w.heap.size + 1 + 1, 5, none⟩) (by simp) (.int .i64 u)).other (p := ⟨w.heap.size + 1 + 1, 6, none⟩) (by simp) (.int .i64 v)).set 0 (.slice a1 n1 c1)).set 1 (.slice a2 n2 c2)).set 2 (.slice a3 n3 c3)).set 3 (.int .i64 x)).set 4 (.int .i64 s)).set 5 (.int .i64 u)).set 6 (.int .i64 v))
  simp only [List.setIfInBounds_toArray, List.set_cons_zero, List.set_cons_succ] at E
  refine bodyPost_ret (results_H Try.results17 _ _ (w.heap.size + 1) _ _ _ _ _ _ _ rfl (E.cell rfl) (E.cell rfl) (E.cell rfl) (E.cell rfl) (E.cell rfl) (E.cell rfl) (E.cell rfl)) rfl ?_
  refine ⟨a1, n1, c1, a2, n2, c2, a3, n3, c3, M, w1.heap.size, rfl, ?_, ?_, ?_, fun k hk => ?_, W2, by omega, by omega, by simpa using z2, ?_, m1, m2, m3⟩
  · have h := o1'.fr f2
    refine Own.mono ?_ (show w.heap.size ≤ (((w.alloc (.cells #[.slice p n c, .slice q m d, .slice a l b, .int .i64 x, .int .i64 s, .int .i64 u, .int .i64 v] 26)).alloc (.cells #[.slice none 0 0, .slice none 0 0, .slice none 0 0, .int .i64 0, .int .i64 0, .int .i64 0, .int .i64 0] 31)).alloc (.cells #[.slice none 0 0, .slice none 0 0, .slice none 0 0, .int .i64 0, .int .i64 0, .int .i64 0, .int .i64 0] 31)).heap.size by simp; omega)
    iterate 12 refine Own.past ?_ (by simp) _
    exact h
  · iterate 12 refine Own.past ?_ (by simp; omega) _
    exact o2'.fr f2
  · refine Own.mono ?_ (show w1.heap.size ≤ _ from (by simp : w1.heap.size ≤ ((w1.setCell ⟨w.heap.size + 1 + 1, 0, none⟩ (.slice a1 n1 c1)).setCell ⟨w.heap.size + 1 + 1, 1, none⟩ (.slice a2 n2 c2)).heap.size))
    iterate 12 refine Own.past ?_ (by simp; omega) _
    exact o3
  · have := W1 k hk; simp at this; omega
  · iterate 12 refine Fr.setCell ?_ (by dsimp only; omega) _
    exact hF1.trans f2

end Go.Proofs.Ytojipjjfndgbhaa
/- Contracts of trees: ends, children, sums. -/
set_option linter.unusedVariables false
namespace Go.Proofs.Ytojipjjfndgbhaa
open Go.ChangeShapes Go.WideShapes Go.ChangeAt Go.RowKit

theorem ends_any (w : World) (p q : Option Addr) (n c m d : Nat) (P : List Int) (hP : SL w p n c P) (hp : parB P = true) (hn : n ≤ 1048576) :
    Calls Try.prog 80 #[.agg #[.slice p n c, .slice q m d]] w (RetS (endsM P) w) := by
  have HP := Lib.hid hP.len
  have hfr : Fr w ((w.alloc (.cells #[.slice p n c, .slice q m d] 29)).alloc (.cells #[] 3)) := ((Fr.refl w).alloc _).alloc _
  have hmade := Own.made0 (B := w.heap.size) (w.alloc (.cells #[.slice p n c, .slice q m d] 29)) (by simp)
  have H0 := Lib.hid ((Blk.new w #[.slice p n c, .slice q m d] 29).alloc (.cells #[] 3))
  have c0 := H0.out.cell (j := 0) rfl
  have c1 := H0.out.cell (j := 1) rfl
  go_enter Try.func80, Try.ntmps80
  go_wp2_with fail
  clear c0 c1
  refine (isEnd_any _ _ _ _ _ _ _ _ (hP.fr hfr) hp hn).mono ?_
  rintro e w1 ⟨a1, n1, c1, rfl, o1, f1, _⟩
  obtain rfl : n1 = n := by rw [← o1.len, endsAt_len, HP.out]
  have hE : Hid (∀ x, x < n1 → nthB (endsAt P n1) x = endB P x) := Lib.hid (fun x hx => by rw [endsAt_nth _ _ _ (by rw [HP.out]; exact hx), endB, HP.out])
  rw [World.size_alloc] at o1
  have hm1 := hmade.fr f1
  have hF1 := hfr.trans f1
  have hz1 := f1.size
  simp only [World.size_alloc] at hz1
  go_wp2
  go_loopw [3, 10] (fun v i wr => ∃ (k l cc : Nat) (a : Option Addr), k ≤ n1 ∧ i = .int .i64 k ∧ v = .slice a l cc ∧ Own w.heap.size wr a l cc (endsTo P k) ∧ Apart a a1 ∧ OwnB w.heap.size wr a1 n1 c1 (endsAt P n1) ∧ Fr w wr) (fun _ i _ => n1 - (intOf i).toNat)
  case atStart => exact ⟨0, 0, 0, _, by omega, rfl, rfl, by simpa [endsTo] using hm1, fun k h1 h2 => by have := o1.blk k h2; simp [blkOf] at h1 this; omega, o1.mono (by simp; omega), hF1⟩
  case round =>
    clear hmade hm1 o1 hF1 H0
    obtain ⟨k, l, cc, a, hk, rfl, rfl, ho, hab, hB, hF⟩ := hrel
    by_cases hlt : k < n1
    · obtain ⟨g, rfl, _, _, hce, _⟩ := hB.op (by omega)
      replace hce := hce k hlt
      rw [hE.out k hlt] at hce
      have hs := endsTo_succ P k
      have hln : l ≤ 1048576 := by have := ho.len; have := endsTo_len P k; omega
      have hsz := hF.size
      cases he : endB P k
      · rw [he] at hs hce
        have HS : Hid (endsTo P (k + 1) = endsTo P k) := Lib.hid (by rw [hs]; simp)
        clear hs he
        go_wp2
        go_roundw
        case rel => exact ⟨k + 1, l, cc, a, by omega, by go_num, rfl, by rw [HS.out]; exact ho, hab, hB, hF⟩
        case measure => simp [intOf]; omega
      · rw [he] at hs hce
        have HS : Hid (endsTo P (k + 1) = endsTo P k ++ [(k : Int)]) := Lib.hid (by rw [hs]; simp)
        clear hs he
        go_wp2_with (at_builtin; refine ap_int _ rfl _ _ rfl w.heap.size a l cc _ _ rfl rfl ho hsz (by unfold I64; omega) hln ?_)
        intro g' c' w' k1 k2 k3
        have hab' : Apart (some ⟨g', 0, none⟩) (some ⟨g, 0, none⟩) := by
          intro z h1 h2
          simp only [blkOf, Option.map_some, Option.some.injEq] at h1 h2
          subst h1
          rcases k3 with h | h
          · exact hab _ h (by simp [blkOf, h2])
          · have := hB.blk g rfl; omega
        have hB' := hB.grown k2 (by
          cases hx : blkOf (some (⟨g, 0, none⟩ : Addr)) with
          | none => exact .inl rfl
          | some z => exact .inr fun e => hab z e.symm hx)
        go_wp2
        go_roundw
        case rel => exact ⟨k + 1, l + 1, c', _, by omega, by go_num, rfl, by rw [HS.out]; exact k1, hab', hB', hF.grown k2 (fun z hz => (ho.blk z hz).1)⟩
        case measure => simp [intOf]; omega
    · obtain rfl : k = n1 := by omega
      have hln : l ≤ k := by have := ho.len; have := endsTo_len P k; omega
      have HM : Hid (endsTo P k = endsM P) := Lib.hid (by rw [endsM, HP.out])
      rw [HM.out] at ho
      go_wp2
      go_ret
      exact ⟨_, _, _, rfl, ho, hF, by omega⟩

theorem l2Ends_any (w : World) (p q : Option Addr) (n c m d : Nat) (P : List Int) (hP : SL w p n c P) (hp : parB P = true) (hn : n ≤ 1048576) :
    Calls Try.prog 117 #[.agg #[.slice p n c, .slice q m d]] w (RetS (endsM P) w) := by
  have HP := Lib.hid hP.len
  have Hp := Lib.hid hp
  clear hp
  have hmade := Own.made0 (B := w.heap.size + 1) (w.alloc (.cells #[.slice p n c, .slice q m d] 29)) (by simp)
  have hfa : Fr (w.alloc (.cells #[.slice p n c, .slice q m d] 29)) ((w.alloc (.cells #[.slice p n c, .slice q m d] 29)).alloc (.cells #[] 3)) := (Fr.refl _).alloc _
  go_enter Try.func117, Try.ntmps117
  go_wp2
  go_loopw [3, 4] (fun v i wr => ∃ (k l cc : Nat) (a : Option Addr), k ≤ n ∧ i = .int .i64 k ∧ v = .slice a l cc ∧ Own (w.heap.size + 1) wr a l cc (endsTo P k) ∧ Fr (w.alloc (.cells #[.slice p n c, .slice q m d] 29)) wr) (fun _ i _ => n - (intOf i).toNat)
  case atStart => exact ⟨0, 0, 0, _, by omega, rfl, rfl, by simpa [endsTo] using hmade, hfa⟩
  case round =>
    clear hmade hfa
    obtain ⟨k, l, cc, a, hk, rfl, rfl, ho, hf⟩ := hrel
    have hbox := hf.newCell (j := 0) (v := .slice p n c) rfl
    have hbox1 := hf.newCell (j := 1) (v := .slice q m d) rfl
    have hF : Fr w wr := ((Fr.refl w).alloc _).trans hf
    by_cases hlt : k < n
    · go_wp2_with fail
      refine (l2Kids_any _ _ _ _ _ _ _ k _ (hP.fr hF) Hp.out hn hlt).mono ?_
      rintro e w2 ⟨a2, n2, c2, rfl, o2, f2, _⟩
      have Ho := Lib.hid o2.len
      have hne : ((n2 : Int) == 0) = endB P k := by
        rw [Bool.eq_iff_iff, endB, HP.out, ← kidsTo_nil, ← List.length_eq_zero_iff, Ho.out]; simp
      have hs := endsTo_succ P k
      have hln : l ≤ 1048576 := by have := ho.len; have := endsTo_len P k; omega
      have ho2 := ho.fr f2
      have hf2 := hf.trans f2
      have hsz : w.heap.size + 1 ≤ w2.heap.size := by have := hf2.size; simpa using this
      clear hbox hbox1 o2
      cases he : endB P k
      · rw [he] at hs hne
        have HS : Hid (endsTo P (k + 1) = endsTo P k) := Lib.hid (by rw [hs]; simp)
        clear hs he
        go_wp2
        go_roundw
        case rel => exact ⟨k + 1, l, cc, a, by omega, by go_num, rfl, by rw [HS.out]; exact ho2, hf2⟩
        case measure => simp [intOf]; omega
      · rw [he] at hs hne
        have HS : Hid (endsTo P (k + 1) = endsTo P k ++ [(k : Int)]) := Lib.hid (by rw [hs]; simp)
        clear hs he
        go_wp2_with (at_builtin; refine ap_int _ rfl _ _ rfl (w.heap.size + 1) a l cc _ _ rfl rfl ho2 hsz (by unfold I64; omega) hln ?_)
        intro g' c' w' k1 k2 k3
        go_wp2
        go_roundw
        case rel => exact ⟨k + 1, l + 1, c', _, by omega, by go_num, rfl, by rw [HS.out]; exact k1, hf2.grown k2 (fun z hz => by have := (ho2.blk z hz).1; simp; omega)⟩
        case measure => simp [intOf]; omega
    · obtain rfl : k = n := by omega
      have hln : l ≤ k := by have := ho.len; have := endsTo_len P k; omega
      have HM : Hid (endsTo P k = endsM P) := Lib.hid (by rw [endsM, HP.out])
      rw [HM.out] at ho
      go_wp2
      go_ret
      exact ⟨_, _, _, rfl, ho.mono (by omega), hF, by omega⟩

theorem gathered_any (w : World) (p q a : Option Addr) (n c m d l b : Nat) (P A : List Int) (hP : SL w p n c P) (hA : SL w a l b A) (hp : parB P = true) (hn : n ≤ 24) (hn1 : 1 ≤ n) (hl : l = n) (hb : absTo A n ≤ 1000000000000) :
    Calls Try.prog 118 #[.agg #[.slice p n c, .slice q m d], .slice a l b] w (RetS (gathM P A) w) := by
  subst hl
  have HP := Lib.hid hP.len
  have HA := Lib.hid hA.len
  have Hp := Lib.hid hp
  have hbd : Hid (∀ j, j + 1 ≤ l → ∀ i, ((nth (gathTo P A j) i).natAbs : Int) ≤ 1000000000000) := Lib.hid (fun j hj i => by
    have := (gathTo_abs (a := A) hp (by have := HP.out; have := HA.out; omega) j (by have := HP.out; omega)).2 i
    rw [HP.out] at this; omega)
  clear hp
  have hfr : Fr w (w.alloc (.cells #[.slice p l c, .slice q m d] 29)) := (Fr.refl w).alloc _
  go_enter Try.func118, Try.ntmps118
  go_wp2_with fail
  refine (copied_any _ _ _ _ _ (hA.fr hfr) (by omega)).mono ?_
  rintro e w1 ⟨a1, n1, c1, rfl, o1, f1, _⟩
  obtain rfl : n1 = l := by rw [← o1.len, HA.out]
  have z1 := f1.size
  simp only [World.size_alloc] at z1
  rw [World.size_alloc] at o1
  go_wp2
  go_loopw [6] (fun i wr => ∃ x : Nat, x < n1 ∧ i = .int .i64 x ∧ Own (w.heap.size + 1) wr a1 n1 c1 (gathTo P A (n1 - 1 - x)) ∧ Fr (w.alloc (.cells #[.slice p n1 c, .slice q m d] 29)) wr) (fun i _ => (intOf i).toNat)
  case atStart => exact ⟨n1 - 1, by omega, congrArg (Value.int .i64) (by omega), by rw [Nat.sub_self]; exact o1, f1⟩
  case round =>
    clear o1 f1
    obtain ⟨x, hx, rfl, ho, hf⟩ := hrel
    have hF : Fr w wr := hfr.trans hf
    by_cases h0 : 0 < x
    · have hbox := hf.newCell (j := 0) (v := .slice p n1 c) rfl
      obtain ⟨bp, op, rfl, hcp⟩ := (hP.fr hF).cells.resolve_left (by omega)
      replace hcp := hcp x hx
      obtain ⟨y, hy⟩ := Int.eq_ofNat_of_zero_le (by have := (parB_iff.1 Hp.out).2 x (by rw [HP.out]; exact hx) h0; omega : 0 ≤ nth P x)
      have hyx : y < x := by have := (parB_iff.1 Hp.out).2 x (by rw [HP.out]; exact hx) h0; omega
      have HG : Hid (gathTo P A (n1 - 1 - (x - 1)) = (gathTo P A (n1 - 1 - x)).set y (nth (gathTo P A (n1 - 1 - x)) y + nth (gathTo P A (n1 - 1 - x)) x)) := Lib.hid (by
        rw [show n1 - 1 - (x - 1) = (n1 - 1 - x) + 1 by omega, gathTo, gathS, HP.out, show n1 - 1 - (n1 - 1 - x) = x by omega, hy]; simp)
      rw [hy] at hcp
      clear hy
      obtain ⟨g, rfl, hB, hlt2, hcc, hfro⟩ := ho.op (by omega)
      have hcx := hcc x hx
      have hcy := hcc y (by omega)
      replace hfro := hfro y
      clear hcc
      have b1 := hbd.out (n1 - 1 - x) (by omega) x
      have b2 := hbd.out (n1 - 1 - x) (by omega) y
      have i1 : (0 : Int) ≤ (x : Int) := by omega
      have i2 : (x : Int) < (n1 : Int) := by omega
      have i3 : (0 : Int) ≤ (y : Int) := by omega
      have i4 : (y : Int) < (n1 : Int) := by omega
      have hxd : decide (0 < x) = true := by simp; omega
      go_wp2
      have e1 : IntKind.i64.wrap (nth (gathTo P A (n1 - 1 - x)) y + nth (gathTo P A (n1 - 1 - x)) x) = nth (gathTo P A (n1 - 1 - x)) y + nth (gathTo P A (n1 - 1 - x)) x := IntWalk.i64_in _ (by omega)
      go_region
      clear e1
      go_wp2
      go_roundw
      case rel =>
        refine ⟨x - 1, by omega, congrArg (Value.int .i64) (by omega), ?_, ?_⟩
        · rw [HG.out]; exact (ho.drewN 1).set rfl (by omega) (by unfold I64; omega)
        · exact (hf.drew' 1).setCell (by simp; omega) _
      case measure => simp [intOf]; omega
    · obtain rfl : x = 0 := by omega
      have HM : Hid (gathTo P A (n1 - 1 - 0) = gathM P A) := Lib.hid (by rw [gathM, HP.out]; rfl)
      rw [HM.out] at ho
      go_wp2
      go_ret
      exact ⟨_, _, _, rfl, ho.mono (by omega), hF, by omega⟩

end Go.Proofs.Ytojipjjfndgbhaa
