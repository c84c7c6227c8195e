import Derived.Test.YtojipjjfndgbhaaDeal5
import Derived.Deep.RegionHeld3
import Derived.Deep.DeepCutAuto
/- Contracts of the laws' functions on deals; stores of whole houses. -/
set_option linter.unusedVariables false
namespace Go.Proofs.Ytojipjjfndgbhaa
open Go.ChangeShapes Go.WideShapes Go.ChangeAt Go.RowKit

theorem Own.set7 {L g : Nat} {w : World} {a : Option Addr} {n cap : Nat} {xs : List Int} (h : Own L w a n cap xs) (hg : g < L) (v0 v1 v2 v3 v4 v5 v6 : Value) :
    Own L (((((((w.setCell ⟨g, 0, none⟩ v0).setCell ⟨g, 1, none⟩ v1).setCell ⟨g, 2, none⟩ v2).setCell ⟨g, 3, none⟩ v3).setCell ⟨g, 4, none⟩ v4).setCell ⟨g, 5, none⟩ v5).setCell ⟨g, 6, none⟩ v6) a n cap xs := by
  iterate 7 refine Own.past ?_ (by dsimp only; omega) _
  exact h
theorem Fr.set7 {w0 w : World} {g : Nat} (h : Fr w0 w) (hg : w0.heap.size ≤ g) (v0 v1 v2 v3 v4 v5 v6 : Value) :
    Fr w0 (((((((w.setCell ⟨g, 0, none⟩ v0).setCell ⟨g, 1, none⟩ v1).setCell ⟨g, 2, none⟩ v2).setCell ⟨g, 3, none⟩ v3).setCell ⟨g, 4, none⟩ v4).setCell ⟨g, 5, none⟩ v5).setCell ⟨g, 6, none⟩ v6) := by
  iterate 7 refine Fr.setCell ?_ (by dsimp only; omega) _
  exact h
theorem Blk.set7 {w : World} {g : Nat} {T : TypeId} {z0 z1 z2 z3 z4 z5 z6 : Value} (h : Blk w g #[z0, z1, z2, z3, z4, z5, z6] T) (v0 v1 v2 v3 v4 v5 v6 : Value) :
    Blk (((((((w.setCell ⟨g, 0, none⟩ v0).setCell ⟨g, 1, none⟩ v1).setCell ⟨g, 2, none⟩ v2).setCell ⟨g, 3, none⟩ v3).setCell ⟨g, 4, none⟩ v4).setCell ⟨g, 5, none⟩ v5).setCell ⟨g, 6, none⟩ v6) g #[v0, v1, v2, v3, v4, v5, v6] T := by
  have E := ((((((h.set 0 v0).set 1 v1).set 2 v2).set 3 v3).set 4 v4).set 5 v5).set 6 v6
  simpa only [List.setIfInBounds_toArray, List.set_cons_zero, List.set_cons_succ] using E
theorem Blk.other7 {w : World} {g g' : Nat} {cs : Array Value} {T : TypeId} (h : Blk w g' cs T) (hne : g ≠ g') (v0 v1 v2 v3 v4 v5 v6 : Value) :
    Blk (((((((w.setCell ⟨g, 0, none⟩ v0).setCell ⟨g, 1, none⟩ v1).setCell ⟨g, 2, none⟩ v2).setCell ⟨g, 3, none⟩ v3).setCell ⟨g, 4, none⟩ v4).setCell ⟨g, 5, none⟩ v5).setCell ⟨g, 6, none⟩ v6) g' cs T :=
  ((((((h.other (p := ⟨g, 0, none⟩) hne v0).other (p := ⟨g, 1, none⟩) hne v1).other (p := ⟨g, 2, none⟩) hne v2).other (p := ⟨g, 3, none⟩) hne v3).other (p := ⟨g, 4, none⟩) hne v4).other (p := ⟨g, 5, none⟩) hne v5).other (p := ⟨g, 6, none⟩) hne v6
theorem cell7 {w : World} {g b j : Nat} (v0 v1 v2 v3 v4 v5 v6 : Value) (hne : g ≠ b) :
    (((((((w.setCell ⟨g, 0, none⟩ v0).setCell ⟨g, 1, none⟩ v1).setCell ⟨g, 2, none⟩ v2).setCell ⟨g, 3, none⟩ v3).setCell ⟨g, 4, none⟩ v4).setCell ⟨g, 5, none⟩ v5).setCell ⟨g, 6, none⟩ v6).cell? ⟨b, j, none⟩ = w.cell? ⟨b, j, none⟩ := by
  have e : ∀ (x : World) (i : Nat) (v : Value), (x.setCell ⟨g, i, none⟩ v).cell? ⟨b, j, none⟩ = x.cell? ⟨b, j, none⟩ := fun x i v => by
    apply World.cell?_setCell_other; intro h; simp only [Addr.mk.injEq] at h; exact hne h.1
  rw [e, e, e, e, e, e, e]
theorem results_D {fn : Func} {k : Nat} (hr : fn.results = #[.cell k 58]) (tmps : Array Value) (w : World) (g : Nat) (v0 v1 v2 : Value) (h : tmps[k]?.getD undef = .pointer (some ⟨g, 0, none⟩))
    (h0 : w.cell? ⟨g, 0, none⟩ = some v0) (h1 : w.cell? ⟨g, 1, none⟩ = some v1) (h2 : w.cell? ⟨g, 2, none⟩ = some v2) : (results fn tmps).run Try.prog w = .ok (.agg #[v0, v1, v2]) w := by
  simp [results, hr, go_sem, h, h0, h1, h2]

set_option maxRecDepth 100000 in
theorem toDeal_any (w : World) (x y z : Int) :
    Calls Try.prog 43 #[.agg #[.int .i64 x, .int .i64 y, .int .i64 z]] w fun e w' => e = .returned (.agg #[.int .i64 x, .int .i64 y, .int .i64 z]) ∧ Fr w w' := by
  have hb1 := (Blk.new (w.alloc (.cells #[.int .i64 x, .int .i64 y, .int .i64 z] 56)) #[.int .i64 x, .int .i64 y, .int .i64 z] 58).alloc (.cells #[.int .i64 x, .int .i64 y, .int .i64 z] 58)
  simp only [World.size_alloc] at hb1
  have H1 := Lib.hid hb1
  clear hb1
  go_enter Try.func43, Try.ntmps43
  go_wp2
  refine bodyPost_ret (results_D Try.results43 _ _ (w.heap.size + 1) _ _ _ rfl (H1.out.cell rfl) (H1.out.cell rfl) (H1.out.cell rfl)) rfl ?_
  exact ⟨rfl, (((Fr.refl w).alloc _).alloc _).alloc _⟩

end Go.Proofs.Ytojipjjfndgbhaa
