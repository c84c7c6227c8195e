import Derived.Test.YtojipjjfndgbhaaApp
/- Slices of pairs of the call's own. -/
set_option linter.unusedVariables false
namespace Go.Proofs.Ytojipjjfndgbhaa
open Go.ChangeShapes Go.WideShapes Go.ChangeAt Go.RowKit

def pcells (xs : List (Int × Int)) : List Value := xs.flatMap fun z => [.int .i64 z.1, .int .i64 z.2]
def nthP (xs : List (Int × Int)) (i : Nat) : Int × Int := xs[i]?.getD (0, 0)
theorem pcells_len (xs : List (Int × Int)) : (pcells xs).length = xs.length * 2 := by
  induction xs with
  | nil => rfl
  | cons x r ih => simp only [pcells, List.flatMap_cons, List.length_append, List.length_cons, List.length_nil] at ih ⊢; omega
theorem pcells_at (xs : List (Int × Int)) (i : Nat) (h : i < xs.length) : (pcells xs)[2 * i]? = some (.int .i64 (nthP xs i).1) ∧ (pcells xs)[2 * i + 1]? = some (.int .i64 (nthP xs i).2) := by
  induction xs generalizing i with
  | nil => simp at h
  | cons x r ih =>
    cases i with
    | zero => simp [pcells, nthP]
    | succ i =>
      have h2 := ih i (by simpa using h)
      have e1 : 2 * (i + 1) = 2 * i + 2 := by omega
      have e2 : 2 * i + 2 + 1 = 2 * i + 1 + 2 := by omega
      have h3 : nthP (x :: r) (i + 1) = nthP r i := by simp [nthP]
      rw [e1, e2, h3]
      simpa [pcells] using h2

structure OwnP (B : Nat) (w : World) (a : Option Addr) (n cap : Nat) (xs : List (Int × Int)) : Prop where
  row : w.ownsRow B 46 2 (.slice a n cap) n (pcells xs)

section
variable {B : Nat} {w w' : World} {a : Option Addr} {n cap : Nat} {xs : List (Int × Int)}
theorem OwnP.len (h : OwnP B w a n cap xs) : xs.length = n := by have h1 := h.row.1; rw [pcells_len] at h1; omega
theorem OwnP.blk (h : OwnP B w a n cap xs) : ∀ k, blkOf a = some k → B ≤ k ∧ k < w.heap.size := by
  intro k hk
  refine h.row.lt k ?_
  cases a with
  | none => simp [blkOf] at hk
  | some x => simpa [blkOf, Value.ownBlock] using hk
theorem OwnP.op (h : OwnP B w a n cap xs) (hn : 0 < n) : ∃ g, a = some ⟨g, 0, none⟩ ∧ B ≤ g ∧ g < w.heap.size ∧ n ≤ cap ∧ ∀ i, i < n → w.cell? ⟨g, 2 * i, none⟩ = some (.int .i64 (nthP xs i).1) ∧ w.cell? ⟨g, 2 * i + 1, none⟩ = some (.int .i64 (nthP xs i).2) := by
  have hl := h.len
  have hb := h.blk
  rcases h.row.2 with ⟨h2, h3⟩ | ⟨g, cap', cur, h2, h3, h4, h5, h6, h7, h8⟩
  · omega
  · simp only [Value.slice.injEq] at h2
    obtain ⟨rfl, _, rfl⟩ := h2
    refine ⟨g, rfl, h3, (hb g rfl).2, h5, fun i hi => ?_⟩
    obtain ⟨p1, p2⟩ := pcells_at xs i (by omega)
    have e1 := h.row.cells (g := g) (by simp [Value.ownBlock]) (2 * i) _ p1
    have e2 := h.row.cells (g := g) (by simp [Value.ownBlock]) (2 * i + 1) _ p2
    rw [addr_add, Nat.zero_add] at e1 e2
    exact ⟨e1, e2⟩
theorem OwnP.grown {row : Option Nat} (h : OwnP B w a n cap xs) (g : w.grownBy w' row) (hne : blkOf a = none ∨ blkOf a ≠ row) : OwnP B w' a n cap xs :=
  ⟨h.row.kept g (by cases a with | none => simp [Value.ownBlock] | some x => simpa [blkOf, Value.ownBlock] using hne)⟩
theorem OwnP.fr (h : OwnP B w a n cap xs) (f : Fr w w') : OwnP B w' a n cap xs := by
  refine ⟨⟨h.row.1, ?_⟩⟩
  rcases h.row.2 with h2 | ⟨g, cap', cur, h2, h3, h4, h5⟩
  · exact .inl h2
  · refine .inr ⟨g, cap', cur, h2, h3, ?_, h5⟩
    rw [f.block g (Array.getElem?_eq_some_iff.1 h4).1]; exact h4
theorem OwnP.mono {B' : Nat} (h : OwnP B w a n cap xs) (hB : B' ≤ B) : OwnP B' w a n cap xs := by
  refine ⟨⟨h.row.1, ?_⟩⟩
  rcases h.row.2 with h2 | ⟨g, cap', cur, h2, h3, h4, h5⟩
  · exact .inl h2
  · exact .inr ⟨g, cap', cur, h2, Nat.le_trans hB h3, h4, h5⟩
theorem OwnP.made0 (w : World) (hB : B ≤ w.heap.size) : OwnP B (w.alloc (.cells #[] 46)) (some ⟨w.heap.size, 0, none⟩) 0 0 [] :=
  ⟨⟨by simp [pcells], .inr ⟨w.heap.size, 0, #[], rfl, hB, heap_alloc_new w _, Nat.le_refl _, by unfold maxLen; omega, by simp, by simp [pcells]⟩⟩⟩
end
theorem infoPair : (Try.prog.info? 46).map (fun i => (i.zero, i.size, i.bytes)) = some (some (.agg #[.int .i64 0, .int .i64 0]), 2, 16) := by kernel_rfl

/-- append of one pair. -/
theorem ap_pair (V : World) {ops : Array Oper} {rest : List Oper} {o : Oper} {act : Act} {Q : Exit → Act → World → Prop} (hgd : o.guard = none) (s x : Operand)
    (ho : o.op = .call { callee := .builtin .append, args := #[s, x], argTypes := #[96, 96] }) (B : Nat) (p : Option Addr) (n c : Nat) (xs : List (Int × Int)) (y z : Int) (N : Nat)
    (hs : act.eval s = .slice p n c) (hx : act.eval x = .slice (some ⟨N, 0, none⟩) 1 1) (hown : OwnP B V p n c xs) (hB : B ≤ V.heap.size) (hc0 : V.cell? ⟨N, 0, none⟩ = some (.int .i64 y)) (hc1 : V.cell? ⟨N, 1, none⟩ = some (.int .i64 z)) (hn : n ≤ 1048576) (H : Nat) (hH : V.heap.size = H)
    (h : ∀ g c' w', OwnP B w' (some ⟨g, 0, none⟩) (n + 1) c' (xs ++ [(y, z)]) → V.grownBy w' (blkOf p) → (blkOf p = some g ∨ g = H) → wpList Try.prog ops Q rest (act.put o.dst (.slice (some ⟨g, 0, none⟩) (n + 1) c')) w') :
    wpList Try.prog ops Q (o :: rest) act V := by
  obtain ⟨i0, hi, hz0, hz1, hz2⟩ := info_parts infoPair
  have hb : (Value.slice p n c).ownBlock = blkOf p := by cases p <;> rfl
  refine wpList_append_lies _ hgd s x 96 ho B 46 i0 (.agg #[.int .i64 0, .int .i64 0]) 2 16 Try.underlying96 hi hz0 hz1 hz2 rfl (by omega) (.slice p n c) n _ hs hown.row ⟨N, 0, none⟩ 1 1 [.int .i64 y, .int .i64 z] hx rfl ?_ ?_ (by omega) (by unfold maxLen; omega) (by omega) hB H hH ?_
  · intro j u hu
    rw [addr_add, Nat.zero_add]
    rcases j with _ | _ | j
    · rw [hc0]; simpa using hu
    · rw [hc1]; simpa using hu
    · simp at hu
  · intro u hu; simp at hu; rcases hu with rfl | rfl <;> rfl
  · intro g c' w' h1 h2 h3 _
    rw [hb] at h2 h3
    exact h g c' w' ⟨by simpa [pcells] using h1⟩ h2 h3
theorem step_ap_pair (V : World) {ops : Array Oper} {o : Oper} {a : Act} {K : Act → World → Prop} {Q : Exit → Act → World → Prop} {E : Prop} (hgd : o.guard = none) (s x : Operand)
    (ho : o.op = .call { callee := .builtin .append, args := #[s, x], argTypes := #[96, 96] }) (B : Nat) (p : Option Addr) (n c : Nat) (xs : List (Int × Int)) (y z : Int) (N : Nat)
    (hs : a.eval s = .slice p n c) (hx : a.eval x = .slice (some ⟨N, 0, none⟩) 1 1) (hown : OwnP B V p n c xs) (hB : B ≤ V.heap.size) (hc0 : V.cell? ⟨N, 0, none⟩ = some (.int .i64 y)) (hc1 : V.cell? ⟨N, 1, none⟩ = some (.int .i64 z)) (hn : n ≤ 1048576) (H : Nat) (hH : V.heap.size = H)
    (h : ∀ g c' w', OwnP B w' (some ⟨g, 0, none⟩) (n + 1) c' (xs ++ [(y, z)]) → V.grownBy w' (blkOf p) → (blkOf p = some g ∨ g = H) → K (a.put o.dst (.slice (some ⟨g, 0, none⟩) (n + 1) c')) w') :
    if Region.wanted o (yielded ops a.tmps) = true then Oper.wp Try.prog o a V K Q else E := by
  obtain ⟨i0, hi, hz0, hz1, hz2⟩ := info_parts infoPair
  have hb : (Value.slice p n c).ownBlock = blkOf p := by cases p <;> rfl
  refine step_append_lies _ hgd s x 96 ho B 46 i0 (.agg #[.int .i64 0, .int .i64 0]) 2 16 Try.underlying96 hi hz0 hz1 hz2 rfl (by omega) (.slice p n c) n _ hs hown.row ⟨N, 0, none⟩ 1 1 [.int .i64 y, .int .i64 z] hx rfl ?_ ?_ (by omega) (by unfold maxLen; omega) (by omega) hB H hH ?_
  · intro j u hu
    rw [addr_add, Nat.zero_add]
    rcases j with _ | _ | j
    · rw [hc0]; simpa using hu
    · rw [hc1]; simpa using hu
    · simp at hu
  · intro u hu; simp at hu; rcases hu with rfl | rfl <;> rfl
  · intro g c' w' h1 h2 h3 _
    rw [hb] at h2 h3
    exact h g c' w' ⟨by simpa [pcells] using h1⟩ h2 h3
/-- A new slice of pairs. -/
def RetP (xs : List (Int × Int)) (w : World) (e : Ending) (w' : World) : Prop := ∃ a n cap, e = .returned (.slice a n cap) ∧ OwnP w.heap.size w' a n cap xs ∧ Fr w w' ∧ n ≤ 1048576
end Go.Proofs.Ytojipjjfndgbhaa
