import Derived.Test.YtolnloeapbplkaaDoorDec
/- Slices of records of the call's own. -/
set_option linter.unusedVariables false
namespace Go.Proofs.YtolnloeapbplkaaDoor
open Go.ChangeShapes Go.WideShapes Go.ChangeAt Go.RowKit

def rcells (xs : List (ByteArray × ByteArray)) : List Value := xs.flatMap fun z => [.string z.1, .string z.2]
def nthRB (xs : List (ByteArray × ByteArray)) (i : Nat) : ByteArray × ByteArray := xs[i]?.getD (⟨#[]⟩, ⟨#[]⟩)
/-- The records that byte arrays spell. -/
def blR (xs : List (ByteArray × ByteArray)) : List (List UInt8 × List UInt8) := xs.map fun z => (bl z.1, bl z.2)
theorem blR_len (xs : List (ByteArray × ByteArray)) : (blR xs).length = xs.length := by simp [blR]
theorem blR_snoc (xs : List (ByteArray × ByteArray)) (z : ByteArray × ByteArray) : blR (xs ++ [z]) = blR xs ++ [(bl z.1, bl z.2)] := by simp [blR]
theorem bl_inj {a b : ByteArray} (h : bl a = bl b) : a = b := by rw [← ba_bl a, ← ba_bl b, h]
theorem blR_inj {xs ys : List (ByteArray × ByteArray)} (h : blR xs = blR ys) : xs = ys := by
  induction xs generalizing ys with
  | nil => cases ys with
    | nil => rfl
    | cons y r => simp [blR] at h
  | cons x r ih =>
    cases ys with
    | nil => simp [blR] at h
    | cons y q =>
      simp only [blR, List.map_cons, List.cons.injEq, Prod.mk.injEq] at h
      rw [ih (ys := q) h.2]
      congr 1
      exact Prod.ext (bl_inj h.1.1) (bl_inj h.1.2)
theorem nthRB_bl {xs : List (ByteArray × ByteArray)} (i : Nat) : (bl (nthRB xs i).1, bl (nthRB xs i).2) = nthR (blR xs) i := by
  simp only [nthRB, nthR, blR, List.getElem?_map]
  cases xs[i]? <;> rfl
theorem rcells_len (xs : List (ByteArray × ByteArray)) : (rcells xs).length = xs.length * 2 := by
  induction xs with
  | nil => rfl
  | cons x r ih => simp only [rcells, List.flatMap_cons, List.length_append, List.length_cons, List.length_nil] at ih ⊢; omega
theorem rcells_at (xs : List (ByteArray × ByteArray)) (i : Nat) (h : i < xs.length) : (rcells xs)[2 * i]? = some (.string (nthRB xs i).1) ∧ (rcells xs)[2 * i + 1]? = some (.string (nthRB xs i).2) := by
  induction xs generalizing i with
  | nil => simp at h
  | cons x r ih =>
    cases i with
    | zero => simp [rcells, nthRB]
    | succ i =>
      have h2 := ih i (by simpa using h)
      have e1 : 2 * (i + 1) = 2 * i + 2 := by omega
      have e2 : 2 * i + 2 + 1 = 2 * i + 1 + 2 := by omega
      have h3 : nthRB (x :: r) (i + 1) = nthRB r i := by simp [nthRB]
      rw [e1, e2, h3]
      simpa [rcells] using h2

structure OwnR (B : Nat) (w : World) (a : Option Addr) (n cap : Nat) (xs : List (ByteArray × ByteArray)) : Prop where
  row : w.ownsRow B 25 2 (.slice a n cap) n (rcells xs)

section
variable {B : Nat} {w w' : World} {a : Option Addr} {n cap : Nat} {xs : List (ByteArray × ByteArray)}
theorem OwnR.len (h : OwnR B w a n cap xs) : xs.length = n := by have h1 := h.row.1; rw [rcells_len] at h1; omega
theorem OwnR.blk (h : OwnR B w a n cap xs) : ∀ k, blkOf a = some k → B ≤ k ∧ k < w.heap.size := by
  intro k hk
  refine h.row.lt k ?_
  cases a with
  | none => simp [blkOf] at hk
  | some x => simpa [blkOf, Value.ownBlock] using hk
theorem OwnR.op (h : OwnR B w a n cap xs) (hn : 0 < n) : ∃ g, a = some ⟨g, 0, none⟩ ∧ B ≤ g ∧ g < w.heap.size ∧ n ≤ cap ∧ ∀ i, i < n → w.cell? ⟨g, 2 * i, none⟩ = some (.string (nthRB xs i).1) ∧ w.cell? ⟨g, 2 * i + 1, none⟩ = some (.string (nthRB xs i).2) := by
  have hl := h.len
  have hb := h.blk
  rcases h.row.2 with ⟨h2, h3⟩ | ⟨g, cap', cur, h2, h3, h4, h5, h6, h7, h8⟩
  · omega
  · simp only [Value.slice.injEq] at h2
    obtain ⟨rfl, _, rfl⟩ := h2
    refine ⟨g, rfl, h3, (hb g rfl).2, h5, fun i hi => ?_⟩
    obtain ⟨p1, p2⟩ := rcells_at xs i (by omega)
    have e1 := h.row.cells (g := g) (by simp [Value.ownBlock]) (2 * i) _ p1
    have e2 := h.row.cells (g := g) (by simp [Value.ownBlock]) (2 * i + 1) _ p2
    rw [addr_add, Nat.zero_add] at e1 e2
    exact ⟨e1, e2⟩
theorem OwnR.grown {row : Option Nat} (h : OwnR B w a n cap xs) (g : w.grownBy w' row) (hne : blkOf a = none ∨ blkOf a ≠ row) : OwnR B w' a n cap xs :=
  ⟨h.row.kept g (by cases a with | none => simp [Value.ownBlock] | some x => simpa [blkOf, Value.ownBlock] using hne)⟩
theorem OwnR.fr (h : OwnR B w a n cap xs) (f : Fr w w') : OwnR B w' a n cap xs := by
  refine ⟨⟨h.row.1, ?_⟩⟩
  rcases h.row.2 with h2 | ⟨g, cap', cur, h2, h3, h4, h5⟩
  · exact .inl h2
  · refine .inr ⟨g, cap', cur, h2, h3, ?_, h5⟩
    rw [f.block g (Array.getElem?_eq_some_iff.1 h4).1]; exact h4
theorem OwnR.mono {B' : Nat} (h : OwnR B w a n cap xs) (hB : B' ≤ B) : OwnR B' w a n cap xs := by
  refine ⟨⟨h.row.1, ?_⟩⟩
  rcases h.row.2 with h2 | ⟨g, cap', cur, h2, h3, h4, h5⟩
  · exact .inl h2
  · exact .inr ⟨g, cap', cur, h2, Nat.le_trans hB h3, h4, h5⟩
theorem OwnR.made0 (w : World) (hB : B ≤ w.heap.size) : OwnR B (w.alloc (.cells #[] 25)) (some ⟨w.heap.size, 0, none⟩) 0 0 [] :=
  ⟨⟨by simp [rcells], .inr ⟨w.heap.size, 0, #[], rfl, hB, heap_alloc_new w _, Nat.le_refl _, by unfold maxLen; omega, by simp, by simp [rcells]⟩⟩⟩
end
theorem infoRec : (Tryd.prog.info? 25).map (fun i => (i.zero, i.size, i.bytes)) = some (some (.agg #[.string ⟨#[]⟩, .string ⟨#[]⟩]), 2, 32) := by kernel_rfl

/-- append of one record. -/
theorem ap_rec (V : World) {ops : Array Oper} {rest : List Oper} {o : Oper} {act : Act} {Q : Exit → Act → World → Prop} (hgd : o.guard = none) (s x : Operand)
    (ho : o.op = .call { callee := .builtin .append, args := #[s, x], argTypes := #[43, 43] }) (B : Nat) (p : Option Addr) (n c : Nat) (xs : List (ByteArray × ByteArray)) (y z : ByteArray) (N : Nat)
    (hs : act.eval s = .slice p n c) (hx : act.eval x = .slice (some ⟨N, 0, none⟩) 1 1) (hown : OwnR B V p n c xs) (hB : B ≤ V.heap.size) (hc0 : V.cell? ⟨N, 0, none⟩ = some (.string y)) (hc1 : V.cell? ⟨N, 1, none⟩ = some (.string z)) (hn : n ≤ 1048576) (H : Nat) (hH : V.heap.size = H)
    (h : ∀ g c' w', OwnR B w' (some ⟨g, 0, none⟩) (n + 1) c' (xs ++ [(y, z)]) → V.grownBy w' (blkOf p) → (blkOf p = some g ∨ g = H) → wpList Tryd.prog ops Q rest (act.put o.dst (.slice (some ⟨g, 0, none⟩) (n + 1) c')) w') :
    wpList Tryd.prog ops Q (o :: rest) act V := by
  obtain ⟨i0, hi, hz0, hz1, hz2⟩ := info_parts infoRec
  have hb : (Value.slice p n c).ownBlock = blkOf p := by cases p <;> rfl
  refine wpList_append_lies _ hgd s x 43 ho B 25 i0 (.agg #[.string ⟨#[]⟩, .string ⟨#[]⟩]) 2 32 Tryd.underlying43 hi hz0 hz1 hz2 rfl (by omega) (.slice p n c) n _ hs hown.row ⟨N, 0, none⟩ 1 1 [.string y, .string z] hx rfl ?_ ?_ (by omega) (by unfold maxLen; omega) (by omega) hB H hH ?_
  · intro j u hu
    rw [addr_add, Nat.zero_add]
    rcases j with _ | _ | j
    · rw [hc0]; simpa using hu
    · rw [hc1]; simpa using hu
    · simp at hu
  · intro u hu; simp at hu; rcases hu with rfl | rfl <;> rfl
  · intro g c' w' h1 h2 h3 _
    rw [hb] at h2 h3
    exact h g c' w' ⟨by simpa [rcells] using h1⟩ h2 h3
end Go.Proofs.YtolnloeapbplkaaDoor
