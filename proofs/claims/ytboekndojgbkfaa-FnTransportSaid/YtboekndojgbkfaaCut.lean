import Derived.Test.YtboekndojgbkfaaCur
import Derived.Laws.AppendOwn
import Derived.Laws.AppendOwnNone
/- The laws' vBig and vCut. -/
set_option linter.unusedVariables false
namespace Go.Proofs.Ytboekndojgbkfaa
open Go.ChangeShapes Go.WideShapes Go.ChangeAt Go.RowKit

theorem infoU8 : (Try.prog.info? 5).map (fun i => (i.zero, i.size, i.bytes)) = some (some (.int .u8 0), 1, 1) := by kernel_rfl
theorem info_u8 : ∃ i, Try.prog.info? 5 = some i ∧ i.zero = some (.int .u8 0) ∧ i.size = 1 ∧ i.bytes = 1 := by
  have h := infoU8
  cases h2 : Try.prog.info? 5 with
  | none => rw [h2] at h; cases h
  | some i =>
    rw [h2] at h
    simp only [Option.map_some, Option.some.injEq, Prod.mk.injEq] at h
    exact ⟨i, rfl, h.1, h.2.1, h.2.2⟩
theorem slb_of_row {B : Nat} {w : World} {a : Option Addr} {n c : Nat} {xs : List Int} (h : w.ownsRow B 5 1 (.slice a n c) n (xs.map (Value.int .u8))) (hr : ∀ x ∈ xs, 0 ≤ x ∧ x ≤ 255) : SLB w a n c xs := by
  have hl : xs.length = n := by simpa using h.1
  rcases h.2 with ⟨h2, h3⟩ | ⟨g, cap', cur, h2, h3, h4, h5, h6, h7, h8⟩
  · simp only [Value.slice.injEq] at h2
    obtain ⟨rfl, rfl, rfl⟩ := h2
    obtain rfl : xs = [] := List.length_eq_zero_iff.1 hl
    exact SLB.of_nil w
  · simp only [Value.slice.injEq] at h2
    obtain ⟨rfl, _, rfl⟩ := h2
    refine ⟨hl, h5, by unfold maxLen at h6; omega, hr, fun e => (by cases e), .inr ⟨g, 0, rfl, fun i hi => ?_⟩⟩
    have hc := h.cells (g := g) (by simp [Value.ownBlock]) i (.int .u8 (nth xs i)) (by rw [nth_eq (by omega)]; simp [hl ▸ hi])
    rw [addr_add] at hc
    exact hc
/-- append of bytes to a slice of bytes of the call's own. -/
theorem ap_bytes (w : World) {ops : Array Oper} {rest : List Oper} {o : Oper} {act : Act} {Q : Exit → Act → World → Prop} (hgd : o.guard = none) (s x : Operand)
    (ho : o.op = .call { callee := .builtin .append, args := #[s, x], argTypes := #[42, 42] }) (B : Nat) (v : Value) (n : Nat) (xs : List Int) (ad : Addr) (m d : Nat) (ys : List Int)
    (hs : act.eval s = v) (hx : act.eval x = .slice (some ad) m d) (hown : w.ownsRow B 5 1 v n (xs.map (Value.int .u8))) (hB : B ≤ w.heap.size) (hl : ys.length = m) (hc : ∀ j, j < m → w.cell? (ad.add j) = some (.int .u8 (nth ys j))) (hn : n + m ≤ 1048576)
    (h : ∀ v' w', w'.ownsRow B 5 1 v' (n + m) ((xs ++ ys).map (Value.int .u8)) → w.grownBy w' v.ownBlock → wpList Try.prog ops Q rest (act.put o.dst v') w') :
    wpList Try.prog ops Q (o :: rest) act w := by
  obtain ⟨i0, hi, hz0, hz1, hz2⟩ := info_u8
  refine wpList_append_own w hgd s x 42 ho B 5 i0 (.int .u8 0) 1 1 Try.underlying42 hi hz0 hz1 hz2 rfl (by decide) v n _ hs hown ad m d (ys.map (Value.int .u8)) hx (by simpa using hl) ?_ ?_ (by unfold maxLen; omega) (by omega) hB ?_
  · intro j u hu
    have hj : j < ys.length := by
      rcases Nat.lt_or_ge j ys.length with hlt | hge
      · exact hlt
      · rw [List.getElem?_eq_none (by simpa using hge)] at hu; cases hu
    rw [hc j (by omega), nth_eq hj]
    simpa [hj] using hu
  · intro u hu
    obtain ⟨y, _, rfl⟩ := List.mem_map.1 hu
    rfl
  · intro v' w' h1 h2 _
    exact h v' w' (by rw [List.map_append]; exact h1) h2
theorem byte_cell (W : World) (k : Int) : ∀ j, j < 1 → (W.alloc (.cells #[.int .u8 k] 5)).cell? ((⟨W.heap.size, 0, none⟩ : Addr).add j) = some (.int .u8 (nth [k] j)) := fun j hj => by
  obtain rfl : j = 0 := by omega
  rw [addr_add, cell_of_row _ _ _ _ _ _ (heap_alloc_new _ _)]; rfl
theorem grown_alloc {w W w2 : World} {o : Obj} {v : Value} (hF : Fr w W) (g : (W.alloc o).grownBy w2 v.ownBlock) (hB : ∀ k, v.ownBlock = some k → w.heap.size ≤ k) : Fr w w2 := (hF.alloc o).grown g hB
theorem rBig_any (w : World) (a : Option Addr) (n cap : Nat) (hn : n ≤ 9223372036854775807) :
    Calls Try.prog 44 #[.slice a n cap] w fun e w' => e = .returned (.bool (decide (65536 < n))) ∧ w = w' := by
  go_enter Try.func44, Try.ntmps44
  go_wp2
  go_ret
  exact ⟨ret_bool (by rw [Bool.eq_iff_iff]; simp; omega), rfl⟩
end Go.Proofs.Ytboekndojgbkfaa
