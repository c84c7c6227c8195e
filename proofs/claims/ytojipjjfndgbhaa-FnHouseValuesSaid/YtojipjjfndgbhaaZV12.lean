import Derived.Test.YtojipjjfndgbhaaZV11
import Derived.StillTailTactics
import Derived.Deep.DeepMust
import Derived.Test.YtojipjjfndgbhaaZV04
import Derived.Test.YtojipjjfndgbhaaZV08
import Derived.BigRegion
import Derived.Deep.QuietTactic
/- Draws of a tree and a list for its nodes. -/
set_option linter.unusedVariables false
namespace Go.Proofs.Ytojipjjfndgbhaa
open Go.ChangeShapes Go.WideShapes Go.ChangeAt Go.RowKit
theorem results_TS {fn : Func} {k r : Nat} (hr : fn.results = #[.cell k 29, .tmp r]) (tmps : Array Value) (w : World) (g : Nat) (v0 v1 : Value) (bb : Value) (h : tmps[k]?.getD undef = .pointer (some ⟨g, 0, none⟩)) (hb : tmps[r]?.getD undef = bb)
    (h0 : w.cell? ⟨g, 0, none⟩ = some v0) (h1 : w.cell? ⟨g, 1, none⟩ = some v1) : (results fn tmps).run Try.prog w = .ok (.tuple #[.agg #[v0, v1], bb]) w := by
  simp [results, hr, go_sem, h, hb, h0, h1]
theorem Own.lit {B : Nat} {w : World} (xs : List Int) {cs : Array Value} {n : Nat} (hB : B ≤ w.heap.size) (hz : ∀ x ∈ xs, I64 x) (hn : n = xs.length) (hc : cs = (xs.map (Value.int .i64)).toArray) (h1 : xs.length ≤ 1000000) : Own B (w.alloc (.cells cs 3)) (some ⟨w.heap.size, 0, none⟩) n n xs := by
  subst hn; subst hc
  refine ⟨⟨by simp, .inr ⟨w.heap.size, xs.length, _, rfl, hB, heap_alloc_new w _, Nat.le_refl _, by unfold maxLen; omega, by simp, ?_⟩⟩, hz⟩
  rw [List.take_of_length_le (by simp)]
/-- append of two integers, as a step of a region that draws. -/
theorem step_ap_two (V : World) {ops : Array Oper} {o : Oper} {a : Act} {K : Act → World → Prop} {Q : Exit → Act → World → Prop} {E : Prop} (hgd : o.guard = none) (s x : Operand)
    (ho : o.op = .call { callee := .builtin .append, args := #[s, x], argTypes := #[22, 22] }) (B : Nat) (p : Option Addr) (n c : Nat) (xs : List Int) (z y : Int) (N : Nat)
    (hs : a.eval s = .slice p n c) (hx : a.eval x = .slice (some ⟨N, 0, none⟩) 2 2) (hown : Own B V p n c xs) (hB : B ≤ V.heap.size) (hc0 : V.cell? ⟨N, 0, none⟩ = some (.int .i64 z)) (hc1 : V.cell? ⟨N, 1, none⟩ = some (.int .i64 y)) (hz : I64 z) (hy : I64 y) (hn : n ≤ 1048576) (H : Nat) (hH : V.heap.size = H)
    (h : ∀ g c' w', Own B w' (some ⟨g, 0, none⟩) (n + 2) c' (xs ++ [z, y]) → V.grownBy w' (blkOf p) → (blkOf p = some g ∨ g = H) → K (a.put o.dst (.slice (some ⟨g, 0, none⟩) (n + 2) c')) w') :
    if Region.wanted o (yielded ops a.tmps) = true then Oper.wp Try.prog o a V K Q else E := by
  obtain ⟨i0, hi, hz0, hz1, hz2⟩ := info_parts infoInt
  have hb : (Value.slice p n c).ownBlock = blkOf p := by cases p <;> rfl
  refine step_append_lies _ hgd s x 22 ho B 3 i0 (.int .i64 0) 1 8 Try.underlying22 hi hz0 hz1 hz2 rfl (by omega) (.slice p n c) n _ hs hown.row ⟨N, 0, none⟩ 2 2 [.int .i64 z, .int .i64 y] hx rfl ?_ ?_ (by omega) (by unfold maxLen; omega) (by omega) hB H hH ?_
  · intro j u hu
    have hadd : (⟨N, 0, none⟩ : Addr).add j = ⟨N, j, none⟩ := by rw [addr_add]; simp
    rw [hadd]
    rcases j with _ | _ | j
    · rw [hc0]; simpa using hu
    · rw [hc1]; simpa using hu
    · simp at hu
  · intro u hu; simp at hu; rcases hu with rfl | rfl <;> rfl
  · intro g c' w' h1 h2 h3 _
    rw [hb] at h2 h3
    refine h g c' w' ⟨by simpa using h1, ?_⟩ h2 h3
    intro y' hy'
    rcases List.mem_append.1 hy' with hy' | hy'
    · exact hown.rng y' hy'
    · simp at hy'; rcases hy' with rfl | rfl
      · exact hz
      · exact hy
/-- Odd nodes lie below earlier ones. -/
def odP (n : Nat) (P : List Int) : Prop := ∀ i, i < n → i % 2 = 1 → 0 ≤ nth P i ∧ nth P i < (i : Int)
def bdX (L : Int) (X : List Int) : Prop := ∀ x ∈ X, -L ≤ x ∧ x ≤ L
theorem odP7 : odP 7 [-1, 0, 0, 1, 1, 2, 2] := fun i hi ho => by
  have h : i = 1 ∨ i = 3 ∨ i = 5 := by omega
  rcases h with rfl | rfl | rfl <;> simp [nth]
theorem odP5 : odP 5 [-1, 0, 0, 1, 1] := fun i hi ho => by
  have h : i = 1 ∨ i = 3 := by omega
  rcases h with rfl | rfl <;> simp [nth]
theorem bdX_nth {L : Int} {X : List Int} (h : bdX L X) (hL : 0 ≤ L) (i : Nat) : -L ≤ nth X i ∧ nth X i ≤ L := by
  unfold nth
  cases e : X[i]? with
  | none => simp; omega
  | some x => simp; exact h x (List.mem_of_getElem? e)
theorem bdX_two {L M : Int} {X : List Int} {a b : Int} (h : bdX L X) (hM : L ≤ M) (ha : -M ≤ a ∧ a ≤ M) (hb : -M ≤ b ∧ b ≤ M) : bdX M (X ++ [a, b]) := fun x hx => by
  rcases List.mem_append.1 hx with hx | hx
  · have := h x hx; omega
  · simp at hx; rcases hx with rfl | rfl <;> assumption
/-- A tree in a box and a list, that are being drawn. -/
structure HvI (φ ψ : List Int → Prop) (w : World) (g A gt : Nat) (p : Option Addr) (n c : Nat) (q : Option Addr) (m d : Nat) (a : Option Addr) (k j : Nat) (wr : World) : Prop where
  B : Blk wr gt #[.slice p n c, .slice q m d] 29
  op : ∃ P, Own w.heap.size wr p n c P ∧ φ P
  oq : ∃ W, Own w.heap.size wr q m d W
  ox : ∃ X, Own w.heap.size wr a k j X ∧ ψ X
  na : blkOf a ≠ some gt
  ap : Apart p a
  aq : Apart q a
  D : Dr g A w wr
  lo : w.heap.size ≤ gt
section
variable {φ ψ ψ' : List Int → Prop} {w wr w' : World} {g A A' gt : Nat} {p : Option Addr} {n c : Nat} {q : Option Addr} {m d : Nat} {a : Option Addr} {k j : Nat}
theorem HvI.mono (h : HvI φ ψ w g A gt p n c q m d a k j wr) (hA : A ≤ A') : HvI φ ψ w g A' gt p n c q m d a k j wr := ⟨h.B, h.op, h.oq, h.ox, h.na, h.ap, h.aq, h.D.mono hA, h.lo⟩
theorem HvI.imp (h : HvI φ ψ w g A gt p n c q m d a k j wr) (f : ∀ X, ψ X → ψ' X) : HvI φ ψ' w g A gt p n c q m d a k j wr := by
  obtain ⟨h1, h2, h3, ⟨X, h4, h4'⟩, h5, h6, h7, h8, h9⟩ := h
  exact ⟨h1, h2, h3, ⟨X, h4, f X h4'⟩, h5, h6, h7, h8, h9⟩
theorem HvI.fr (h : HvI φ ψ w g A gt p n c q m d a k j wr) (f : Fr wr w') : HvI φ ψ w g A gt p n c q m d a k j w' := by
  obtain ⟨h1, ⟨P, h2, h2'⟩, ⟨W, h3⟩, ⟨X, h4, h4'⟩, h5, h6, h7, h8, h9⟩ := h
  exact ⟨h1.fr f, ⟨P, h2.fr f, h2'⟩, ⟨W, h3.fr f⟩, ⟨X, h4.fr f, h4'⟩, h5, h6, h7, h8.fr f, h9⟩
theorem HvI.step (h : HvI φ ψ w g A gt p n c q m d a k j wr) (hg : g < w.heap.size) (E : Dr g A' wr w') : HvI φ ψ w g A' gt p n c q m d a k j w' := by
  obtain ⟨h1, ⟨P, h2, h2'⟩, ⟨W, h3⟩, ⟨X, h4, h4'⟩, h5, h6, h7, h8, h9⟩ := h
  exact ⟨E.blk h1 (by omega), ⟨P, E.own h2 hg, h2'⟩, ⟨W, E.own h3 hg⟩, ⟨X, E.own h4 hg, h4'⟩, h5, h6, h7, h8.trans E, h9⟩
/-- The list grows. -/
theorem HvI.appX (h : HvI φ ψ w g A gt p n c q m d a k j wr) (hg : g < w.heap.size) {g' k' j' : Nat} {X' : List Int} (ho : Own w.heap.size w' (some ⟨g', 0, none⟩) k' j' X') (hX : ψ' X') (hgr : wr.grownBy w' (blkOf a)) (hnew : blkOf a = some g' ∨ wr.heap.size ≤ g') :
    HvI φ ψ' w g A gt p n c q m d (some ⟨g', 0, none⟩) k' j' w' := by
  obtain ⟨h1, ⟨P, h2, h2'⟩, ⟨W, h3⟩, ⟨X, h4, h4'⟩, h5, h6, h7, h8, h9⟩ := h
  have hlt := h1.lt
  have hne : g' ≠ gt := by
    rintro rfl
    rcases hnew with e | e
    · exact h5 e
    · omega
  refine ⟨h1.grown hgr h5, ⟨P, own_row h2 hgr (fun z e1 e2 => h6 z e2 e1), h2'⟩, ⟨W, own_row h3 hgr (fun z e1 e2 => h7 z e2 e1)⟩, ⟨X', ho, hX⟩, fun e => hne (by injection e), fun z e1 e2 => ?_, fun z e1 e2 => ?_, h8.app hgr (fun z e => (h4.blk z e).1) hg, h9⟩
  · obtain rfl : g' = z := by simpa [blkOf] using e2
    rcases hnew with e | e
    · exact h6 g' e1 e
    · have := h2.blk g' e1; omega
  · obtain rfl : g' = z := by simpa [blkOf] using e2
    rcases hnew with e | e
    · exact h7 g' e1 e
    · have := h3.blk g' e1; omega
/-- Another list, of a call's own. -/
theorem HvI.list (h : HvI φ ψ w g A gt p n c q m d a k j wr) (hg : g < w.heap.size) (E : Dr g A' wr w') {a' : Option Addr} {k' j' : Nat} {X : List Int} (oX : Own wr.heap.size w' a' k' j' X) : HvI φ (fun _ => True) w g A' gt p n c q m d a' k' j' w' := by
  obtain ⟨h1, ⟨P, h2, h2'⟩, ⟨W, h3⟩, ⟨X, h4, h4'⟩, h5, h6, h7, h8, h9⟩ := h
  have hs := h8.size
  have hlt := h1.lt
  refine ⟨E.blk h1 (by omega), ⟨P, E.own h2 hg, h2'⟩, ⟨W, E.own h3 hg⟩, ⟨_, oX.mono hs, trivial⟩, fun e => ?_, fun z e1 e2 => ?_, fun z e1 e2 => ?_, h8.trans E, h9⟩
  · have := (oX.blk gt e).1; omega
  · have := (h2.blk z e1).2; have := (oX.blk z e2).1; omega
  · have := (h3.blk z e1).2; have := (oX.blk z e2).1; omega
/-- A number of the list is set. -/
theorem HvI.setX {ga i : Nat} (h : HvI φ ψ w g A gt p n c q m d (some ⟨ga, 0, none⟩) k j wr) (hg : g < w.heap.size) (hk : i < k) {v : Int} (hv : I64 v) : HvI φ (fun _ => True) w g A gt p n c q m d (some ⟨ga, 0, none⟩) k j (wr.setCell ⟨ga, i, none⟩ (.int .i64 v)) := by
  obtain ⟨h1, ⟨P, h2, h2'⟩, ⟨W, h3⟩, ⟨X, h4, h4'⟩, h5, h6, h7, h8, h9⟩ := h
  have hlo := (h4.blk ga rfl).1
  exact ⟨h1.other (p := ⟨ga, i, none⟩) (fun e => h5 (by rw [← e]; rfl)) _, ⟨P, h2.setOther (p := ⟨ga, i, none⟩) (fun e => h6 ga e rfl) _, h2'⟩, ⟨W, h3.setOther (p := ⟨ga, i, none⟩) (fun e => h7 ga e rfl) _⟩, ⟨_, h4.set rfl hk hv, trivial⟩, h5, h6, h7, h8.set (q := ⟨ga, i, none⟩) hlo hg _, h9⟩
/-- The box has another tree, of new memory. -/
theorem HvI.tree (h : HvI φ ψ w g A gt p n c q m d a k j wr) (hg : g < w.heap.size) {φ' : List Int → Prop} {p' q' : Option Addr} {n' c' m' d' : Nat} {P' W' : List Int} (f : Fr wr w') (hP : Own wr.heap.size w' p' n' c' P') (hφ : φ' P') (hW : Own wr.heap.size w' q' m' d' W') :
    HvI φ' ψ w g A gt p' n' c' q' m' d' a k j ((w'.setCell ⟨gt, 0, none⟩ (.slice p' n' c')).setCell ⟨gt, 1, none⟩ (.slice q' m' d')) := by
  obtain ⟨h1, _, _, ⟨X, h4, h4'⟩, h5, h6, h7, h8, h9⟩ := h
  have hlt := h1.lt
  have E := ((h1.fr f).set 0 (.slice p' n' c')).set 1 (.slice q' m' d')
  simp only [List.setIfInBounds_toArray, List.set_cons_zero, List.set_cons_succ] at E
  have hp : blkOf p' ≠ some gt := fun e => by have := (hP.blk gt e).1; omega
  have hq : blkOf q' ≠ some gt := fun e => by have := (hW.blk gt e).1; omega
  have hs := h8.size
  refine ⟨E, ⟨P', ((hP.setOther (p := ⟨gt, 0, none⟩) hp _).setOther (p := ⟨gt, 1, none⟩) hp _).mono hs, hφ⟩, ⟨W', ((hW.setOther (p := ⟨gt, 0, none⟩) hq _).setOther (p := ⟨gt, 1, none⟩) hq _).mono hs⟩,
    ⟨X, ((h4.fr f).setOther (p := ⟨gt, 0, none⟩) h5 _).setOther (p := ⟨gt, 1, none⟩) h5 _, h4'⟩, h5, fun z e1 e2 => ?_, fun z e1 e2 => ?_, ((h8.fr f).set (q := ⟨gt, 0, none⟩) h9 hg _).set (q := ⟨gt, 1, none⟩) h9 hg _, h9⟩
  · have := (hP.blk z e1).1; have := (h4.blk z e2).2; omega
  · have := (hW.blk z e1).1; have := (h4.blk z e2).2; omega
end
/-- A drawn tree and a list. -/
structure TrR (B : Nat) (w : World) (p : Option Addr) (n c : Nat) (q : Option Addr) (m d : Nat) (a : Option Addr) (k j : Nat) : Prop where
  op : ∃ P, Own B w p n c P
  oq : ∃ W, Own B w q m d W
  ox : ∃ X, Own B w a k j X
  ap : Apart p a
  aq : Apart q a
  le : n ≤ 25 ∧ m ≤ 50 ∧ k ≤ 25
theorem HvI.done {φ ψ : List Int → Prop} {w w1 wr : World} {g A A0 gt r : Nat} {p : Option Addr} {n c : Nat} {q : Option Addr} {m d : Nat} {a : Option Addr} {k j : Nat} {T : TypeId} {v0 v1 : Value} (h : HvI φ ψ w1 g A gt p n c q m d a k j wr) (H : Blk wr r #[v0, v1] T) (hr : r < w1.heap.size) (hl : w.heap.size ≤ r) (hg : g < w.heap.size) (D0 : Dr g A0 w w1) (hle : n ≤ 25 ∧ m ≤ 50 ∧ k ≤ 25) :
    Blk ((wr.setCell ⟨r, 0, none⟩ (.slice p n c)).setCell ⟨r, 1, none⟩ (.slice q m d)) r #[.slice p n c, .slice q m d] T ∧ TrR w.heap.size ((wr.setCell ⟨r, 0, none⟩ (.slice p n c)).setCell ⟨r, 1, none⟩ (.slice q m d)) p n c q m d a k j ∧ Dr g A w ((wr.setCell ⟨r, 0, none⟩ (.slice p n c)).setCell ⟨r, 1, none⟩ (.slice q m d)) := by
  obtain ⟨h1, ⟨P, h2, h2'⟩, ⟨W, h3⟩, ⟨X, h4, h4'⟩, h5, h6, h7, h8, h9⟩ := h
  have E := (H.set 0 (.slice p n c)).set 1 (.slice q m d)
  simp only [List.setIfInBounds_toArray, List.set_cons_zero, List.set_cons_succ] at E
  have n1 : blkOf p ≠ some r := fun e => by have := (h2.blk r e).1; omega
  have n2 : blkOf q ≠ some r := fun e => by have := (h3.blk r e).1; omega
  have n3 : blkOf a ≠ some r := fun e => by have := (h4.blk r e).1; omega
  refine ⟨E, ⟨⟨P, ((h2.setOther (p := ⟨r, 0, none⟩) n1 _).setOther (p := ⟨r, 1, none⟩) n1 _).mono (by omega)⟩, ⟨W, ((h3.setOther (p := ⟨r, 0, none⟩) n2 _).setOther (p := ⟨r, 1, none⟩) n2 _).mono (by omega)⟩, ⟨X, ((h4.setOther (p := ⟨r, 0, none⟩) n3 _).setOther (p := ⟨r, 1, none⟩) n3 _).mono (by omega)⟩, h6, h7, hle⟩, ((D0.trans h8).set (q := ⟨r, 0, none⟩) hl hg _).set (q := ⟨r, 1, none⟩) hl hg _⟩
theorem lit3k (V : World) : ∀ i, i < 3 → ∃ x, (V.alloc (.cells #[.int .i64 1, .int .i64 (-1), .int .i64 1000] 3)).cell? ⟨V.heap.size, i, none⟩ = some (.int .i64 x) ∧ (-1 ≤ x ∧ x ≤ 1000) := fun i hi => by
  have h : i = 0 ∨ i = 1 ∨ i = 2 := by omega
  rcases h with rfl | rfl | rfl
  all_goals exact ⟨_, by rw [cell_of_row _ _ _ _ _ _ (heap_alloc_new _ _)]; rfl, by omega⟩
theorem keep_own {B g A k j i : Nat} {ψ : List Int → Prop} {ga : Nat} {w0 wr w' : World} {v : Value} (ho : ∃ X, Own B w0 (some ⟨ga, 0, none⟩) k j X ∧ ψ X) (hg : g < B) (E : Dr g A wr w') (hc : wr.cell? ⟨ga, i, none⟩ = some v) : w'.cell? ⟨ga, i, none⟩ = some v := by
  obtain ⟨X, oX, _⟩ := ho
  have := (oX.blk ga rfl).1
  exact E.grow.cell hc (fun e => by injection e with e; simp only at e; omega)
set_option maxRecDepth 100000 in
set_option maxHeartbeats 2000000 in
theorem halves_dr {g A : Nat} {w0 : World} (w : World) (h : Dr g A w0 w) (hA : A ≤ 900000000) :
    Calls Try.prog 97 #[.pointer (some ⟨g, 0, none⟩)] w fun e w' => ∃ (p : Option Addr) (n c : Nat) (q : Option Addr) (m d : Nat) (a : Option Addr) (k j : Nat), e = .returned (.tuple #[.agg #[.slice p n c, .slice q m d], .slice a k j]) ∧ TrR w.heap.size w' p n c q m d a k j ∧ Dr g (A + 1000) w0 w' ∧ Dr g (A + 1000) w w' := by
  have hg0 := h.cur.lt
  have hself := Dr.refl h.cur
  have HD0 := Lib.hid (hself.alloc (.cells #[.slice none 0 0, .slice none 0 0] 29))
  have H2 := Lib.hid (Blk.new w #[.slice none 0 0, .slice none 0 0] 29)
  clear hself
  go_enter Try.func97, Try.ntmps97
  go_upto_region 1 with fail
  generalize hw1 : w.alloc (.cells #[.slice none 0 0, .slice none 0 0] 29) = w1 at HD0 H2 ⊢
  have z1 : w1.heap.size = w.heap.size + 1 := by rw [← hw1]; simp
  clear hw1
  have hg : g < w1.heap.size := by omega
  have zlt : w.heap.size < w1.heap.size := by omega
  clear z1
  have HG4 : Hid (g ≠ w.heap.size) := Lib.hid (by omega)
  go_wp2_with fail
  refine (one_dr _ 4 (Dr.refl HD0.out.cur) (by omega) (by unfold I64; omega)).mono ?_
  rintro e w2 ⟨b, rfl, D2, E2⟩
  cases b
  · clear D2
    have oP := Own.lit (B := w1.heap.size) (w := w2) (n := 7) [-1, 0, 0, 1, 1, 2, 2] E2.size (by unfold I64; simp) rfl rfl (by simp)
    have oW := Own.lit (B := w1.heap.size) (w := w2.alloc (.cells #[.int .i64 (-1), .int .i64 0, .int .i64 0, .int .i64 1, .int .i64 1, .int .i64 2, .int .i64 2] 3)) (n := 7) [0, 0, 0, 1, 1, 1, 1] (by have := E2.size; simp; omega) (by unfold I64; simp) rfl rfl (by simp)
    have D2 := E2.fr (((Fr.refl w2).alloc (.cells #[.int .i64 (-1), .int .i64 0, .int .i64 0, .int .i64 1, .int .i64 1, .int .i64 2, .int .i64 2] 3)).alloc (.cells #[.int .i64 0, .int .i64 0, .int .i64 0, .int .i64 1, .int .i64 1, .int .i64 1, .int .i64 1] 3))
    rw [World.size_alloc] at oW
    go_wp2_with fail
    refine (pick_dr _ 9 D2 (by omega) (by unfold I64; omega)).mono ?_
    rintro e w3 ⟨x, rfl, hx, D3, E3⟩
    have s3 := E3.size
    simp only [World.size_alloc] at s3
    have oP3 := E3.own (oP.fr ((Fr.refl _).alloc _)) hg
    have oW3 := E3.own oW hg
    have hsz := D3.size
    have oX := Own.lit1 (B := w1.heap.size) (w := w3) (z := x - 4) hsz (by unfold I64; omega)
    clear oP oW D2 E3 E2
    have fc := ((Fr.refl w3).alloc (.cells #[.int .i64 (x - 4)] 3)).alloc (.cells #[.slice (some ⟨w2.heap.size, 0, none⟩) 7 7, .slice (some ⟨w2.heap.size + 1, 0, none⟩) 7 7] 29)
    have S0 : HvI (odP 7) (bdX 10) w1 g (A + 4) (w3.heap.size + 1) (some ⟨w2.heap.size, 0, none⟩) 7 7 (some ⟨w2.heap.size + 1, 0, none⟩) 7 7 (some ⟨w3.heap.size, 0, none⟩) 1 1 ((w3.alloc (.cells #[.int .i64 (x - 4)] 3)).alloc (.cells #[.slice (some ⟨w2.heap.size, 0, none⟩) 7 7, .slice (some ⟨w2.heap.size + 1, 0, none⟩) 7 7] 29)) :=
      ⟨by have E := Blk.new (w3.alloc (.cells #[.int .i64 (x - 4)] 3)) #[.slice (some ⟨w2.heap.size, 0, none⟩) 7 7, .slice (some ⟨w2.heap.size + 1, 0, none⟩) 7 7] 29; rw [World.size_alloc] at E; exact E, ⟨_, oP3.fr fc, odP7⟩, ⟨_, oW3.fr fc⟩, ⟨_, oX.fr ((Fr.refl _).alloc _), fun y hy => by simp at hy; omega⟩, fun e => by simp [blkOf] at e, fun z e1 e2 => by simp [blkOf] at e1 e2; omega, fun z e1 e2 => by simp [blkOf] at e1 e2; omega, D3.fr fc, by omega⟩
    clear oP3 oW3 oX fc
    go_upto_region 5 with fail
    generalize hgt : w3.heap.size + 1 = gt at S0
    generalize w2.heap.size = g2 at S0 ⊢
    generalize w3.heap.size = g3 at S0 ⊢
    generalize (w3.alloc (.cells #[.int .i64 (x - 4)] 3)).alloc _ = w4 at S0 ⊢
    clear hgt s3 D3 hsz hx
    go_wp2_with fail
    refine (one_dr _ 3 S0.D (by omega) (by unfold I64; omega)).mono ?_
    rintro e w5 ⟨b, rfl, D5, E5⟩
    have S5 := S0.step hg E5
    clear S0 D5 E5
    go_upto_if 26 with fail
    go_cut [] from 27 to 29 (fun wx => ∃ (n : Nat) (p q : Option Addr), (n = 5 ∨ n = 7) ∧ HvI (odP n) (bdX 10) w1 g (A + 6) gt p n n q n n (some ⟨g3, 0, none⟩) 1 1 wx)
    case first =>
      cases b
      · go_wp2_with fail
        go_meet
        exact ⟨7, _, _, .inr rfl, S5⟩
      · have oP := Own.lit (B := w5.heap.size) (w := w5) (n := 5) [-1, 0, 0, 1, 1] (Nat.le_refl _) (by unfold I64; simp) rfl rfl (by simp)
        have oW := Own.lit (B := w5.heap.size) (w := w5.alloc (.cells #[.int .i64 (-1), .int .i64 0, .int .i64 0, .int .i64 1, .int .i64 1] 3)) (n := 5) [0, 0, 2, 1, 1] (by simp) (by unfold I64; simp) rfl rfl (by simp)
        have oP2 := oP.fr ((Fr.refl _).alloc (.cells #[.int .i64 0, .int .i64 0, .int .i64 2, .int .i64 1, .int .i64 1] 3))
        have fab := ((Fr.refl w5).alloc (.cells #[.int .i64 (-1), .int .i64 0, .int .i64 0, .int .i64 1, .int .i64 1] 3)).alloc (.cells #[.int .i64 0, .int .i64 0, .int .i64 2, .int .i64 1, .int .i64 1] 3)
        have BX := S5.B.fr fab
        have f0 := BX.free 0; have f1 := BX.free 1; have i0 := BX.cell (j := 0) rfl; have i1 := BX.cell (j := 1) rfl
        rw [World.size_alloc] at oW
        have E := S5.tree hg fab oP2 odP5 oW
        clear oP oP2 oW BX S5 fab
        go_wp2_with fail
        go_meet
        exact ⟨5, _, _, .inl rfl, E⟩
    case rest =>
      obtain ⟨n, p, q, hn, S6⟩ := hcut
      obtain ⟨w6, rfl⟩ : ∃ wz : World, wz = wc := ⟨_, rfl⟩
      clear S5
      have S7 : HvI (odP n) (bdX (10 + 3 * (1 : Nat))) w1 g (A + 10 + 2 * 1) gt p n n q n n (some ⟨g3, 0, none⟩) 1 1 w6 := (S6.mono (by omega)).imp (fun X h x hx => by have := h x hx; omega)
      clear S6
      go_wp2
      go_loopw [6, 7] (fun s i wr => ∃ (x : Nat) (a : Option Addr) (j : Nat), (x ≤ n ∧ x % 2 = 1) ∧ i = .int .i64 x ∧ s = .slice a x j ∧ HvI (odP n) (bdX (10 + 3 * (x : Nat))) w1 g (A + 10 + 2 * x) gt p n n q n n a x j wr) (fun _ i _ => n - (intOf i).toNat)
      case atStart => exact ⟨1, _, _, by omega, rfl, rfl, S7⟩
      case round =>
        clear S7
        obtain ⟨x, a, j, hx, rfl, rfl, S⟩ := hrel
        obtain ⟨wo, rfl⟩ : ∃ wo : World, wo = wr := ⟨_, rfl⟩
        by_cases hlt : x < n
        · have vx0 : (0 : Int) ≤ (x : Int) := by omega
          have vx : (x : Int) < (n : Int) := by omega
          have c0 := S.B.cell (j := 0) rfl
          go_wp2_with fail
          refine (pick_dr _ 7 S.D (by omega) (by unfold I64; omega)).mono ?_
          rintro e w7 ⟨r, rfl, hr, D7, E7⟩
          have S8 := S.step hg E7
          clear S D7 E7 c0
          obtain ⟨P, oP, hP⟩ := S8.op
          obtain ⟨X, oX, hX⟩ := S8.ox
          obtain ⟨hv0, hv1⟩ := hP x hlt hx.2
          obtain ⟨gp, rfl, _, _, qP, _⟩ := oP.op (by omega)
          replace qP := qP x hlt
          obtain ⟨v, hv⟩ := Int.eq_ofNat_of_zero_le hv0
          rw [hv] at qP hv1
          have hvx : v < x := by omega
          have vv0 : (0 : Int) ≤ (v : Int) := by omega
          obtain ⟨ga, rfl, _, _, qX, _⟩ := oX.op (by omega)
          replace qX := qX v hvx
          have hb := bdX_nth hX (by omega) v
          generalize nth X v = t at qX hb
          have hsz := S8.D.size
          have c0 := S8.B.cell (j := 0) rfl
          have HX : Hid (bdX (10 + 3 * (x + 2 : Nat)) (X ++ [t + (r - 3), t - (r - 3)])) := Lib.hid (bdX_two hX (by omega) (by omega) (by omega))
          clear hP hv hv0 hX
          have e1 : IntKind.i64.wrap (t + (r - 3)) = t + (r - 3) := IntWalk.i64_in _ (by omega)
          have e2 : IntKind.i64.wrap (t - (r - 3)) = t - (r - 3) := IntWalk.i64_in _ (by omega)
          have S9 := S8.fr (((Fr.refl w7).alloc (.cells #[.int .i64 (t + (r - 3)), .int .i64 (t - (r - 3))] 3)).drew' 1)
          clear oP
          go_upto_region 11 with fail
          go_region_law (first
            | (refine step_ap_two _ rfl _ _ rfl w1.heap.size (some ⟨ga, 0, none⟩) x j X (t + (r - 3)) (t - (r - 3)) w7.heap.size (by rfl) (by rfl) (oX.fr (((Fr.refl _).alloc _).drew' 1)) (by simp; omega) (cell_of_row (w7.alloc (.cells #[.int .i64 (t + (r - 3)), .int .i64 (t - (r - 3))] 3)) w7.heap.size 0 _ 3 (0, 0) (heap_alloc_new w7 _)) (cell_of_row (w7.alloc (.cells #[.int .i64 (t + (r - 3)), .int .i64 (t - (r - 3))] 3)) w7.heap.size 1 _ 3 (0, 0) (heap_alloc_new w7 _)) (by unfold I64; omega) (by unfold I64; omega) (by omega) (w7.heap.size + 1) (by simp) ?_; intro g' c' w' q1 q2 q3))
          all_goals
            have E := S9.appX hg q1 (ψ' := bdX (10 + 3 * (x + 2 : Nat))) HX.out q2 (by
              rcases q3 with h | h
              · exact .inl h
              · right; simp; omega)
            clear S8 S9 oX q1 q2 q3 HX c0 qX qP
            go_wp2
            go_roundw
            case rel => exact ⟨x + 2, _, _, by omega, by go_num, rfl, E.mono (by omega)⟩
            case measure => simp [intOf]; omega
        · obtain rfl : n = x := by omega
          have S1 := S.mono (show A + 10 + 2 * n ≤ A + 30 by omega)
          have vn : (0 : Int) < (n : Int) := by omega
          have c0 := S1.B.cell (j := 0) rfl
          clear S
          go_wp2_with fail
          clear c0
          refine (one_dr _ 8 S1.D (by omega) (by unfold I64; omega)).mono ?_
          rintro e w7 ⟨b, rfl, D7, E7⟩
          have S8 := S1.step hg E7
          clear S1 D7 E7
          go_upto_if 64 with fail
          go_cut [] from 65 to 79 (fun wx => HvI (odP n) (fun _ => True) w1 g (A + 40) gt p n n q n n a n j wx)
          case first =>
            cases b
            · go_wp2_with fail
              go_meet
              exact (S8.imp (ψ' := fun _ => True) (fun _ _ => trivial)).mono (by omega)
            · go_wp2_with fail
              refine (pick_dr _ n S8.D (by omega) (by unfold I64; omega)).mono ?_
              rintro e w8 ⟨k, rfl, hk, D8, E8⟩
              have S9 := S8.step hg E8
              clear S8 D8 E8
              obtain ⟨k, rfl⟩ := Int.eq_ofNat_of_zero_le hk.1
              have hkn : k < n := by omega
              have vk0 : (0 : Int) ≤ (k : Int) := by omega
              have vk : (k : Int) < (n : Int) := by omega
              obtain ⟨X, oX, hX⟩ := S9.ox
              obtain ⟨ga, rfl, _, _, qX, _⟩ := oX.op (by omega)
              replace qX := qX k hkn
              have hb := bdX_nth hX (by omega) k
              obtain ⟨t, ht⟩ : ∃ t, t = nth X k := ⟨_, rfl⟩
              rw [← ht] at qX hb
              have sB : w8.drew.cell? ⟨ga, k, none⟩ = some (.int .i64 t) := qX
              have SB : HvI (odP n) (bdX (10 + 3 * (n : Nat))) w1 g (A + 30 + 2 + 2) gt p n n q n n (some ⟨ga, 0, none⟩) n j (w8.alloc (.cells #[.int .i64 1, .int .i64 (-1), .int .i64 1000] 3)) := S9.fr ((Fr.refl w8).alloc (.cells #[.int .i64 1, .int .i64 (-1), .int .i64 1000] 3))
              have SC : HvI (odP n) (bdX (10 + 3 * (n : Nat))) w1 g (A + 30 + 2 + 2) gt p n n q n n (some ⟨ga, 0, none⟩) n j (w8.alloc (.cells #[.int .i64 1, .int .i64 (-1), .int .i64 1000] 3)).drew := S9.fr (((Fr.refl w8).alloc (.cells #[.int .i64 1, .int .i64 (-1), .int .i64 1000] 3)).drew' 1)
              have SD : HvI (odP n) (bdX (10 + 3 * (n : Nat))) w1 g (A + 30 + 2 + 2) gt p n n q n n (some ⟨ga, 0, none⟩) n j (w8.drew.alloc (.cells #[.int .i64 1, .int .i64 (-1), .int .i64 1000] 3)) := S9.fr ((Fr.drewN w8 1).alloc (.cells #[.int .i64 1, .int .i64 (-1), .int .i64 1000] 3))
              have sC := ((Fr.refl w8).alloc (.cells #[.int .i64 1, .int .i64 (-1), .int .i64 1000] 3)).keep qX
              have sD : (w8.alloc (.cells #[.int .i64 1, .int .i64 (-1), .int .i64 1000] 3)).drew.cell? ⟨ga, k, none⟩ = some (.int .i64 t) := sC
              have sE : (w8.drew.alloc (.cells #[.int .i64 1, .int .i64 (-1), .int .i64 1000] 3)).cell? ⟨ga, k, none⟩ = some (.int .i64 t) := ((Fr.drewN w8 1).alloc _).keep qX
              have LB := lit3k w8
              have LC : ∀ i, i < 3 → ∃ x, (w8.alloc (.cells #[.int .i64 1, .int .i64 (-1), .int .i64 1000] 3)).drew.cell? ⟨w8.heap.size, i, none⟩ = some (.int .i64 x) ∧ (-1 ≤ x ∧ x ≤ 1000) := LB
              have LD : ∀ i, i < 3 → ∃ x, (w8.drew.alloc (.cells #[.int .i64 1, .int .i64 (-1), .int .i64 1000] 3)).cell? ⟨w8.heap.size, i, none⟩ = some (.int .i64 x) ∧ (-1 ≤ x ∧ x ≤ 1000) := lit3k w8.drew
              have hlt := S9.D.cur.lt
              clear oX hX ht
              go_upto_region 14 with fail
              go_region_with (go_at_call 96; go_must (refine (among_any g _ w8.heap.size 3 3 (fun x => -1 ≤ x ∧ x ≤ 1000) _ (by first | with_reducible exact SC.D.cur | with_reducible exact SB.D.cur | with_reducible exact SD.D.cur) (by omega) (by omega) (by omega) (by omega) (by first | with_reducible exact LC | with_reducible exact LB | with_reducible exact LD)).mono ?_; rintro e wb ⟨z, rfl, hz, Cb, gB⟩; have EB : Dr g _ _ wb := ⟨Cb, gB⟩; have PB : HvI (odP n) (bdX (10 + 3 * (n : Nat))) w1 g (A + 30 + 2 + 2 + 2) gt p n n q n n (some ⟨ga, 0, none⟩) n j wb := (by first | with_reducible exact SC.step hg EB | with_reducible exact SB.step hg EB | with_reducible exact SD.step hg EB); have sF : wb.cell? ⟨ga, k, none⟩ = some (.int .i64 t) := (by first | with_reducible exact keep_own S9.ox hg EB sD | with_reducible exact keep_own S9.ox hg EB sC | with_reducible exact keep_own S9.ox hg EB sE); have z5 : wb.frozen? ⟨ga, k, none⟩ = false := (by obtain ⟨_, oo, _⟩ := PB.ox; exact oo.frz k); have e9 : IntKind.i64.wrap (t + z) = t + z := IntWalk.i64_in _ (by omega); have FIN := Lib.hid (PB.setX hg hkn (show I64 (t + z) by unfold I64; omega))))
              all_goals
                go_wp2_with fail
                go_meet
                exact FIN.out.mono (by omega)
          case rest =>
            obtain ⟨w8, rfl⟩ : ∃ wz : World, wz = wc := ⟨_, rfl⟩
            have S9 := hcut
            clear hcut S8
            have HB := S9.D.blk H2.out HG4.out
            have f0 := HB.free 0; have f1 := HB.free 1; have i0 := HB.cell (j := 0) rfl; have i1 := HB.cell (j := 1) rfl
            have c0 := S9.B.cell (j := 0) rfl; have c1 := S9.B.cell (j := 1) rfl
            have FIN := Lib.hid (S9.done HB zlt (Nat.le_refl _) hg0 HD0.out (by omega))
            clear S9 HB
            go_wp2
            refine bodyPost_ret (results_TS Try.results97 _ _ w.heap.size (.slice p n n) (.slice q n n) _ rfl rfl (FIN.out.1.cell rfl) (FIN.out.1.cell rfl)) rfl ?_
            have D9 := FIN.out.2.2.mono (show _ ≤ A + 1000 by omega)
            exact ⟨_, _, _, _, _, _, _, _, _, rfl, FIN.out.2.1, h.trans D9, D9⟩
  · have B2 := E2.blk H2.out HG4.out
    clear D2
    have hs2 := E2.size
    go_wp2_with fail
    refine (someTree_dr _ 9 E2 (by omega) (by omega)).mono ?_
    rintro e w3 ⟨p, n, c, q, m, d, rfl, ⟨P, oP⟩, ⟨W, oW⟩, hle, D3, E3⟩
    have B3 := E3.blk B2 HG4.out
    clear B2 E3 E2
    have fa := (Fr.refl w3).alloc (.cells #[.slice p n c, .slice q m d] 29)
    have fb : Fr w3 (w3.alloc (.cells #[.slice p n c, .slice q m d] 29)).drew := ((Fr.refl w3).alloc (.cells #[.slice p n c, .slice q m d] 29)).drew' 1
    have T0 := Blk.new w3 #[.slice p n c, .slice q m d] 29
    have hs3 := D3.size
    have SA : HvI (fun _ => True) (fun _ => True) w1 g (A + 502) w3.heap.size p n c q m d none 0 0 (w3.alloc (.cells #[.slice p n c, .slice q m d] 29)) :=
      ⟨T0, ⟨P, (oP.mono (by omega)).fr fa, trivial⟩, ⟨W, (oW.mono (by omega)).fr fa⟩, ⟨[], own_nil _ _, trivial⟩, fun e => by simp [blkOf] at e, fun z e1 e2 => by simp [blkOf] at e2, fun z e1 e2 => by simp [blkOf] at e2, (D3.fr fa).mono (by omega), by omega⟩
    have SB : HvI (fun _ => True) (fun _ => True) w1 g (A + 502) w3.heap.size p n c q m d none 0 0 (w3.alloc (.cells #[.slice p n c, .slice q m d] 29)).drew := SA.fr ((Fr.refl _).drew' 1)
    have BA := B3.fr fa
    have BB : Blk (w3.alloc (.cells #[.slice p n c, .slice q m d] 29)).drew w.heap.size #[.slice none 0 0, .slice none 0 0] 29 := B3.fr fb
    have c0 := SA.B.cell (j := 0) rfl; have c1 := SA.B.cell (j := 1) rfl
    have d0 : (w3.alloc (.cells #[.slice p n c, .slice q m d] 29)).drew.cell? ⟨w3.heap.size, 0, none⟩ = some (.slice p n c) := SB.B.cell (j := 0) rfl
    have d1 : (w3.alloc (.cells #[.slice p n c, .slice q m d] 29)).drew.cell? ⟨w3.heap.size, 1, none⟩ = some (.slice q m d) := SB.B.cell (j := 1) rfl
    clear T0 B3 oP oW D3
    go_upto_region 3 with fail
    go_region_with (go_at_call 135; refine (pays_dr _ p q n c m d (by first | with_reducible exact SB.D | with_reducible exact SA.D) (by omega) (by omega)).mono ?_; rintro e w5 ⟨a, k, j, rfl, ⟨X, oX⟩, hk, D5, E5⟩; have SC : HvI (fun _ => True) (fun _ => True) w1 g (A + 502 + 100) w3.heap.size p n c q m d a k j w5 := (by first | with_reducible exact SB.list hg E5 oX | with_reducible exact SA.list hg E5 oX); have BC : Blk w5 w.heap.size #[.slice none 0 0, .slice none 0 0] 29 := (by first | with_reducible exact E5.blk BB HG4.out | with_reducible exact E5.blk BA HG4.out); have k0 := SC.B.cell (j := 0) rfl; have k1 := SC.B.cell (j := 1) rfl; have r0 := BC.free 0; have r1 := BC.free 1; have i0 := BC.cell (j := 0) rfl; have i1 := BC.cell (j := 1) rfl; have FIN := Lib.hid (SC.done BC zlt (Nat.le_refl _) hg0 HD0.out (by omega)))
    all_goals
      go_wp2
      refine bodyPost_ret (results_TS Try.results97 _ _ w.heap.size (.slice p n c) (.slice q m d) _ rfl rfl (FIN.out.1.cell rfl) (FIN.out.1.cell rfl)) rfl ?_
      have D9 := FIN.out.2.2.mono (show _ ≤ A + 1000 by omega)
      exact ⟨_, _, _, _, _, _, _, _, _, rfl, FIN.out.2.1, h.trans D9, D9⟩
end Go.Proofs.Ytojipjjfndgbhaa
/- Draws of fair processes. -/
set_option linter.unusedVariables false
namespace Go.Proofs.Ytojipjjfndgbhaa
open Go.ChangeShapes Go.WideShapes Go.ChangeAt Go.RowKit
theorem LsI.set {w : World} {g A gp m c k : Nat} {wr : World} (h : LsI w g A (some ⟨gp, 0, none⟩) m c wr) (hg : g < w.heap.size) (hk : k < m) {v : Int} (hv : I64 v) : LsI w g A (some ⟨gp, 0, none⟩) m c (wr.setCell ⟨gp, k, none⟩ (.int .i64 v)) := by
  obtain ⟨⟨xs, h1⟩, D⟩ := h
  exact ⟨⟨_, h1.set rfl hk hv⟩, D.set (q := ⟨gp, k, none⟩) (h1.blk gp rfl).1 hg _⟩
theorem LsI.fr {w : World} {g A : Nat} {p : Option Addr} {m c : Nat} {wr w' : World} (h : LsI w g A p m c wr) (f : Fr wr w') : LsI w g A p m c w' := by
  obtain ⟨⟨xs, h1⟩, D⟩ := h
  exact ⟨⟨xs, h1.fr f⟩, D.fr f⟩
theorem LsI.ptr {w : World} {g A : Nat} {p : Option Addr} {m c : Nat} {wr : World} (h : LsI w g A p m c wr) (hm : 0 < m) : ∃ ga, p = some ⟨ga, 0, none⟩ := by
  obtain ⟨⟨xs, h1⟩, D⟩ := h
  obtain ⟨ga, h2, _⟩ := h1.op hm
  exact ⟨ga, h2⟩
theorem LsI.at {w : World} {g A ga m c k : Nat} {wr : World} (h : LsI w g A (some ⟨ga, 0, none⟩) m c wr) (hk : k < m) : ∃ t, wr.cell? ⟨ga, k, none⟩ = some (.int .i64 t) ∧ I64 t := by
  obtain ⟨⟨xs, h1⟩, D⟩ := h
  exact ⟨_, h1.cellAt rfl hk, h1.sl.rngAt k⟩
theorem LsI.frz {w : World} {g A ga m c : Nat} {wr : World} (h : LsI w g A (some ⟨ga, 0, none⟩) m c wr) (k : Nat) : wr.frozen? ⟨ga, k, none⟩ = false := by
  obtain ⟨⟨xs, h1⟩, D⟩ := h
  exact h1.frz k
theorem LsI.blt {w : World} {g A ga m c : Nat} {wr : World} (h : LsI w g A (some ⟨ga, 0, none⟩) m c wr) : w.heap.size ≤ ga ∧ ga < wr.heap.size := by
  obtain ⟨⟨xs, h1⟩, D⟩ := h
  exact h1.blk ga rfl
theorem i64_wrap64 (x : Int) : I64 (wrap64 x) := by unfold I64 wrap64; omega
theorem i64_most64 (x : Int) : I64 (max (-999) (wrap64 x)) := by have := i64_wrap64 x; unfold I64 at *; omega
theorem LsI.fin {w w4 wr : World} {g A A0 A2 : Nat} {p : Option Addr} {m c : Nat} (h : LsI w4 g A p m c wr) (D : Dr g A0 w w4) (hA : A ≤ A2) : (∃ X, Own w.heap.size wr p m c X) ∧ Dr g A2 w wr := by
  obtain ⟨⟨X, oX⟩, E⟩ := h
  exact ⟨⟨X, oX.mono D.size⟩, (D.trans E).mono hA⟩
theorem i64_wrap (x : Int) : I64 (IntKind.i64.wrap x) := by have := bounds_i64 (wf_wrap .i64 x); unfold I64; omega
theorem i64_most (x : Int) : I64 (max (-999) (IntKind.i64.wrap x)) := by have := i64_wrap x; unfold I64 at *; omega
set_option maxRecDepth 100000 in
set_option maxHeartbeats 4000000 in
theorem fair3_dr {g A : Nat} {w0 : World} (w : World) (p q : Option Addr) (n c m d : Nat) (P W : List Int) (h : Dr g A w0 w) (hA : A ≤ 900000000) (hP : SL w p n c P) (hW : SL w q m d W) (hp : ∀ k, blkOf p = some k → k ≠ g) (hq : ∀ k, blkOf q = some k → k ≠ g) (hn : n ≤ 1000000) :
    Calls Try.prog 102 #[.pointer (some ⟨g, 0, none⟩), .agg #[.slice p n c, .slice q m d]] w fun e w' => ∃ (a : Option Addr) (l j : Nat), e = .returned (.slice a l j) ∧ (∃ xs, Own w.heap.size w' a l j xs) ∧ l ≤ 25 ∧ Dr g (A + 1000) w0 w' ∧ Dr g (A + 1000) w w' := by
  have HP := Lib.hid hP.len; have HW := Lib.hid hW.len
  have hg0 := h.cur.lt
  have fb := (Fr.refl w).alloc (.cells #[.slice p n c, .slice q m d] 29)
  have D0 := (Dr.refl h.cur).fr fb
  have B0 := Blk.new w #[.slice p n c, .slice q m d] 29
  have P0 := hP.fr fb; have W0 := hW.fr fb
  have zlt : w.heap.size < (w.alloc (.cells #[.slice p n c, .slice q m d] 29)).heap.size := by simp
  go_enter Try.func102, Try.ntmps102
  clear hP hW
  go_upto_region 1 with fail
  generalize hb3 : w.heap.size = b3 at B0 zlt
  generalize w.alloc (.cells #[.slice p n c, .slice q m d] 29) = w1 at D0 B0 P0 W0 zlt ⊢
  have c0 := B0.cell (j := 0) rfl; have c1 := B0.cell (j := 1) rfl
  go_wp2_with fail
  refine (l2Good_any _ _ _ _ _ _ _ _ _ P0 W0).mono ?_
  rintro e w2 ⟨rfl, f⟩
  have D2 := D0.fr f
  have B2 := B0.fr f
  have P2 := P0.fr f; have W2 := W0.fr f
  have zlt2 : b3 < w2.heap.size := Nat.lt_of_lt_of_le zlt f.size
  clear f c0 c1 P0 W0 B0 D0 zlt
  have c0 := B2.cell (j := 0) rfl; have c1 := B2.cell (j := 1) rfl
  rcases Bool.eq_false_or_eq_true (treeB P W) with ht | ht
  rotate_left
  · rw [ht]
    clear P2 W2 B2
    go_wp2_with fail
    refine (pays_dr _ p q n c m d D2 (by omega) (by omega)).mono ?_
    rintro e w3 ⟨a, l, j, rfl, ⟨X, oX⟩, hl, D3, E3⟩
    have hsz := D2.size
    clear D2
    go_wp2
    go_ret
    exact ⟨_, _, _, rfl, ⟨X, oX.mono hsz⟩, hl, h.trans (D3.mono (by omega)), D3.mono (by omega)⟩
  · rw [ht]
    have Ht := Lib.hid ht
    clear ht
    go_wp2_with fail
    refine (one_dr _ 4 D2 (by omega) (by unfold I64; omega)).mono ?_
    rintro e w3 ⟨b, rfl, D3, E3⟩
    have hsz := D2.size
    have B3 := E3.blk B2 (by omega)
    have P3 := E3.sl P2 hp; have W3 := E3.sl W2 hq
    have hsz3 := D3.size
    have zlt3 : b3 < w3.heap.size := Nat.lt_of_lt_of_le zlt2 E3.size
    clear c0 c1 B2 P2 W2 D2 E3 zlt2
    have c0 := B3.cell (j := 0) rfl; have c1 := B3.cell (j := 1) rfl
    cases b
    rotate_left
    · clear P3 W3 B3
      go_wp2_with fail
      refine (pays_dr _ p q n c m d D3 (by omega) (by omega)).mono ?_
      rintro e w4 ⟨a, l, j, rfl, ⟨X, oX⟩, hl, D4, E4⟩
      clear D3
      go_wp2
      go_ret
      exact ⟨_, _, _, rfl, ⟨X, oX.mono hsz3⟩, hl, h.trans (D4.mono (by omega)), D4.mono (by omega)⟩
    · obtain ⟨t1, t2, t3, t4⟩ := treeB_iff.1 Ht.out
      have hnm : m = n := by rw [← HW.out, ← HP.out]; exact t2
      subst hnm
      have hn24 : 1 ≤ m ∧ m ≤ 24 := by rw [← HP.out]; exact t1
      have T3 := Lib.hid t3
      clear t1 t2 t3 t4
      go_wp2_with fail
      refine (l2Sums_any _ _ _ _ _ _ _ _ _ P3 W3 Ht.out).mono ?_
      rintro e w4 ⟨a5, n5, c5, rfl, o5, f, hn5⟩
      have h5 : n5 = m := by rw [← o5.len, gathM, gathTo_len, HW.out]
      subst h5
      have D4 := D3.fr f
      have B4 := B3.fr f
      have P4 := P3.fr f; have W4 := W3.fr f
      have hsz4 := D4.size
      have hs5 := o5.sl
      have HQ : Hid (∀ k, blkOf a5 = some k → k ≠ g) := Lib.hid fun k hk => by have := (o5.blk k hk).1; omega
      have zlt4 : b3 < w4.heap.size := Nat.lt_of_lt_of_le zlt3 f.size
      have hg4 : g < w4.heap.size := by omega
      have HG : Hid (g ≠ b3) := Lib.hid (by omega)
      clear c0 c1 P3 W3 B3 D3 f o5 zlt3
      go_wp2_with fail
      refine (pick_dr _ 21 (Dr.refl D4.cur) (by omega) (by unfold I64; omega)).mono ?_
      rintro e w5 ⟨r, rfl, hr, D5, E5⟩
      have oX := Own.lit1 (B := w4.heap.size) (w := w5) (z := r - 5) E5.size (by unfold I64; omega)
      have L5 : LsI w4 g (A + 10) (some ⟨w5.heap.size, 0, none⟩) 1 1 (w5.alloc (.cells #[.int .i64 (r - 5)] 3)) := ⟨⟨_, oX⟩, (E5.alloc _).mono (by omega)⟩
      clear D5 E5 oX
      go_upto_region 5 with fail
      clear hr
      generalize w5.heap.size = g5 at L5 ⊢
      generalize w5.alloc _ = w6 at L5 ⊢
      go_wp2
      go_loopw [6, 7] (fun s i wr => ∃ (x : Nat) (a : Option Addr) (j : Nat), (1 ≤ x ∧ x ≤ n5) ∧ i = .int .i64 x ∧ s = .slice a x j ∧ LsI w4 g (A + 10) a x j wr) (fun _ i _ => n5 - (intOf i).toNat)
      case atStart => exact ⟨1, _, _, by omega, rfl, rfl, L5⟩
      case round =>
        clear L5
        obtain ⟨x, a, j, hx, rfl, rfl, L⟩ := hrel
        obtain ⟨wo, rfl⟩ : ∃ wo : World, wo = wr := ⟨_, rfl⟩
        have vx0 : (0 : Int) ≤ (x : Int) := by omega
        have BW := L.D.blk B4 HG.out
        have c0 := BW.cell (j := 0) rfl
        by_cases hlt : x < n5
        · have vx : (x : Int) < (n5 : Int) := by omega
          obtain ⟨bp, op, rfl, qP⟩ := (L.D.sl P4 hp).cells.resolve_left (by omega)
          replace qP := qP x hlt
          obtain ⟨hv1, hv2⟩ := par_of T3.out (by rw [HP.out]; exact hlt) hx.1
          rw [hv1] at qP
          generalize par P x = v at qP hv2
          have vv0 : (0 : Int) ≤ (v : Int) := by omega
          have vv : (v : Int) < (x : Int) := by omega
          obtain ⟨X, oX⟩ := L.op
          obtain ⟨ga, rfl, _, _, qX, _⟩ := oX.op (by omega)
          replace qX := qX v hv2
          have hI := oX.sl.rngAt v
          generalize nth X v = t at qX hI
          have hsz := L.D.size
          clear BW hv1
          go_wp2_with (at_builtin; refine ap_int _ rfl _ _ rfl w4.heap.size (some ⟨ga, 0, none⟩) x j X _ rfl rfl oX hsz hI (by omega) ?_)
          intro g' c' w' q1 q2 _
          have L2 := L.app hg4 q1 q2
          clear L oX q1 q2 c0 qX qP
          go_wp2
          go_roundw
          case rel => exact ⟨x + 1, _, _, by omega, by go_num, rfl, L2⟩
          case measure => simp [intOf]; omega
        · have hxn : n5 = x := by omega
          have vx : ¬ (x : Int) < (n5 : Int) := by omega
          subst hxn
          obtain ⟨wq, rfl⟩ : ∃ wz : World, wz = wo := ⟨_, rfl⟩
          clear BW
          have L6 := L
          clear L
          obtain ⟨ga, rfl⟩ := L6.ptr (by omega)
          go_wp2
          clear c0
          go_loopw [8] (fun i wr => ∃ (x : Nat), x ≤ n5 ∧ i = .int .i64 x ∧ LsI w4 g (A + 10 + 2 * x) (some ⟨ga, 0, none⟩) n5 j wr) (fun i _ => n5 - (intOf i).toNat)
          case atStart => exact ⟨0, Nat.zero_le _, rfl, L6⟩
          case round =>
            clear L6
            obtain ⟨x, hx, rfl, L⟩ := hrel
            obtain ⟨wo, rfl⟩ : ∃ wo : World, wo = wr := ⟨_, rfl⟩
            have vx0 : (0 : Int) ≤ (x : Int) := by omega
            by_cases hlt : x < n5
            · have vx : (x : Int) < (n5 : Int) := by omega
              have BW := L.D.blk B4 HG.out
              have c0 := BW.cell (j := 0) rfl; have c1 := BW.cell (j := 1) rfl
              go_wp2_with fail
              refine (l2Kids_any _ _ _ _ _ _ _ x _ (L.D.sl P4 hp) T3.out (by omega) hlt).mono ?_
              rintro e w8 ⟨a9, n9, c9, rfl, o9, f, hn9⟩
              have L8 := L.fr f
              have hga := L.blt.2
              clear L f c0 c1 BW
              go_wp2_with fail
              go_loopw [10] (fun i wr => ∃ (y : Nat), y ≤ n9 ∧ i = .int .i64 y ∧ LsI w4 g (A + 10 + 2 * x) (some ⟨ga, 0, none⟩) n5 j wr ∧ Own wo.heap.size wr a9 n9 c9 (kidsTo P x n5)) (fun i _ => n9 - (intOf i).toNat)
              case atStart => exact ⟨0, Nat.zero_le _, rfl, L8, o9⟩
              case round =>
                clear L8 o9
                obtain ⟨y, hy, rfl, L, o9⟩ := hrel
                obtain ⟨wi, rfl⟩ : ∃ wz : World, wz = wr := ⟨_, rfl⟩
                have vy0 : (0 : Int) ≤ (y : Int) := by omega
                by_cases hyl : y < n9
                · have vy : (y : Int) < (n9 : Int) := by omega
                  obtain ⟨z, hz, hzn, _⟩ := kids_nth (P := P) (x := x) (k := n5) (i := y) (by rw [o9.len]; exact hyl)
                  have vz0 : (0 : Int) ≤ (z : Int) := by omega
                  have vz : (z : Int) < (n5 : Int) := by omega
                  have qk := o9.op (by omega)
                  obtain ⟨g9, rfl, hg9, _, qk, _⟩ := qk
                  replace qk := qk y hyl
                  rw [hz] at qk
                  obtain ⟨t, qx, hI⟩ := L.at hlt
                  obtain ⟨_, qz, _⟩ := L.at hzn
                  have fz := L.frz z
                  clear hz
                  have L2 := L.set hg4 hzn hI
                  have o2 := o9.setOther (p := ⟨ga, z, none⟩) (fun e => by injection e with e; simp only at e; omega) (.int .i64 t)
                  clear L o9
                  go_upto_region 16 with fail
                  go_region
                  have L3 := L2.fr ((Fr.refl _).drew' 1)
                  have o3 := o2.fr ((Fr.refl _).drew' 1)
                  clear L2 o2 qk qx qz fz
                  go_wp2
                  go_roundw
                  case rel => exact ⟨y + 1, by omega, by go_num, L3, o3⟩
                  case measure => simp [intOf]; omega
                · obtain rfl : n9 = y := by omega
                  obtain ⟨wj, rfl⟩ : ∃ wz : World, wz = wi := ⟨_, rfl⟩
                  by_cases h9 : 1 < n9
                  rotate_left
                  · have v9 : ¬ (1 : Int) < (n9 : Int) := by omega
                    have L3 := L.mono (show A + 10 + 2 * x ≤ A + 10 + 2 * (x + 1) by omega)
                    clear L o9
                    go_wp2
                    go_roundw
                    case rel => exact ⟨x + 1, by omega, by go_num, L3⟩
                    case measure => simp [intOf]; omega
                  · have v9 : (1 : Int) < (n9 : Int) := by omega
                    have v9a : (0 : Int) < (n9 : Int) := by omega
                    have v9b : (0 : Int) ≤ (n9 : Int) - 1 := by omega
                    have v9c : (n9 : Int) - 1 < (n9 : Int) := by omega
                    obtain ⟨z0, hz0, hn0, _⟩ := kids_nth (P := P) (x := x) (k := n5) (i := 0) (by rw [o9.len]; omega)
                    obtain ⟨z1, hz1, hn1, _⟩ := kids_nth (P := P) (x := x) (k := n5) (i := n9 - 1) (by rw [o9.len]; omega)
                    have qk := o9.op (by omega)
                    obtain ⟨g9, rfl, hg9, _, qk, _⟩ := qk
                    have qk0 := qk 0 (by omega)
                    have qk1 := qk (n9 - 1) (by omega)
                    rw [hz0] at qk0
                    rw [hz1] at qk1
                    have e91 : ((n9 : Int) - 1).toNat = n9 - 1 := by omega
                    clear qk hz0 hz1 o9
                    go_upto_region 18 with fail
                    have hs1 := sums_pos Ht.out z1 (by rw [HP.out]; exact hn1)
                    have hs1b := sums_le Ht.out z1
                    obtain ⟨s0, hs0⟩ : ∃ s0, s0 = nth (gathM P W) z0 := ⟨_, rfl⟩
                    obtain ⟨s1, hse1⟩ : ∃ s1, s1 = nth (gathM P W) z1 := ⟨_, rfl⟩
                    rw [← hse1] at hs1 hs1b
                    go_quiet (fail)
                    go_upto_region 19 with fail
                    clear qk0 qk1
                    generalize hwk : wj.drewN _ = wk
                    have L9 : LsI w4 g (A + 10 + 2 * x) (some ⟨ga, 0, none⟩) n5 j wk := by rw [← hwk]; exact L.fr (Fr.drewN _ _)
                    clear L hwk
                    have v00 : (0 : Int) ≤ (z0 : Int) := by omega
                    have v01 : (z0 : Int) < (n5 : Int) := by omega
                    have v10 : (0 : Int) ≤ (z1 : Int) := by omega
                    have v11 : (z1 : Int) < (n5 : Int) := by omega
                    obtain ⟨t, qt, hI⟩ := L9.at hlt
                    have L9d : LsI w4 g (A + 10 + 2 * x) (some ⟨ga, 0, none⟩) n5 j wk.drew := L9.fr ((Fr.refl wk).drew' 1)
                    have qtd : wk.drew.cell? ⟨ga, x, none⟩ = some (.int .i64 t) := qt
                    obtain ⟨b5, o5, rfl, _⟩ := hs5.cells.resolve_left (by omega)
                    have HS : Hid (∀ (A' : Nat) (V : World), Dr g A' w4 V → V.cell? ⟨b5, o5 + z1, none⟩ = some (.int .i64 s1) ∧ V.cell? ⟨b5, o5 + z0, none⟩ = some (.int .i64 s0)) := Lib.hid fun A' V D => by
                      obtain ⟨b', o', e, hc⟩ := (D.sl hs5 HQ.out).cells.resolve_left (by omega)
                      simp only [Option.some.injEq, Addr.mk.injEq, and_true] at e
                      obtain ⟨rfl, rfl⟩ := e
                      rw [hse1, hs0]
                      exact ⟨hc z1 hn1, hc z0 hn0⟩
                    have qs1 := (HS.out _ _ L9.D).1
                    have qs1d : wk.drew.cell? ⟨b5, o5 + z1, none⟩ = some (.int .i64 s1) := qs1
                    have hgne : g ≠ ga := by have := L9.blt.1; omega
                    have EI0 : ∀ z : Int, I64 z → True := fun _ _ => trivial
                    go_cut [] from 86 to 101 (fun wx => LsI w4 g (A + 10 + 2 * x + 2) (some ⟨ga, 0, none⟩) n5 j wx)
                    case first =>
                      go_region_with (go_at_call 105; go_must (refine (pick_any g (A + 10 + 2 * x) 3 _ (by first | with_reducible exact L9d.D.cur | with_reducible exact L9.D.cur) (by omega) (by unfold I64; omega)).mono ?_; rintro e wb ⟨r2, rfl, hr2a, hr2b, Cb, gB⟩; have Eb : Dr g (A + 10 + 2 * x + 2) _ wb := ⟨Cb, gB⟩; have PB : LsI w4 g (A + 10 + 2 * x + 2) (some ⟨ga, 0, none⟩) n5 j wb := (by first | with_reducible exact L9d.step hg4 Eb | with_reducible exact L9.step hg4 Eb); have qtb : wb.cell? ⟨ga, x, none⟩ = some (.int .i64 t) := Eb.grow.cell (by first | with_reducible exact qtd | with_reducible exact qt) (fun e => hgne (by injection e with e; simp only at e; omega)); have qsb := (HS.out _ _ PB.D).1; have fz := PB.frz z0; obtain ⟨_, qz, _⟩ := PB.at hn0; have FIN := Lib.hid (fun (v : Int) (hv : I64 v) => PB.set hg4 hn0 hv)))
                      all_goals
                        have HFI := Lib.hid FIN
                        clear FIN PB L9 L9d
                        go_wp2_with fail
                        go_meet
                        exact HFI.out.out _ (i64_wrap _)
                    case rest =>
                      obtain ⟨wm, rfl⟩ : ∃ wz : World, wz = wc := ⟨_, rfl⟩
                      have L10 := hcut
                      clear hcut L9 L9d qt qtd qs1 qs1d
                      obtain ⟨t1, qt1, hI1⟩ := L10.at hlt
                      obtain ⟨t2, qt2, hI2⟩ := L10.at hn0
                      obtain ⟨t3, qt3, hI3⟩ := L10.at hn1
                      have qs1 := (HS.out _ _ L10.D).1
                      have qs0 := (HS.out _ _ L10.D).2
                      have fz := L10.frz z1
                      have FIN := Lib.hid (fun (v : Int) (hv : I64 v) => ((L10.set hg4 hn1 hv).fr ((Fr.refl _).drew' 1)).mono (show A + 10 + 2 * x + 2 ≤ A + 10 + 2 * (x + 1) by omega))
                      clear L10 HS
                      have hs1n : s1 ≠ 0 := by omega
                      go_upto_region 20 with fail
                      go_region
                      all_goals
                        go_wp2
                        go_roundw
                        case rel => exact ⟨x + 1, by omega, by go_num, FIN.out _ (by first | exact i64_wrap64 _ | exact i64_wrap _)⟩
                        case measure => simp [intOf]; omega
            · obtain rfl : n5 = x := by omega
              obtain ⟨wq, rfl⟩ : ∃ wz : World, wz = wo := ⟨_, rfl⟩
              have L7 := L
              clear L
              go_wp2
              go_loopw [13] (fun i wr => ∃ (x : Nat), x ≤ n5 ∧ i = .int .i64 x ∧ LsI w4 g (A + 10 + 2 * n5) (some ⟨ga, 0, none⟩) n5 j wr) (fun i _ => n5 - (intOf i).toNat)
              case atStart => exact ⟨0, Nat.zero_le _, rfl, L7⟩
              case round =>
                clear L7
                obtain ⟨x, hx, rfl, L⟩ := hrel
                obtain ⟨wo, rfl⟩ : ∃ wz : World, wz = wr := ⟨_, rfl⟩
                have vx0 : (0 : Int) ≤ (x : Int) := by omega
                by_cases hlt : x < n5
                · have vx : (x : Int) < (n5 : Int) := by omega
                  obtain ⟨t1, qt1, hI1⟩ := L.at hlt
                  go_wp2_with fail
                  refine (l1Least_any _ _ _).mono ?_
                  rintro e w' ⟨rfl, rfl⟩
                  go_wp2_with fail
                  refine (l1Most_any _ _ _).mono ?_
                  rintro e w' ⟨rfl, rfl⟩
                  have L2 := L.set hg4 hlt (v := max (-999) (min 999 t1)) (by unfold I64; omega)
                  have fz := L.frz x
                  clear L
                  go_wp2
                  go_roundw
                  case rel => exact ⟨x + 1, by omega, by go_num, L2⟩
                  case measure => simp [intOf]; omega
                · obtain rfl : n5 = x := by omega
                  obtain ⟨wq, rfl⟩ : ∃ wz : World, wz = wo := ⟨_, rfl⟩
                  have L8 := L.mono (show A + 10 + 2 * n5 ≤ A + 60 by omega)
                  clear L
                  have HFR := Lib.hid D4
                  go_wp2_with fail
                  refine (one_dr _ 3 L8.D (by omega) (by unfold I64; omega)).mono ?_
                  rintro e w8 ⟨b, rfl, D8, E8⟩
                  have L9 := L8.step hg4 E8
                  clear L8 D8 E8
                  cases b
                  · have DF := HFR.out.trans L9.D
                    obtain ⟨X, oX⟩ := L9.op
                    go_wp2
                    go_ret
                    exact ⟨_, _, _, rfl, ⟨X, oX.mono hsz4⟩, by omega, h.trans (DF.mono (by omega)), DF.mono (by omega)⟩
                  · go_wp2_with fail
                    refine (pick_dr _ n5 L9.D (by omega) (by unfold I64; omega)).mono ?_
                    rintro e w9 ⟨y, rfl, hy, D9, E9⟩
                    have L10 := L9.step hg4 E9
                    clear L9 D9 E9
                    obtain ⟨y, rfl⟩ := Int.eq_ofNat_of_zero_le hy.1
                    have hyn : y < n5 := by omega
                    clear hy
                    have vy0 : (0 : Int) ≤ (y : Int) := by omega
                    have vy : (y : Int) < (n5 : Int) := by omega
                    have c1 := (L10.D.blk B4 HG.out).cell (j := 1) rfl
                    obtain ⟨bq, oq, rfl, qW⟩ := (L10.D.sl W4 hq).cells.resolve_left (by omega)
                    replace qW := qW y hyn
                    generalize nth W y = wy at qW
                    by_cases hwy : 0 < wy
                    rotate_left
                    · have DF := HFR.out.trans L10.D
                      obtain ⟨X, oX⟩ := L10.op
                      go_wp2
                      go_ret
                      exact ⟨_, _, _, rfl, ⟨X, oX.mono hsz4⟩, by omega, h.trans (DF.mono (by omega)), DF.mono (by omega)⟩
                    · obtain ⟨t1, qt1, hI1⟩ := L10.at hyn
                      have L10d : LsI w4 g (A + 60 + 2 + 2) (some ⟨ga, 0, none⟩) n5 j w9.drew := L10.fr ((Fr.refl w9).drew' 1)
                      have qt1d : w9.drew.cell? ⟨ga, y, none⟩ = some (.int .i64 t1) := qt1
                      have hgne : g ≠ ga := by have := L10.blt.1; omega
                      go_upto_region 28 with fail
                      clear c1 qW
                      go_region_with (first | (go_at_call 105; go_must (refine (pick_any g (A + 60 + 2 + 2) 4 _ (by first | with_reducible exact L10d.D.cur | with_reducible exact L10.D.cur) (by omega) (by unfold I64; omega)).mono ?_; rintro e wb ⟨r2, rfl, hr2a, hr2b, Cb, gB⟩; have Eb : Dr g (A + 60 + 2 + 2 + 2) _ wb := ⟨Cb, gB⟩; have PB : LsI w4 g (A + 60 + 2 + 2 + 2) (some ⟨ga, 0, none⟩) n5 j wb := (by first | with_reducible exact L10d.step hg4 Eb | with_reducible exact L10.step hg4 Eb); have qtb : wb.cell? ⟨ga, y, none⟩ = some (.int .i64 t1) := Eb.grow.cell (by first | with_reducible exact qt1d | with_reducible exact qt1) (fun e => hgne (by injection e with e; simp only at e; omega)); have fz := PB.frz y; have FIN := Lib.hid (fun (v : Int) (hv : I64 v) => LsI.fin (A2 := A + 1000) (PB.set hg4 hyn hv) D4 (by omega)))) | (go_at_call 128; refine (l1Most_any _ _ _).mono ?_; rintro e w' ⟨rfl, rfl⟩))
                      all_goals
                        clear L10 L10d PB Eb Cb gB
                        go_wp2
                        go_ret
                        exact ⟨_, _, _, rfl, (FIN.out _ (by first | exact i64_most64 _ | exact i64_most _)).1, by omega, h.trans (FIN.out _ (by first | exact i64_most64 _ | exact i64_most _)).2, (FIN.out _ (by first | exact i64_most64 _ | exact i64_most _)).2⟩
end Go.Proofs.Ytojipjjfndgbhaa
