import Derived.Test.YtojipjjfndgbhaaZH21
import Derived.StillTailTactics
import Derived.Deep.DeepMust
/- Draws of a tree and a list for its nodes. -/
set_option linter.unusedVariables false
namespace Go.Proofs.Ytojipjjfndgbhaa
open Go.ChangeShapes Go.WideShapes Go.ChangeAt Go.RowKit
theorem results_TS {fn : Func} {k r : Nat} (hr : fn.results = #[.cell k 29, .tmp r]) (tmps : Array Value) (w : World) (g : Nat) (v0 v1 : Value) (bb : Value) (h : tmps[k]?.getD undef = .pointer (some ⟨g, 0, none⟩)) (hb : tmps[r]?.getD undef = bb)
    (h0 : w.cell? ⟨g, 0, none⟩ = some v0) (h1 : w.cell? ⟨g, 1, none⟩ = some v1) : (results fn tmps).run Try.prog w = .ok (.tuple #[.agg #[v0, v1], bb]) w := by
  simp [results, hr, go_sem, h, hb, h0, h1]
theorem Own.lit {B : Nat} {w : World} (xs : List Int) {cs : Array Value} {n : Nat} (hB : B ≤ w.heap.size) (hz : ∀ x ∈ xs, I64 x) (hn : n = xs.length) (hc : cs = (xs.map (Value.int .i64)).toArray) (h1 : xs.length ≤ 1000000) : Own B (w.alloc (.cells cs 3)) (some ⟨w.heap.size, 0, none⟩) n n xs := by
  subst hn; subst hc
  refine ⟨⟨by simp, .inr ⟨w.heap.size, xs.length, _, rfl, hB, heap_alloc_new w _, Nat.le_refl _, by unfold maxLen; omega, by simp, ?_⟩⟩, hz⟩
  rw [List.take_of_length_le (by simp)]
/-- append of two integers, as a step of a region that draws. -/
theorem step_ap_two (V : World) {ops : Array Oper} {o : Oper} {a : Act} {K : Act → World → Prop} {Q : Exit → Act → World → Prop} {E : Prop} (hgd : o.guard = none) (s x : Operand)
    (ho : o.op = .call { callee := .builtin .append, args := #[s, x], argTypes := #[22, 22] }) (B : Nat) (p : Option Addr) (n c : Nat) (xs : List Int) (z y : Int) (N : Nat)
    (hs : a.eval s = .slice p n c) (hx : a.eval x = .slice (some ⟨N, 0, none⟩) 2 2) (hown : Own B V p n c xs) (hB : B ≤ V.heap.size) (hc0 : V.cell? ⟨N, 0, none⟩ = some (.int .i64 z)) (hc1 : V.cell? ⟨N, 1, none⟩ = some (.int .i64 y)) (hz : I64 z) (hy : I64 y) (hn : n ≤ 1048576) (H : Nat) (hH : V.heap.size = H)
    (h : ∀ g c' w', Own B w' (some ⟨g, 0, none⟩) (n + 2) c' (xs ++ [z, y]) → V.grownBy w' (blkOf p) → (blkOf p = some g ∨ g = H) → K (a.put o.dst (.slice (some ⟨g, 0, none⟩) (n + 2) c')) w') :
    if Region.wanted o (yielded ops a.tmps) = true then Oper.wp Try.prog o a V K Q else E := by
  obtain ⟨i0, hi, hz0, hz1, hz2⟩ := info_parts infoInt
  have hb : (Value.slice p n c).ownBlock = blkOf p := by cases p <;> rfl
  refine step_append_lies _ hgd s x 22 ho B 3 i0 (.int .i64 0) 1 8 Try.underlying22 hi hz0 hz1 hz2 rfl (by omega) (.slice p n c) n _ hs hown.row ⟨N, 0, none⟩ 2 2 [.int .i64 z, .int .i64 y] hx rfl ?_ ?_ (by omega) (by unfold maxLen; omega) (by omega) hB H hH ?_
  · intro j u hu
    have hadd : (⟨N, 0, none⟩ : Addr).add j = ⟨N, j, none⟩ := by rw [addr_add]; simp
    rw [hadd]
    rcases j with _ | _ | j
    · rw [hc0]; simpa using hu
    · rw [hc1]; simpa using hu
    · simp at hu
  · intro u hu; simp at hu; rcases hu with rfl | rfl <;> rfl
  · intro g c' w' h1 h2 h3 _
    rw [hb] at h2 h3
    refine h g c' w' ⟨by simpa using h1, ?_⟩ h2 h3
    intro y' hy'
    rcases List.mem_append.1 hy' with hy' | hy'
    · exact hown.rng y' hy'
    · simp at hy'; rcases hy' with rfl | rfl
      · exact hz
      · exact hy
/-- Odd nodes lie below earlier ones. -/
def odP (n : Nat) (P : List Int) : Prop := ∀ i, i < n → i % 2 = 1 → 0 ≤ nth P i ∧ nth P i < (i : Int)
def bdX (L : Int) (X : List Int) : Prop := ∀ x ∈ X, -L ≤ x ∧ x ≤ L
theorem odP7 : odP 7 [-1, 0, 0, 1, 1, 2, 2] := fun i hi ho => by
  have h : i = 1 ∨ i = 3 ∨ i = 5 := by omega
  rcases h with rfl | rfl | rfl <;> simp [nth]
theorem odP5 : odP 5 [-1, 0, 0, 1, 1] := fun i hi ho => by
  have h : i = 1 ∨ i = 3 := by omega
  rcases h with rfl | rfl <;> simp [nth]
theorem bdX_nth {L : Int} {X : List Int} (h : bdX L X) (hL : 0 ≤ L) (i : Nat) : -L ≤ nth X i ∧ nth X i ≤ L := by
  unfold nth
  cases e : X[i]? with
  | none => simp; omega
  | some x => simp; exact h x (List.mem_of_getElem? e)
theorem bdX_two {L M : Int} {X : List Int} {a b : Int} (h : bdX L X) (hM : L ≤ M) (ha : -M ≤ a ∧ a ≤ M) (hb : -M ≤ b ∧ b ≤ M) : bdX M (X ++ [a, b]) := fun x hx => by
  rcases List.mem_append.1 hx with hx | hx
  · have := h x hx; omega
  · simp at hx; rcases hx with rfl | rfl <;> assumption
/-- A tree in a box and a list, that are being drawn. -/
structure HvI (φ ψ : List Int → Prop) (w : World) (g A gt : Nat) (p : Option Addr) (n c : Nat) (q : Option Addr) (m d : Nat) (a : Option Addr) (k j : Nat) (wr : World) : Prop where
  B : Blk wr gt #[.slice p n c, .slice q m d] 29
  op : ∃ P, Own w.heap.size wr p n c P ∧ φ P
  oq : ∃ W, Own w.heap.size wr q m d W
  ox : ∃ X, Own w.heap.size wr a k j X ∧ ψ X
  na : blkOf a ≠ some gt
  ap : Apart p a
  aq : Apart q a
  D : Dr g A w wr
  lo : w.heap.size ≤ gt
section
variable {φ ψ ψ' : List Int → Prop} {w wr w' : World} {g A A' gt : Nat} {p : Option Addr} {n c : Nat} {q : Option Addr} {m d : Nat} {a : Option Addr} {k j : Nat}
theorem HvI.mono (h : HvI φ ψ w g A gt p n c q m d a k j wr) (hA : A ≤ A') : HvI φ ψ w g A' gt p n c q m d a k j wr := ⟨h.B, h.op, h.oq, h.ox, h.na, h.ap, h.aq, h.D.mono hA, h.lo⟩
theorem HvI.imp (h : HvI φ ψ w g A gt p n c q m d a k j wr) (f : ∀ X, ψ X → ψ' X) : HvI φ ψ' w g A gt p n c q m d a k j wr := by
  obtain ⟨h1, h2, h3, ⟨X, h4, h4'⟩, h5, h6, h7, h8, h9⟩ := h
  exact ⟨h1, h2, h3, ⟨X, h4, f X h4'⟩, h5, h6, h7, h8, h9⟩
theorem HvI.fr (h : HvI φ ψ w g A gt p n c q m d a k j wr) (f : Fr wr w') : HvI φ ψ w g A gt p n c q m d a k j w' := by
  obtain ⟨h1, ⟨P, h2, h2'⟩, ⟨W, h3⟩, ⟨X, h4, h4'⟩, h5, h6, h7, h8, h9⟩ := h
  exact ⟨h1.fr f, ⟨P, h2.fr f, h2'⟩, ⟨W, h3.fr f⟩, ⟨X, h4.fr f, h4'⟩, h5, h6, h7, h8.fr f, h9⟩
theorem HvI.step (h : HvI φ ψ w g A gt p n c q m d a k j wr) (hg : g < w.heap.size) (E : Dr g A' wr w') : HvI φ ψ w g A' gt p n c q m d a k j w' := by
  obtain ⟨h1, ⟨P, h2, h2'⟩, ⟨W, h3⟩, ⟨X, h4, h4'⟩, h5, h6, h7, h8, h9⟩ := h
  exact ⟨E.blk h1 (by omega), ⟨P, E.own h2 hg, h2'⟩, ⟨W, E.own h3 hg⟩, ⟨X, E.own h4 hg, h4'⟩, h5, h6, h7, h8.trans E, h9⟩
/-- The list grows. -/
theorem HvI.appX (h : HvI φ ψ w g A gt p n c q m d a k j wr) (hg : g < w.heap.size) {g' k' j' : Nat} {X' : List Int} (ho : Own w.heap.size w' (some ⟨g', 0, none⟩) k' j' X') (hX : ψ' X') (hgr : wr.grownBy w' (blkOf a)) (hnew : blkOf a = some g' ∨ wr.heap.size ≤ g') :
    HvI φ ψ' w g A gt p n c q m d (some ⟨g', 0, none⟩) k' j' w' := by
  obtain ⟨h1, ⟨P, h2, h2'⟩, ⟨W, h3⟩, ⟨X, h4, h4'⟩, h5, h6, h7, h8, h9⟩ := h
  have hlt := h1.lt
  have hne : g' ≠ gt := by
    rintro rfl
    rcases hnew with e | e
    · exact h5 e
    · omega
  refine ⟨h1.grown hgr h5, ⟨P, own_row h2 hgr (fun z e1 e2 => h6 z e2 e1), h2'⟩, ⟨W, own_row h3 hgr (fun z e1 e2 => h7 z e2 e1)⟩, ⟨X', ho, hX⟩, fun e => hne (by injection e), fun z e1 e2 => ?_, fun z e1 e2 => ?_, h8.app hgr (fun z e => (h4.blk z e).1) hg, h9⟩
  · obtain rfl : g' = z := by simpa [blkOf] using e2
    rcases hnew with e | e
    · exact h6 g' e1 e
    · have := h2.blk g' e1; omega
  · obtain rfl : g' = z := by simpa [blkOf] using e2
    rcases hnew with e | e
    · exact h7 g' e1 e
    · have := h3.blk g' e1; omega
/-- Another list, of a call's own. -/
theorem HvI.list (h : HvI φ ψ w g A gt p n c q m d a k j wr) (hg : g < w.heap.size) (E : Dr g A' wr w') {a' : Option Addr} {k' j' : Nat} {X : List Int} (oX : Own wr.heap.size w' a' k' j' X) : HvI φ (fun _ => True) w g A' gt p n c q m d a' k' j' w' := by
  obtain ⟨h1, ⟨P, h2, h2'⟩, ⟨W, h3⟩, ⟨X, h4, h4'⟩, h5, h6, h7, h8, h9⟩ := h
  have hs := h8.size
  have hlt := h1.lt
  refine ⟨E.blk h1 (by omega), ⟨P, E.own h2 hg, h2'⟩, ⟨W, E.own h3 hg⟩, ⟨_, oX.mono hs, trivial⟩, fun e => ?_, fun z e1 e2 => ?_, fun z e1 e2 => ?_, h8.trans E, h9⟩
  · have := (oX.blk gt e).1; omega
  · have := (h2.blk z e1).2; have := (oX.blk z e2).1; omega
  · have := (h3.blk z e1).2; have := (oX.blk z e2).1; omega
/-- A number of the list is set. -/
theorem HvI.setX {ga i : Nat} (h : HvI φ ψ w g A gt p n c q m d (some ⟨ga, 0, none⟩) k j wr) (hg : g < w.heap.size) (hk : i < k) {v : Int} (hv : I64 v) : HvI φ (fun _ => True) w g A gt p n c q m d (some ⟨ga, 0, none⟩) k j (wr.setCell ⟨ga, i, none⟩ (.int .i64 v)) := by
  obtain ⟨h1, ⟨P, h2, h2'⟩, ⟨W, h3⟩, ⟨X, h4, h4'⟩, h5, h6, h7, h8, h9⟩ := h
  have hlo := (h4.blk ga rfl).1
  exact ⟨h1.other (p := ⟨ga, i, none⟩) (fun e => h5 (by rw [← e]; rfl)) _, ⟨P, h2.setOther (p := ⟨ga, i, none⟩) (fun e => h6 ga e rfl) _, h2'⟩, ⟨W, h3.setOther (p := ⟨ga, i, none⟩) (fun e => h7 ga e rfl) _⟩, ⟨_, h4.set rfl hk hv, trivial⟩, h5, h6, h7, h8.set (q := ⟨ga, i, none⟩) hlo hg _, h9⟩
/-- The box has another tree, of new memory. -/
theorem HvI.tree (h : HvI φ ψ w g A gt p n c q m d a k j wr) (hg : g < w.heap.size) {φ' : List Int → Prop} {p' q' : Option Addr} {n' c' m' d' : Nat} {P' W' : List Int} (f : Fr wr w') (hP : Own wr.heap.size w' p' n' c' P') (hφ : φ' P') (hW : Own wr.heap.size w' q' m' d' W') :
    HvI φ' ψ w g A gt p' n' c' q' m' d' a k j ((w'.setCell ⟨gt, 0, none⟩ (.slice p' n' c')).setCell ⟨gt, 1, none⟩ (.slice q' m' d')) := by
  obtain ⟨h1, _, _, ⟨X, h4, h4'⟩, h5, h6, h7, h8, h9⟩ := h
  have hlt := h1.lt
  have E := ((h1.fr f).set 0 (.slice p' n' c')).set 1 (.slice q' m' d')
  simp only [List.setIfInBounds_toArray, List.set_cons_zero, List.set_cons_succ] at E
  have hp : blkOf p' ≠ some gt := fun e => by have := (hP.blk gt e).1; omega
  have hq : blkOf q' ≠ some gt := fun e => by have := (hW.blk gt e).1; omega
  have hs := h8.size
  refine ⟨E, ⟨P', ((hP.setOther (p := ⟨gt, 0, none⟩) hp _).setOther (p := ⟨gt, 1, none⟩) hp _).mono hs, hφ⟩, ⟨W', ((hW.setOther (p := ⟨gt, 0, none⟩) hq _).setOther (p := ⟨gt, 1, none⟩) hq _).mono hs⟩,
    ⟨X, ((h4.fr f).setOther (p := ⟨gt, 0, none⟩) h5 _).setOther (p := ⟨gt, 1, none⟩) h5 _, h4'⟩, h5, fun z e1 e2 => ?_, fun z e1 e2 => ?_, ((h8.fr f).set (q := ⟨gt, 0, none⟩) h9 hg _).set (q := ⟨gt, 1, none⟩) h9 hg _, h9⟩
  · have := (hP.blk z e1).1; have := (h4.blk z e2).2; omega
  · have := (hW.blk z e1).1; have := (h4.blk z e2).2; omega
end
/-- A drawn tree and a list. -/
structure TrR (B : Nat) (w : World) (p : Option Addr) (n c : Nat) (q : Option Addr) (m d : Nat) (a : Option Addr) (k j : Nat) : Prop where
  op : ∃ P, Own B w p n c P
  oq : ∃ W, Own B w q m d W
  ox : ∃ X, Own B w a k j X
  ap : Apart p a
  aq : Apart q a
  le : n ≤ 25 ∧ m ≤ 50 ∧ k ≤ 25
theorem HvI.done {φ ψ : List Int → Prop} {w w1 wr : World} {g A A0 gt r : Nat} {p : Option Addr} {n c : Nat} {q : Option Addr} {m d : Nat} {a : Option Addr} {k j : Nat} {T : TypeId} {v0 v1 : Value} (h : HvI φ ψ w1 g A gt p n c q m d a k j wr) (H : Blk wr r #[v0, v1] T) (hr : r < w1.heap.size) (hl : w.heap.size ≤ r) (hg : g < w.heap.size) (D0 : Dr g A0 w w1) (hle : n ≤ 25 ∧ m ≤ 50 ∧ k ≤ 25) :
    Blk ((wr.setCell ⟨r, 0, none⟩ (.slice p n c)).setCell ⟨r, 1, none⟩ (.slice q m d)) r #[.slice p n c, .slice q m d] T ∧ TrR w.heap.size ((wr.setCell ⟨r, 0, none⟩ (.slice p n c)).setCell ⟨r, 1, none⟩ (.slice q m d)) p n c q m d a k j ∧ Dr g A w ((wr.setCell ⟨r, 0, none⟩ (.slice p n c)).setCell ⟨r, 1, none⟩ (.slice q m d)) := by
  obtain ⟨h1, ⟨P, h2, h2'⟩, ⟨W, h3⟩, ⟨X, h4, h4'⟩, h5, h6, h7, h8, h9⟩ := h
  have E := (H.set 0 (.slice p n c)).set 1 (.slice q m d)
  simp only [List.setIfInBounds_toArray, List.set_cons_zero, List.set_cons_succ] at E
  have n1 : blkOf p ≠ some r := fun e => by have := (h2.blk r e).1; omega
  have n2 : blkOf q ≠ some r := fun e => by have := (h3.blk r e).1; omega
  have n3 : blkOf a ≠ some r := fun e => by have := (h4.blk r e).1; omega
  refine ⟨E, ⟨⟨P, ((h2.setOther (p := ⟨r, 0, none⟩) n1 _).setOther (p := ⟨r, 1, none⟩) n1 _).mono (by omega)⟩, ⟨W, ((h3.setOther (p := ⟨r, 0, none⟩) n2 _).setOther (p := ⟨r, 1, none⟩) n2 _).mono (by omega)⟩, ⟨X, ((h4.setOther (p := ⟨r, 0, none⟩) n3 _).setOther (p := ⟨r, 1, none⟩) n3 _).mono (by omega)⟩, h6, h7, hle⟩, ((D0.trans h8).set (q := ⟨r, 0, none⟩) hl hg _).set (q := ⟨r, 1, none⟩) hl hg _⟩
theorem lit3k (V : World) : ∀ i, i < 3 → ∃ x, (V.alloc (.cells #[.int .i64 1, .int .i64 (-1), .int .i64 1000] 3)).cell? ⟨V.heap.size, i, none⟩ = some (.int .i64 x) ∧ (-1 ≤ x ∧ x ≤ 1000) := fun i hi => by
  have h : i = 0 ∨ i = 1 ∨ i = 2 := by omega
  rcases h with rfl | rfl | rfl
  all_goals exact ⟨_, by rw [cell_of_row _ _ _ _ _ _ (heap_alloc_new _ _)]; rfl, by omega⟩
theorem keep_own {B g A k j i : Nat} {ψ : List Int → Prop} {ga : Nat} {w0 wr w' : World} {v : Value} (ho : ∃ X, Own B w0 (some ⟨ga, 0, none⟩) k j X ∧ ψ X) (hg : g < B) (E : Dr g A wr w') (hc : wr.cell? ⟨ga, i, none⟩ = some v) : w'.cell? ⟨ga, i, none⟩ = some v := by
  obtain ⟨X, oX, _⟩ := ho
  have := (oX.blk ga rfl).1
  exact E.grow.cell hc (fun e => by injection e with e; simp only at e; omega)
set_option maxRecDepth 100000 in
set_option maxHeartbeats 2000000 in
theorem halves_dr {g A : Nat} {w0 : World} (w : World) (h : Dr g A w0 w) (hA : A ≤ 900000000) :
    Calls Try.prog 97 #[.pointer (some ⟨g, 0, none⟩)] w fun e w' => ∃ (p : Option Addr) (n c : Nat) (q : Option Addr) (m d : Nat) (a : Option Addr) (k j : Nat), e = .returned (.tuple #[.agg #[.slice p n c, .slice q m d], .slice a k j]) ∧ TrR w.heap.size w' p n c q m d a k j ∧ Dr g (A + 1000) w0 w' ∧ Dr g (A + 1000) w w' := by
  have hg0 := h.cur.lt
  have hself := Dr.refl h.cur
  have HD0 := Lib.hid (hself.alloc (.cells #[.slice none 0 0, .slice none 0 0] 29))
  have H2 := Lib.hid (Blk.new w #[.slice none 0 0, .slice none 0 0] 29)
  clear hself
  go_enter Try.func97, Try.ntmps97
  go_upto_region 1 with fail
  generalize hw1 : w.alloc (.cells #[.slice none 0 0, .slice none 0 0] 29) = w1 at HD0 H2 ⊢
  have z1 : w1.heap.size = w.heap.size + 1 := by rw [← hw1]; simp
  clear hw1
  have hg : g < w1.heap.size := by omega
  have zlt : w.heap.size < w1.heap.size := by omega
  clear z1
  have HG4 : Hid (g ≠ w.heap.size) := Lib.hid (by omega)
  go_wp2_with fail
  refine (one_dr _ 4 (Dr.refl HD0.out.cur) (by omega) (by unfold I64; omega)).mono ?_
  rintro e w2 ⟨b, rfl, D2, E2⟩
  cases b
  · clear D2
    have oP := Own.lit (B := w1.heap.size) (w := w2) (n := 7) [-1, 0, 0, 1, 1, 2, 2] E2.size (by unfold I64; simp) rfl rfl (by simp)
    have oW := Own.lit (B := w1.heap.size) (w := w2.alloc (.cells #[.int .i64 (-1), .int .i64 0, .int .i64 0, .int .i64 1, .int .i64 1, .int .i64 2, .int .i64 2] 3)) (n := 7) [0, 0, 0, 1, 1, 1, 1] (by have := E2.size; simp; omega) (by unfold I64; simp) rfl rfl (by simp)
    have D2 := E2.fr (((Fr.refl w2).alloc (.cells #[.int .i64 (-1), .int .i64 0, .int .i64 0, .int .i64 1, .int .i64 1, .int .i64 2, .int .i64 2] 3)).alloc (.cells #[.int .i64 0, .int .i64 0, .int .i64 0, .int .i64 1, .int .i64 1, .int .i64 1, .int .i64 1] 3))
    rw [World.size_alloc] at oW
    go_wp2_with fail
    refine (pick_dr _ 9 D2 (by omega) (by unfold I64; omega)).mono ?_
    rintro e w3 ⟨x, rfl, hx, D3, E3⟩
    have s3 := E3.size
    simp only [World.size_alloc] at s3
    have oP3 := E3.own (oP.fr ((Fr.refl _).alloc _)) hg
    have oW3 := E3.own oW hg
    have hsz := D3.size
    have oX := Own.lit1 (B := w1.heap.size) (w := w3) (z := x - 4) hsz (by unfold I64; omega)
    clear oP oW D2 E3 E2
    have fc := ((Fr.refl w3).alloc (.cells #[.int .i64 (x - 4)] 3)).alloc (.cells #[.slice (some ⟨w2.heap.size, 0, none⟩) 7 7, .slice (some ⟨w2.heap.size + 1, 0, none⟩) 7 7] 29)
    have S0 : HvI (odP 7) (bdX 10) w1 g (A + 4) (w3.heap.size + 1) (some ⟨w2.heap.size, 0, none⟩) 7 7 (some ⟨w2.heap.size + 1, 0, none⟩) 7 7 (some ⟨w3.heap.size, 0, none⟩) 1 1 ((w3.alloc (.cells #[.int .i64 (x - 4)] 3)).alloc (.cells #[.slice (some ⟨w2.heap.size, 0, none⟩) 7 7, .slice (some ⟨w2.heap.size + 1, 0, none⟩) 7 7] 29)) :=
      ⟨by have E := Blk.new (w3.alloc (.cells #[.int .i64 (x - 4)] 3)) #[.slice (some ⟨w2.heap.size, 0, none⟩) 7 7, .slice (some ⟨w2.heap.size + 1, 0, none⟩) 7 7] 29; rw [World.size_alloc] at E; exact E, ⟨_, oP3.fr fc, odP7⟩, ⟨_, oW3.fr fc⟩, ⟨_, oX.fr ((Fr.refl _).alloc _), fun y hy => by simp at hy; omega⟩, fun e => by simp [blkOf] at e, fun z e1 e2 => by simp [blkOf] at e1 e2; omega, fun z e1 e2 => by simp [blkOf] at e1 e2; omega, D3.fr fc, by omega⟩
    clear oP3 oW3 oX fc
    go_upto_region 5 with fail
    generalize hgt : w3.heap.size + 1 = gt at S0
    generalize w2.heap.size = g2 at S0 ⊢
    generalize w3.heap.size = g3 at S0 ⊢
    generalize (w3.alloc (.cells #[.int .i64 (x - 4)] 3)).alloc _ = w4 at S0 ⊢
    clear hgt s3 D3 hsz hx
    go_wp2_with fail
    refine (one_dr _ 3 S0.D (by omega) (by unfold I64; omega)).mono ?_
    rintro e w5 ⟨b, rfl, D5, E5⟩
    have S5 := S0.step hg E5
    clear S0 D5 E5
    go_upto_if 26 with fail
    go_cut [] from 27 to 29 (fun wx => ∃ (n : Nat) (p q : Option Addr), (n = 5 ∨ n = 7) ∧ HvI (odP n) (bdX 10) w1 g (A + 6) gt p n n q n n (some ⟨g3, 0, none⟩) 1 1 wx)
    case first =>
      cases b
      · go_wp2_with fail
        go_meet
        exact ⟨7, _, _, .inr rfl, S5⟩
      · have oP := Own.lit (B := w5.heap.size) (w := w5) (n := 5) [-1, 0, 0, 1, 1] (Nat.le_refl _) (by unfold I64; simp) rfl rfl (by simp)
        have oW := Own.lit (B := w5.heap.size) (w := w5.alloc (.cells #[.int .i64 (-1), .int .i64 0, .int .i64 0, .int .i64 1, .int .i64 1] 3)) (n := 5) [0, 0, 2, 1, 1] (by simp) (by unfold I64; simp) rfl rfl (by simp)
        have oP2 := oP.fr ((Fr.refl _).alloc (.cells #[.int .i64 0, .int .i64 0, .int .i64 2, .int .i64 1, .int .i64 1] 3))
        have fab := ((Fr.refl w5).alloc (.cells #[.int .i64 (-1), .int .i64 0, .int .i64 0, .int .i64 1, .int .i64 1] 3)).alloc (.cells #[.int .i64 0, .int .i64 0, .int .i64 2, .int .i64 1, .int .i64 1] 3)
        have BX := S5.B.fr fab
        have f0 := BX.free 0; have f1 := BX.free 1; have i0 := BX.cell (j := 0) rfl; have i1 := BX.cell (j := 1) rfl
        rw [World.size_alloc] at oW
        have E := S5.tree hg fab oP2 odP5 oW
        clear oP oP2 oW BX S5 fab
        go_wp2_with fail
        go_meet
        exact ⟨5, _, _, .inl rfl, E⟩
    case rest =>
      obtain ⟨n, p, q, hn, S6⟩ := hcut
      obtain ⟨w6, rfl⟩ : ∃ wz : World, wz = wc := ⟨_, rfl⟩
      clear S5
      have S7 : HvI (odP n) (bdX (10 + 3 * (1 : Nat))) w1 g (A + 10 + 2 * 1) gt p n n q n n (some ⟨g3, 0, none⟩) 1 1 w6 := (S6.mono (by omega)).imp (fun X h x hx => by have := h x hx; omega)
      clear S6
      go_wp2
      go_loopw [6, 7] (fun s i wr => ∃ (x : Nat) (a : Option Addr) (j : Nat), (x ≤ n ∧ x % 2 = 1) ∧ i = .int .i64 x ∧ s = .slice a x j ∧ HvI (odP n) (bdX (10 + 3 * (x : Nat))) w1 g (A + 10 + 2 * x) gt p n n q n n a x j wr) (fun _ i _ => n - (intOf i).toNat)
      case atStart => exact ⟨1, _, _, by omega, rfl, rfl, S7⟩
      case round =>
        clear S7
        obtain ⟨x, a, j, hx, rfl, rfl, S⟩ := hrel
        obtain ⟨wo, rfl⟩ : ∃ wo : World, wo = wr := ⟨_, rfl⟩
        by_cases hlt : x < n
        · have vx0 : (0 : Int) ≤ (x : Int) := by omega
          have vx : (x : Int) < (n : Int) := by omega
          have c0 := S.B.cell (j := 0) rfl
          go_wp2_with fail
          refine (pick_dr _ 7 S.D (by omega) (by unfold I64; omega)).mono ?_
          rintro e w7 ⟨r, rfl, hr, D7, E7⟩
          have S8 := S.step hg E7
          clear S D7 E7 c0
          obtain ⟨P, oP, hP⟩ := S8.op
          obtain ⟨X, oX, hX⟩ := S8.ox
          obtain ⟨hv0, hv1⟩ := hP x hlt hx.2
          obtain ⟨gp, rfl, _, _, qP, _⟩ := oP.op (by omega)
          replace qP := qP x hlt
          obtain ⟨v, hv⟩ := Int.eq_ofNat_of_zero_le hv0
          rw [hv] at qP hv1
          have hvx : v < x := by omega
          have vv0 : (0 : Int) ≤ (v : Int) := by omega
          obtain ⟨ga, rfl, _, _, qX, _⟩ := oX.op (by omega)
          replace qX := qX v hvx
          have hb := bdX_nth hX (by omega) v
          generalize nth X v = t at qX hb
          have hsz := S8.D.size
          have c0 := S8.B.cell (j := 0) rfl
          have HX : Hid (bdX (10 + 3 * (x + 2 : Nat)) (X ++ [t + (r - 3), t - (r - 3)])) := Lib.hid (bdX_two hX (by omega) (by omega) (by omega))
          clear hP hv hv0 hX
          have e1 : IntKind.i64.wrap (t + (r - 3)) = t + (r - 3) := IntWalk.i64_in _ (by omega)
          have e2 : IntKind.i64.wrap (t - (r - 3)) = t - (r - 3) := IntWalk.i64_in _ (by omega)
          have S9 := S8.fr (((Fr.refl w7).alloc (.cells #[.int .i64 (t + (r - 3)), .int .i64 (t - (r - 3))] 3)).drew' 1)
          clear oP
          go_upto_region 11 with fail
          go_region_law (first
            | (refine step_ap_two _ rfl _ _ rfl w1.heap.size (some ⟨ga, 0, none⟩) x j X (t + (r - 3)) (t - (r - 3)) w7.heap.size (by rfl) (by rfl) (oX.fr (((Fr.refl _).alloc _).drew' 1)) (by simp; omega) (cell_of_row (w7.alloc (.cells #[.int .i64 (t + (r - 3)), .int .i64 (t - (r - 3))] 3)) w7.heap.size 0 _ 3 (0, 0) (heap_alloc_new w7 _)) (cell_of_row (w7.alloc (.cells #[.int .i64 (t + (r - 3)), .int .i64 (t - (r - 3))] 3)) w7.heap.size 1 _ 3 (0, 0) (heap_alloc_new w7 _)) (by unfold I64; omega) (by unfold I64; omega) (by omega) (w7.heap.size + 1) (by simp) ?_; intro g' c' w' q1 q2 q3))
          all_goals
            have E := S9.appX hg q1 (ψ' := bdX (10 + 3 * (x + 2 : Nat))) HX.out q2 (by
              rcases q3 with h | h
              · exact .inl h
              · right; simp; omega)
            clear S8 S9 oX q1 q2 q3 HX c0 qX qP
            go_wp2
            go_roundw
            case rel => exact ⟨x + 2, _, _, by omega, by go_num, rfl, E.mono (by omega)⟩
            case measure => simp [intOf]; omega
        · obtain rfl : n = x := by omega
          have S1 := S.mono (show A + 10 + 2 * n ≤ A + 30 by omega)
          have vn : (0 : Int) < (n : Int) := by omega
          have c0 := S1.B.cell (j := 0) rfl
          clear S
          go_wp2_with fail
          clear c0
          refine (one_dr _ 8 S1.D (by omega) (by unfold I64; omega)).mono ?_
          rintro e w7 ⟨b, rfl, D7, E7⟩
          have S8 := S1.step hg E7
          clear S1 D7 E7
          go_upto_if 64 with fail
          go_cut [] from 65 to 79 (fun wx => HvI (odP n) (fun _ => True) w1 g (A + 40) gt p n n q n n a n j wx)
          case first =>
            cases b
            · go_wp2_with fail
              go_meet
              exact (S8.imp (ψ' := fun _ => True) (fun _ _ => trivial)).mono (by omega)
            · go_wp2_with fail
              refine (pick_dr _ n S8.D (by omega) (by unfold I64; omega)).mono ?_
              rintro e w8 ⟨k, rfl, hk, D8, E8⟩
              have S9 := S8.step hg E8
              clear S8 D8 E8
              obtain ⟨k, rfl⟩ := Int.eq_ofNat_of_zero_le hk.1
              have hkn : k < n := by omega
              have vk0 : (0 : Int) ≤ (k : Int) := by omega
              have vk : (k : Int) < (n : Int) := by omega
              obtain ⟨X, oX, hX⟩ := S9.ox
              obtain ⟨ga, rfl, _, _, qX, _⟩ := oX.op (by omega)
              replace qX := qX k hkn
              have hb := bdX_nth hX (by omega) k
              obtain ⟨t, ht⟩ : ∃ t, t = nth X k := ⟨_, rfl⟩
              rw [← ht] at qX hb
              have sB : w8.drew.cell? ⟨ga, k, none⟩ = some (.int .i64 t) := qX
              have SB : HvI (odP n) (bdX (10 + 3 * (n : Nat))) w1 g (A + 30 + 2 + 2) gt p n n q n n (some ⟨ga, 0, none⟩) n j (w8.alloc (.cells #[.int .i64 1, .int .i64 (-1), .int .i64 1000] 3)) := S9.fr ((Fr.refl w8).alloc (.cells #[.int .i64 1, .int .i64 (-1), .int .i64 1000] 3))
              have SC : HvI (odP n) (bdX (10 + 3 * (n : Nat))) w1 g (A + 30 + 2 + 2) gt p n n q n n (some ⟨ga, 0, none⟩) n j (w8.alloc (.cells #[.int .i64 1, .int .i64 (-1), .int .i64 1000] 3)).drew := S9.fr (((Fr.refl w8).alloc (.cells #[.int .i64 1, .int .i64 (-1), .int .i64 1000] 3)).drew' 1)
              have SD : HvI (odP n) (bdX (10 + 3 * (n : Nat))) w1 g (A + 30 + 2 + 2) gt p n n q n n (some ⟨ga, 0, none⟩) n j (w8.drew.alloc (.cells #[.int .i64 1, .int .i64 (-1), .int .i64 1000] 3)) := S9.fr ((Fr.drewN w8 1).alloc (.cells #[.int .i64 1, .int .i64 (-1), .int .i64 1000] 3))
              have sC := ((Fr.refl w8).alloc (.cells #[.int .i64 1, .int .i64 (-1), .int .i64 1000] 3)).keep qX
              have sD : (w8.alloc (.cells #[.int .i64 1, .int .i64 (-1), .int .i64 1000] 3)).drew.cell? ⟨ga, k, none⟩ = some (.int .i64 t) := sC
              have sE : (w8.drew.alloc (.cells #[.int .i64 1, .int .i64 (-1), .int .i64 1000] 3)).cell? ⟨ga, k, none⟩ = some (.int .i64 t) := ((Fr.drewN w8 1).alloc _).keep qX
              have LB := lit3k w8
              have LC : ∀ i, i < 3 → ∃ x, (w8.alloc (.cells #[.int .i64 1, .int .i64 (-1), .int .i64 1000] 3)).drew.cell? ⟨w8.heap.size, i, none⟩ = some (.int .i64 x) ∧ (-1 ≤ x ∧ x ≤ 1000) := LB
              have LD : ∀ i, i < 3 → ∃ x, (w8.drew.alloc (.cells #[.int .i64 1, .int .i64 (-1), .int .i64 1000] 3)).cell? ⟨w8.heap.size, i, none⟩ = some (.int .i64 x) ∧ (-1 ≤ x ∧ x ≤ 1000) := lit3k w8.drew
              have hlt := S9.D.cur.lt
              clear oX hX ht
              go_upto_region 14 with fail
              go_region_with (go_at_call 96; go_must (refine (among_any g _ w8.heap.size 3 3 (fun x => -1 ≤ x ∧ x ≤ 1000) _ (by first | with_reducible exact SC.D.cur | with_reducible exact SB.D.cur | with_reducible exact SD.D.cur) (by omega) (by omega) (by omega) (by omega) (by first | with_reducible exact LC | with_reducible exact LB | with_reducible exact LD)).mono ?_; rintro e wb ⟨z, rfl, hz, Cb, gB⟩; have EB : Dr g _ _ wb := ⟨Cb, gB⟩; have PB : HvI (odP n) (bdX (10 + 3 * (n : Nat))) w1 g (A + 30 + 2 + 2 + 2) gt p n n q n n (some ⟨ga, 0, none⟩) n j wb := (by first | with_reducible exact SC.step hg EB | with_reducible exact SB.step hg EB | with_reducible exact SD.step hg EB); have sF : wb.cell? ⟨ga, k, none⟩ = some (.int .i64 t) := (by first | with_reducible exact keep_own S9.ox hg EB sD | with_reducible exact keep_own S9.ox hg EB sC | with_reducible exact keep_own S9.ox hg EB sE); have z5 : wb.frozen? ⟨ga, k, none⟩ = false := (by obtain ⟨_, oo, _⟩ := PB.ox; exact oo.frz k); have e9 : IntKind.i64.wrap (t + z) = t + z := IntWalk.i64_in _ (by omega); have FIN := Lib.hid (PB.setX hg hkn (show I64 (t + z) by unfold I64; omega))))
              all_goals
                go_wp2_with fail
                go_meet
                exact FIN.out.mono (by omega)
          case rest =>
            obtain ⟨w8, rfl⟩ : ∃ wz : World, wz = wc := ⟨_, rfl⟩
            have S9 := hcut
            clear hcut S8
            have HB := S9.D.blk H2.out HG4.out
            have f0 := HB.free 0; have f1 := HB.free 1; have i0 := HB.cell (j := 0) rfl; have i1 := HB.cell (j := 1) rfl
            have c0 := S9.B.cell (j := 0) rfl; have c1 := S9.B.cell (j := 1) rfl
            have FIN := Lib.hid (S9.done HB zlt (Nat.le_refl _) hg0 HD0.out (by omega))
            clear S9 HB
            go_wp2
            refine bodyPost_ret (results_TS Try.results97 _ _ w.heap.size (.slice p n n) (.slice q n n) _ rfl rfl (FIN.out.1.cell rfl) (FIN.out.1.cell rfl)) rfl ?_
            have D9 := FIN.out.2.2.mono (show _ ≤ A + 1000 by omega)
            exact ⟨_, _, _, _, _, _, _, _, _, rfl, FIN.out.2.1, h.trans D9, D9⟩
  · have B2 := E2.blk H2.out HG4.out
    clear D2
    have hs2 := E2.size
    go_wp2_with fail
    refine (someTree_dr _ 9 E2 (by omega) (by omega)).mono ?_
    rintro e w3 ⟨p, n, c, q, m, d, rfl, ⟨P, oP⟩, ⟨W, oW⟩, hle, D3, E3⟩
    have B3 := E3.blk B2 HG4.out
    clear B2 E3 E2
    have fa := (Fr.refl w3).alloc (.cells #[.slice p n c, .slice q m d] 29)
    have fb : Fr w3 (w3.alloc (.cells #[.slice p n c, .slice q m d] 29)).drew := ((Fr.refl w3).alloc (.cells #[.slice p n c, .slice q m d] 29)).drew' 1
    have T0 := Blk.new w3 #[.slice p n c, .slice q m d] 29
    have hs3 := D3.size
    have SA : HvI (fun _ => True) (fun _ => True) w1 g (A + 502) w3.heap.size p n c q m d none 0 0 (w3.alloc (.cells #[.slice p n c, .slice q m d] 29)) :=
      ⟨T0, ⟨P, (oP.mono (by omega)).fr fa, trivial⟩, ⟨W, (oW.mono (by omega)).fr fa⟩, ⟨[], own_nil _ _, trivial⟩, fun e => by simp [blkOf] at e, fun z e1 e2 => by simp [blkOf] at e2, fun z e1 e2 => by simp [blkOf] at e2, (D3.fr fa).mono (by omega), by omega⟩
    have SB : HvI (fun _ => True) (fun _ => True) w1 g (A + 502) w3.heap.size p n c q m d none 0 0 (w3.alloc (.cells #[.slice p n c, .slice q m d] 29)).drew := SA.fr ((Fr.refl _).drew' 1)
    have BA := B3.fr fa
    have BB : Blk (w3.alloc (.cells #[.slice p n c, .slice q m d] 29)).drew w.heap.size #[.slice none 0 0, .slice none 0 0] 29 := B3.fr fb
    have c0 := SA.B.cell (j := 0) rfl; have c1 := SA.B.cell (j := 1) rfl
    have d0 : (w3.alloc (.cells #[.slice p n c, .slice q m d] 29)).drew.cell? ⟨w3.heap.size, 0, none⟩ = some (.slice p n c) := SB.B.cell (j := 0) rfl
    have d1 : (w3.alloc (.cells #[.slice p n c, .slice q m d] 29)).drew.cell? ⟨w3.heap.size, 1, none⟩ = some (.slice q m d) := SB.B.cell (j := 1) rfl
    clear T0 B3 oP oW D3
    go_upto_region 3 with fail
    go_region_with (go_at_call 135; refine (pays_dr _ p q n c m d (by first | with_reducible exact SB.D | with_reducible exact SA.D) (by omega) (by omega)).mono ?_; rintro e w5 ⟨a, k, j, rfl, ⟨X, oX⟩, hk, D5, E5⟩; have SC : HvI (fun _ => True) (fun _ => True) w1 g (A + 502 + 100) w3.heap.size p n c q m d a k j w5 := (by first | with_reducible exact SB.list hg E5 oX | with_reducible exact SA.list hg E5 oX); have BC : Blk w5 w.heap.size #[.slice none 0 0, .slice none 0 0] 29 := (by first | with_reducible exact E5.blk BB HG4.out | with_reducible exact E5.blk BA HG4.out); have k0 := SC.B.cell (j := 0) rfl; have k1 := SC.B.cell (j := 1) rfl; have r0 := BC.free 0; have r1 := BC.free 1; have i0 := BC.cell (j := 0) rfl; have i1 := BC.cell (j := 1) rfl; have FIN := Lib.hid (SC.done BC zlt (Nat.le_refl _) hg0 HD0.out (by omega)))
    all_goals
      go_wp2
      refine bodyPost_ret (results_TS Try.results97 _ _ w.heap.size (.slice p n c) (.slice q m d) _ rfl rfl (FIN.out.1.cell rfl) (FIN.out.1.cell rfl)) rfl ?_
      have D9 := FIN.out.2.2.mono (show _ ≤ A + 1000 by omega)
      exact ⟨_, _, _, _, _, _, _, _, _, rfl, FIN.out.2.1, h.trans D9, D9⟩
end Go.Proofs.Ytojipjjfndgbhaa
