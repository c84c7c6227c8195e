import Derived.Test.YtojipjjfndgbhaaLists
import Derived.Laws.AppendOwn
import Derived.Laws.AppendOwnNone
import Derived.ArgAppend
import Derived.Deep.AppendLies
/- append to slices of integers of the call's own, and copies by append (for seats without tables). -/
set_option linter.unusedVariables false
namespace Go.Proofs.Ytojipjjfndgbhaa
open Go.ChangeShapes Go.WideShapes Go.ChangeAt Go.RowKit

def Apart (a b : Option Addr) : Prop := ∀ k, blkOf a = some k → blkOf b = some k → False
section
variable {w w' : World}
theorem ownsRow_lo {B B' : Nat} {e : TypeId} {v : Value} {n : Nat} {xs : List Value} (h : w.ownsRow B e 1 v n xs) (hB : B' ≤ B) : w.ownsRow B' e 1 v n xs := by
  refine ⟨h.1, ?_⟩
  rcases h.2 with h2 | ⟨g, cap', cur, h2, h3, h4⟩
  · exact .inl h2
  · exact .inr ⟨g, cap', cur, h2, Nat.le_trans hB h3, h4⟩
end
section
variable {B H : Nat} {w w' : World} {a : Option Addr} {n cap : Nat}
/-- What happens in blocks from B on and below H alone. -/
structure GrownIn (B H : Nat) (w w' : World) : Prop where
  os : w'.os = w.os
  tape : w'.tape = w.tape
  output : w'.output = w.output
  size : w.heap.size ≤ w'.heap.size
  block : ∀ k, k < w.heap.size → ¬ (B ≤ k ∧ k < H) → w'.heap[k]? = w.heap[k]?
theorem GrownIn.refl (B H : Nat) (w : World) : GrownIn B H w w := ⟨rfl, rfl, rfl, Nat.le_refl _, fun _ _ _ => rfl⟩
theorem GrownIn.trans {B H : Nat} {x y z : World} (h : GrownIn B H x y) (k : GrownIn B H y z) : GrownIn B H x z :=
  ⟨k.os.trans h.os, k.tape.trans h.tape, k.output.trans h.output, Nat.le_trans h.size k.size, fun i hi hne => (k.block i (Nat.lt_of_lt_of_le hi h.size) hne).trans (h.block i hi hne)⟩
theorem GrownIn.of {B H : Nat} {p : Option Addr} (g : w.grownBy w' (blkOf p)) (hp : Within p B H) : GrownIn B H w w' :=
  ⟨g.os, g.tape, g.output, g.size, fun k hk hne => g.block k hk fun e => hne (hp k e.symm)⟩
theorem Fr.grownSS {w0 w w' : World} {lo hi : Nat} (h : Fr w0 w) (g : GrownIn lo hi w w') (hd : w0.heap.size ≤ lo) : Fr w0 w' :=
  Below.trans h ⟨g.os, g.tape, g.output, g.size, fun k hk => g.block k (Nat.lt_of_lt_of_le hk h.size) (by omega)⟩

theorem Own.skipSS {a : Option Addr} {n cap lo hi lo' hi' : Nat} {xs : List Int} (h : Own B w a n cap xs) (g : GrownIn lo' hi' w w') (ha : Within a lo hi) (hd : hi ≤ lo' ∨ hi' ≤ lo) : Own B w' a n cap xs := by
  refine ⟨⟨h.row.1, ?_⟩, h.rng⟩
  rcases h.row.2 with h2 | ⟨b, cap', cur, h2, h3, h4, h5⟩
  · exact .inl h2
  · refine .inr ⟨b, cap', cur, h2, h3, ?_, h5⟩
    simp only [Value.slice.injEq] at h2
    have := ha b (by rw [h2.1]; rfl)
    rw [g.block b (Array.getElem?_eq_some_iff.1 h4).1 (by omega)]; exact h4
end

/-! ### append -/
theorem ap_own {P : Program} (w : World) {ops : Array Oper} {rest : List Oper} {o : Oper} {act : Act} {Q : Exit → Act → World → Prop} (hgd : o.guard = none) (s x : Operand) (t e : TypeId)
    (ho : o.op = .call { callee := .builtin .append, args := #[s, x], argTypes := #[t, t] })
    (i : TypeInfo) (z : Value) (by_ : Nat) (ht : P.underlying t = some (.slice e)) (hi : P.info? e = some i) (hz : i.zero = some z) (hsize : i.size = 1) (hby : i.bytes = by_) (hzs : z.cells.size = 1)
    (B : Nat) (p : Option Addr) (n c : Nat) (xs : List Value) (hs : act.eval s = .slice p n c) (hown : w.ownsRow B e 1 (.slice p n c) n xs)
    (ad : Addr) (m cc : Nat) (news : List Value) (hx : act.eval x = .slice (some ad) m cc) (hl : news.length = m) (hnews : ∀ j u, news[j]? = some u → w.cell? (ad.add j) = some u) (h1 : ∀ u ∈ news, u.oneCell' = true)
    (hm : 0 < m) (h63 : n + m ≤ maxLen) (hbytes : (n + m) * by_ ≤ 140737488355328) (hbase : B ≤ w.heap.size)
    (h : ∀ g c' w', w'.ownsRow B e 1 (.slice (some ⟨g, 0, none⟩) (n + m) c') (n + m) (xs ++ news) → w.grownBy w' (blkOf p) → (blkOf p = some g ∨ w.heap.size ≤ g) → wpList P ops Q rest (act.put o.dst (.slice (some ⟨g, 0, none⟩) (n + m) c')) w') :
    wpList P ops Q (o :: rest) act w := by
  have hfin : ∀ v' w', w'.ownsRow w.heap.size e 1 v' (n + m) (xs ++ news) → w.grownBy w' none → wpList P ops Q rest (act.put o.dst v') w' := by
    intro v' w' r1 r2
    rcases r1.2 with ⟨_, h0⟩ | ⟨g, cap', cur, rfl, h3, _⟩
    · omega
    · refine h g cap' w' (ownsRow_lo r1 hbase) ⟨r2.os, r2.tape, r2.output, r2.size, fun k hk _ => r2.block k hk (by simp)⟩ (.inr h3)
  rcases hown.2 with ⟨h2, h3⟩ | ⟨g, cap, cur, h2, h3, h4, h5, h6, h7, h8⟩
  · simp only [Value.slice.injEq] at h2
    obtain ⟨rfl, rfl, rfl⟩ := h2
    exact wpList_append_grows w hgd s x t ho e i z 1 by_ ht hi hz hsize hby hzs (by omega) none 0 0 xs hs (fun _ => ⟨rfl, rfl⟩) hown.1 (fun b hb => by cases hb) ad m cc news hx (by omega) hnews h1 (by omega) h63 hbytes hfin
  · simp only [Value.slice.injEq] at h2
    obtain ⟨rfl, _, rfl⟩ := h2
    by_cases hroom : n + m ≤ c
    · have hfit : n * i.size + news.length ≤ cur.size := by rw [hsize, hl, h7]; omega
      have hr := run_append_room (P := P) w t o.type e i ht hi g n c cur h4 ad m cc news (by rw [hsize]; omega) hnews h1 hroom hfit
      refine wpList_plain hgd fun K hK => ?_
      unfold Oper.wp
      simp [execOp, ho, resolve, invoke, builtin, hs, hx, hr, Result.andThen]
      refine hK _ _ (h g c _ ⟨?_, .inr ⟨g, c, _, rfl, h3, setRow_heap w g cur _ e _ h4, hroom, h6, ?_, ?_⟩⟩ ⟨rfl, rfl, rfl, by simp, fun k _ hk => setRow_other w g k _ (fun e => hk (by simp [blkOf, e]))⟩ (.inl rfl))
      · rw [List.length_append, hown.1]; omega
      · simp only [List.size_toArray, List.length_append, List.length_take, List.length_drop, Array.length_toList]
        have := hown.1
        simp only [hsize] at *
        omega
      · have hlen : (xs ++ news).length = (n + m) * 1 := by rw [List.length_append, hown.1]; omega
        rw [hsize, h8]
        rw [← List.append_assoc, ← hlen]
        exact List.take_left
    · refine wpList_append_grows w hgd s x t ho e i z 1 by_ ht hi hz hsize hby hzs (by omega) (some ⟨g, 0, none⟩) n c xs hs (fun hb => by cases hb) hown.1 (fun b hb => ?_) ad m cc news hx (by omega) hnews h1 (by omega) h63 hbytes hfin
      obtain rfl : (⟨g, 0, none⟩ : Addr) = b := by simpa using hb
      exact hown.cells (g := g) rfl

/-- append of one integer to a slice of the call's own. -/
theorem ap_int (W : World) {ops : Array Oper} {rest : List Oper} {o : Oper} {act : Act} {Q : Exit → Act → World → Prop} (hgd : o.guard = none) (s x : Operand)
    (ho : o.op = .call { callee := .builtin .append, args := #[s, x], argTypes := #[22, 22] }) (B : Nat) (p : Option Addr) (n c : Nat) (xs : List Int) (z : Int)
    (hs : act.eval s = .slice p n c) (hx : act.eval x = .slice (some ⟨W.heap.size, 0, none⟩) 1 1) (hown : Own B W p n c xs) (hB : B ≤ W.heap.size) (hz : I64 z) (hn : n ≤ 1048576)
    (h : ∀ g c' w', Own B w' (some ⟨g, 0, none⟩) (n + 1) c' (xs ++ [z]) → W.grownBy w' (blkOf p) → (blkOf p = some g ∨ W.heap.size ≤ g) → wpList Try.prog ops Q rest (act.put o.dst (.slice (some ⟨g, 0, none⟩) (n + 1) c')) w') :
    wpList Try.prog ops Q (o :: rest) act (W.alloc (.cells #[.int .i64 z] 3)) := by
  obtain ⟨i0, hi, hz0, hz1, hz2⟩ := info_parts infoInt
  refine ap_own _ hgd s x 22 3 ho i0 (.int .i64 0) 8 Try.underlying22 hi hz0 hz1 hz2 rfl B p n c _ hs (hown.row.alloc _) ⟨W.heap.size, 0, none⟩ 1 1 [.int .i64 z] hx rfl ?_ ?_ (by omega) (by unfold maxLen; omega) (by omega) (by simp; omega) ?_
  · intro j u hu
    have hj : j = 0 := by
      rcases j with _ | j
      · rfl
      · simp at hu
    subst hj
    have hadd : (⟨W.heap.size, 0, none⟩ : Addr).add 0 = ⟨W.heap.size, 0, none⟩ := by simp [Addr.add]
    rw [hadd, cell_of_row _ W.heap.size 0 #[.int .i64 z] 3 (0, 0) (heap_alloc_new W _)]
    simpa using hu
  · intro u hu; simp at hu; subst hu; rfl
  · intro g c' w' h1 h2 h3
    have hg : W.grownBy w' (blkOf p) := grownBy_trans (World.grownBy_alloc W _ _) h2
    refine h g c' w' ⟨by simpa using h1, ?_⟩ hg ?_
    · intro y hy
      rcases List.mem_append.1 hy with hy | hy
      · exact hown.rng y hy
      · simp at hy; subst hy; exact hz
    · rcases h3 with h3 | h3
      · exact .inl h3
      · right; simp at h3; omega

/-- append of all of a list that is read to a slice of the call's own. -/
theorem ap_cat (w : World) {ops : Array Oper} {rest : List Oper} {o : Oper} {act : Act} {Q : Exit → Act → World → Prop} (hgd : o.guard = none) (s x : Operand)
    (ho : o.op = .call { callee := .builtin .append, args := #[s, x], argTypes := #[22, 22] }) (B : Nat) (p : Option Addr) (n c : Nat) (xs : List Int) (q : Option Addr) (m d : Nat) (ys : List Int)
    (hs : act.eval s = .slice p n c) (hx : act.eval x = .slice q m d) (hown : Own B w p n c xs) (hB : B ≤ w.heap.size) (hq : SL w q m d ys) (hm : 0 < m) (hn : n + m ≤ 1048576)
    (h : ∀ g c' w', Own B w' (some ⟨g, 0, none⟩) (n + m) c' (xs ++ ys) → w.grownBy w' (blkOf p) → (blkOf p = some g ∨ w.heap.size ≤ g) → wpList Try.prog ops Q rest (act.put o.dst (.slice (some ⟨g, 0, none⟩) (n + m) c')) w') :
    wpList Try.prog ops Q (o :: rest) act w := by
  obtain ⟨i0, hi, hz0, hz1, hz2⟩ := info_parts infoInt
  obtain ⟨b, off, rfl, hc⟩ := hq.cells.resolve_left (by omega)
  have hl := hq.len
  refine ap_own _ hgd s x 22 3 ho i0 (.int .i64 0) 8 Try.underlying22 hi hz0 hz1 hz2 rfl B p n c _ hs hown.row ⟨b, off, none⟩ m d (ys.map (Value.int .i64)) hx (by simpa using hl) ?_ ?_ hm (by unfold maxLen; omega) (by omega) hB ?_
  · intro j u hu
    have hj : j < ys.length := by
      rcases Nat.lt_or_ge j ys.length with hlt | hge
      · exact hlt
      · simp [hge] at hu
    rw [addr_add, hc j (by omega), nth_eq hj]
    simpa [hj] using hu
  · intro u hu
    obtain ⟨y, _, rfl⟩ := List.mem_map.1 hu
    rfl
  · intro g c' w' h1 h2 h3
    refine h g c' w' ⟨by simpa using h1, ?_⟩ h2 h3
    intro y hy
    rcases List.mem_append.1 hy with hy | hy
    · exact hown.rng y hy
    · exact hq.rng y hy

/-- append of one integer, as a step of a region that draws. -/
theorem step_ap_int (V : World) {ops : Array Oper} {o : Oper} {a : Act} {K : Act → World → Prop} {Q : Exit → Act → World → Prop} {E : Prop} (hgd : o.guard = none) (s x : Operand)
    (ho : o.op = .call { callee := .builtin .append, args := #[s, x], argTypes := #[22, 22] }) (B : Nat) (p : Option Addr) (n c : Nat) (xs : List Int) (z : Int) (N : Nat)
    (hs : a.eval s = .slice p n c) (hx : a.eval x = .slice (some ⟨N, 0, none⟩) 1 1) (hown : Own B V p n c xs) (hB : B ≤ V.heap.size) (hcell : V.cell? ⟨N, 0, none⟩ = some (.int .i64 z)) (hz : I64 z) (hn : n ≤ 1048576) (H : Nat) (hH : V.heap.size = H)
    (h : ∀ g c' w', Own B w' (some ⟨g, 0, none⟩) (n + 1) c' (xs ++ [z]) → V.grownBy w' (blkOf p) → (blkOf p = some g ∨ g = H) → K (a.put o.dst (.slice (some ⟨g, 0, none⟩) (n + 1) c')) w') :
    if Region.wanted o (yielded ops a.tmps) = true then Oper.wp Try.prog o a V K Q else E := by
  obtain ⟨i0, hi, hz0, hz1, hz2⟩ := info_parts infoInt
  have hb : (Value.slice p n c).ownBlock = blkOf p := by cases p <;> rfl
  refine step_append_lies _ hgd s x 22 ho B 3 i0 (.int .i64 0) 1 8 Try.underlying22 hi hz0 hz1 hz2 rfl (by omega) (.slice p n c) n _ hs hown.row ⟨N, 0, none⟩ 1 1 [.int .i64 z] hx rfl ?_ ?_ (by omega) (by unfold maxLen; omega) (by omega) hB H hH ?_
  · intro j u hu
    have hj : j = 0 := by
      rcases j with _ | j
      · rfl
      · simp at hu
    subst hj
    have hadd : (⟨N, 0, none⟩ : Addr).add 0 = ⟨N, 0, none⟩ := by simp [Addr.add]
    rw [hadd, hcell]
    simpa using hu
  · intro u hu; simp at hu; subst hu; rfl
  · intro g c' w' h1 h2 h3 _
    rw [hb] at h2 h3
    refine h g c' w' ⟨by simpa using h1, ?_⟩ h2 h3
    intro y hy
    rcases List.mem_append.1 hy with hy | hy
    · exact hown.rng y hy
    · simp at hy; subst hy; exact hz

theorem SL.lt {w : World} {b off n cap : Nat} {xs : List Int} (h : SL w (some ⟨b, off, none⟩) n cap xs) (hn : 0 < n) : b < w.heap.size := by
  obtain ⟨b', o', e, hc⟩ := h.cells.resolve_left (by omega)
  simp only [Option.some.injEq, Addr.mk.injEq, and_true] at e
  obtain ⟨rfl, rfl⟩ := e
  exact World.block_lt_of_cell? w _ (hc 0 hn)


theorem copied_any (w : World) (a : Option Addr) (n cap : Nat) (xs : List Int) (h : SL w a n cap xs) (hn : n ≤ 1048576) :
    Calls Try.prog 115 #[.slice a n cap] w (RetS xs w) := by
  have hl := h.len
  obtain ⟨i0, hi, hz0, hz1, hz2⟩ := info_parts infoInt
  have hmade := Own.made0 (B := w.heap.size) w (Nat.le_refl _)
  have hfr := (Fr.refl w).alloc (.cells #[] 3)
  have hR := h.rng
  have h' := h.fr hfr
  have hnil := h.nil
  have hcells := h'.cells
  clear h h'
  cases a with
  | none =>
    obtain ⟨rfl, rfl⟩ := hnil rfl
    have hx : xs = [] := List.length_eq_zero_iff.1 hl
    subst hx
    clear hcells hnil
    go_enter Try.func115, Try.ntmps115
    go_wp2_with (at_builtin; refine wpList_append_own_none rfl _ _ 22 rfl w.heap.size 3 i0 1 Try.underlying22 hi _ 0 [] rfl hmade.row rfl ?_)
    go_ret
    exact ⟨_, _, _, rfl, hmade, hfr, by omega⟩
  | some x =>
    clear hnil
    have hlen : n = xs.length := hl.symm
    have hc0 : ∀ j u, (xs.map (Value.int .i64))[j]? = some u → (w.alloc (.cells #[] 3)).cell? (x.add j) = some u := by
      intro j u hu
      have hj : j < xs.length := by
        rcases Nat.lt_or_ge j xs.length with hlt | hge
        · exact hlt
        · simp [hge] at hu
      obtain ⟨b, off, hb, hc⟩ := hcells.resolve_left (by omega)
      obtain rfl : x = ⟨b, off, none⟩ := by simpa using hb
      rw [addr_add, hc j (by omega), nth_eq hj]
      simpa [hj] using hu
    have Hc := Lib.hid hc0
    have Hl := Lib.hid hlen
    clear hcells hc0 hlen hl
    go_enter Try.func115, Try.ntmps115
    go_wp2_with (at_builtin; (refine wpList_append_own _ rfl _ _ 22 rfl w.heap.size 3 i0 (.int .i64 0) 1 8 Try.underlying22 hi hz0 hz1 hz2 rfl (by decide) _ 0 [] rfl hmade.row x n cap (xs.map (Value.int .i64)) rfl (by have := Hl.out; rw [List.length_map]; omega) Hc.out ?_ (by unfold maxLen; omega) (by omega) (by simp) ?_))
    · intro u hu
      obtain ⟨y, _, rfl⟩ := List.mem_map.1 hu
      rfl
    · intro v' w' hown hg _
      try simp only [Nat.zero_add, List.nil_append] at hown
      have hF : Fr w w' := hfr.grown hg (fun k hk => by simp [Value.ownBlock] at hk; omega)
      rcases hown.2 with ⟨rfl, h0⟩ | ⟨g, cap', cur, rfl, _⟩
      · go_wp2
        go_ret
        have hx : xs = [] := List.length_eq_zero_iff.1 (by have := Hl.out; omega)
        subst hx; subst h0
        exact ⟨none, 0, 0, rfl, ⟨by simpa using hown, by simp⟩, hF, by omega⟩
      · go_wp2
        go_ret
        exact ⟨_, _, _, rfl, ⟨hown, hR⟩, hF, by omega⟩


theorem l1Own_any (w : World) (a : Option Addr) (n cap : Nat) (xs : List Int) (h : SL w a n cap xs) (hn : n ≤ 1048576) :
    Calls Try.prog 114 #[.slice a n cap] w (RetS xs w) := by
  have hl := h.len
  obtain ⟨i0, hi, hz0, hz1, hz2⟩ := info_parts infoInt
  have hmade := Own.made0 (B := w.heap.size) w (Nat.le_refl _)
  have hfr := (Fr.refl w).alloc (.cells #[] 3)
  have hR := h.rng
  have h' := h.fr hfr
  have hnil := h.nil
  have hcells := h'.cells
  clear h h'
  cases a with
  | none =>
    obtain ⟨rfl, rfl⟩ := hnil rfl
    have hx : xs = [] := List.length_eq_zero_iff.1 hl
    subst hx
    clear hcells hnil
    go_enter Try.func114, Try.ntmps114
    go_wp2_with (at_builtin; refine wpList_append_own_none rfl _ _ 22 rfl w.heap.size 3 i0 1 Try.underlying22 hi _ 0 [] rfl hmade.row rfl ?_)
    go_ret
    exact ⟨_, _, _, rfl, hmade, hfr, by omega⟩
  | some x =>
    clear hnil
    have hlen : n = xs.length := hl.symm
    have hc0 : ∀ j u, (xs.map (Value.int .i64))[j]? = some u → (w.alloc (.cells #[] 3)).cell? (x.add j) = some u := by
      intro j u hu
      have hj : j < xs.length := by
        rcases Nat.lt_or_ge j xs.length with hlt | hge
        · exact hlt
        · simp [hge] at hu
      obtain ⟨b, off, hb, hc⟩ := hcells.resolve_left (by omega)
      obtain rfl : x = ⟨b, off, none⟩ := by simpa using hb
      rw [addr_add, hc j (by omega), nth_eq hj]
      simpa [hj] using hu
    have Hc := Lib.hid hc0
    have Hl := Lib.hid hlen
    clear hcells hc0 hlen hl
    go_enter Try.func114, Try.ntmps114
    go_wp2_with (at_builtin; (refine wpList_append_own _ rfl _ _ 22 rfl w.heap.size 3 i0 (.int .i64 0) 1 8 Try.underlying22 hi hz0 hz1 hz2 rfl (by decide) _ 0 [] rfl hmade.row x n cap (xs.map (Value.int .i64)) rfl (by have := Hl.out; rw [List.length_map]; omega) Hc.out ?_ (by unfold maxLen; omega) (by omega) (by simp) ?_))
    · intro u hu
      obtain ⟨y, _, rfl⟩ := List.mem_map.1 hu
      rfl
    · intro v' w' hown hg _
      try simp only [Nat.zero_add, List.nil_append] at hown
      have hF : Fr w w' := hfr.grown hg (fun k hk => by simp [Value.ownBlock] at hk; omega)
      rcases hown.2 with ⟨rfl, h0⟩ | ⟨g, cap', cur, rfl, _⟩
      · go_wp2
        go_ret
        have hx : xs = [] := List.length_eq_zero_iff.1 (by have := Hl.out; omega)
        subst hx; subst h0
        exact ⟨none, 0, 0, rfl, ⟨by simpa using hown, by simp⟩, hF, by omega⟩
      · go_wp2
        go_ret
        exact ⟨_, _, _, rfl, ⟨hown, hR⟩, hF, by omega⟩


end Go.Proofs.Ytojipjjfndgbhaa
