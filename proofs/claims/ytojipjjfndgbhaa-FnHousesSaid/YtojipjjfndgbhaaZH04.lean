import Derived.Test.YtojipjjfndgbhaaZH02
import Derived.Laws.AppendOwn
import Derived.Laws.AppendOwnNone
import Derived.ArgAppend
import Derived.Deep.AppendLies
import Derived.Test.YtojipjjfndgbhaaZH03
/- append to slices of integers of the call's own, and copies by append (for seats without tables). -/
set_option linter.unusedVariables false
namespace Go.Proofs.Ytojipjjfndgbhaa
open Go.ChangeShapes Go.WideShapes Go.ChangeAt Go.RowKit

def Apart (a b : Option Addr) : Prop := ∀ k, blkOf a = some k → blkOf b = some k → False
section
variable {w w' : World}
theorem ownsRow_lo {B B' : Nat} {e : TypeId} {v : Value} {n : Nat} {xs : List Value} (h : w.ownsRow B e 1 v n xs) (hB : B' ≤ B) : w.ownsRow B' e 1 v n xs := by
  refine ⟨h.1, ?_⟩
  rcases h.2 with h2 | ⟨g, cap', cur, h2, h3, h4⟩
  · exact .inl h2
  · exact .inr ⟨g, cap', cur, h2, Nat.le_trans hB h3, h4⟩
end
section
variable {B H : Nat} {w w' : World} {a : Option Addr} {n cap : Nat}
/-- What happens in blocks from B on and below H alone. -/
structure GrownIn (B H : Nat) (w w' : World) : Prop where
  os : w'.os = w.os
  tape : w'.tape = w.tape
  output : w'.output = w.output
  size : w.heap.size ≤ w'.heap.size
  block : ∀ k, k < w.heap.size → ¬ (B ≤ k ∧ k < H) → w'.heap[k]? = w.heap[k]?
theorem GrownIn.refl (B H : Nat) (w : World) : GrownIn B H w w := ⟨rfl, rfl, rfl, Nat.le_refl _, fun _ _ _ => rfl⟩
theorem GrownIn.trans {B H : Nat} {x y z : World} (h : GrownIn B H x y) (k : GrownIn B H y z) : GrownIn B H x z :=
  ⟨k.os.trans h.os, k.tape.trans h.tape, k.output.trans h.output, Nat.le_trans h.size k.size, fun i hi hne => (k.block i (Nat.lt_of_lt_of_le hi h.size) hne).trans (h.block i hi hne)⟩
theorem GrownIn.of {B H : Nat} {p : Option Addr} (g : w.grownBy w' (blkOf p)) (hp : Within p B H) : GrownIn B H w w' :=
  ⟨g.os, g.tape, g.output, g.size, fun k hk hne => g.block k hk fun e => hne (hp k e.symm)⟩
theorem Fr.grownSS {w0 w w' : World} {lo hi : Nat} (h : Fr w0 w) (g : GrownIn lo hi w w') (hd : w0.heap.size ≤ lo) : Fr w0 w' :=
  Below.trans h ⟨g.os, g.tape, g.output, g.size, fun k hk => g.block k (Nat.lt_of_lt_of_le hk h.size) (by omega)⟩

theorem Own.skipSS {a : Option Addr} {n cap lo hi lo' hi' : Nat} {xs : List Int} (h : Own B w a n cap xs) (g : GrownIn lo' hi' w w') (ha : Within a lo hi) (hd : hi ≤ lo' ∨ hi' ≤ lo) : Own B w' a n cap xs := by
  refine ⟨⟨h.row.1, ?_⟩, h.rng⟩
  rcases h.row.2 with h2 | ⟨b, cap', cur, h2, h3, h4, h5⟩
  · exact .inl h2
  · refine .inr ⟨b, cap', cur, h2, h3, ?_, h5⟩
    simp only [Value.slice.injEq] at h2
    have := ha b (by rw [h2.1]; rfl)
    rw [g.block b (Array.getElem?_eq_some_iff.1 h4).1 (by omega)]; exact h4
end

/-! ### append -/
theorem ap_own {P : Program} (w : World) {ops : Array Oper} {rest : List Oper} {o : Oper} {act : Act} {Q : Exit → Act → World → Prop} (hgd : o.guard = none) (s x : Operand) (t e : TypeId)
    (ho : o.op = .call { callee := .builtin .append, args := #[s, x], argTypes := #[t, t] })
    (i : TypeInfo) (z : Value) (by_ : Nat) (ht : P.underlying t = some (.slice e)) (hi : P.info? e = some i) (hz : i.zero = some z) (hsize : i.size = 1) (hby : i.bytes = by_) (hzs : z.cells.size = 1)
    (B : Nat) (p : Option Addr) (n c : Nat) (xs : List Value) (hs : act.eval s = .slice p n c) (hown : w.ownsRow B e 1 (.slice p n c) n xs)
    (ad : Addr) (m cc : Nat) (news : List Value) (hx : act.eval x = .slice (some ad) m cc) (hl : news.length = m) (hnews : ∀ j u, news[j]? = some u → w.cell? (ad.add j) = some u) (h1 : ∀ u ∈ news, u.oneCell' = true)
    (hm : 0 < m) (h63 : n + m ≤ maxLen) (hbytes : (n + m) * by_ ≤ 140737488355328) (hbase : B ≤ w.heap.size)
    (h : ∀ g c' w', w'.ownsRow B e 1 (.slice (some ⟨g, 0, none⟩) (n + m) c') (n + m) (xs ++ news) → w.grownBy w' (blkOf p) → (blkOf p = some g ∨ w.heap.size ≤ g) → wpList P ops Q rest (act.put o.dst (.slice (some ⟨g, 0, none⟩) (n + m) c')) w') :
    wpList P ops Q (o :: rest) act w := by
  have hfin : ∀ v' w', w'.ownsRow w.heap.size e 1 v' (n + m) (xs ++ news) → w.grownBy w' none → wpList P ops Q rest (act.put o.dst v') w' := by
    intro v' w' r1 r2
    rcases r1.2 with ⟨_, h0⟩ | ⟨g, cap', cur, rfl, h3, _⟩
    · omega
    · refine h g cap' w' (ownsRow_lo r1 hbase) ⟨r2.os, r2.tape, r2.output, r2.size, fun k hk _ => r2.block k hk (by simp)⟩ (.inr h3)
  rcases hown.2 with ⟨h2, h3⟩ | ⟨g, cap, cur, h2, h3, h4, h5, h6, h7, h8⟩
  · simp only [Value.slice.injEq] at h2
    obtain ⟨rfl, rfl, rfl⟩ := h2
    exact wpList_append_grows w hgd s x t ho e i z 1 by_ ht hi hz hsize hby hzs (by omega) none 0 0 xs hs (fun _ => ⟨rfl, rfl⟩) hown.1 (fun b hb => by cases hb) ad m cc news hx (by omega) hnews h1 (by omega) h63 hbytes hfin
  · simp only [Value.slice.injEq] at h2
    obtain ⟨rfl, _, rfl⟩ := h2
    by_cases hroom : n + m ≤ c
    · have hfit : n * i.size + news.length ≤ cur.size := by rw [hsize, hl, h7]; omega
      have hr := run_append_room (P := P) w t o.type e i ht hi g n c cur h4 ad m cc news (by rw [hsize]; omega) hnews h1 hroom hfit
      refine wpList_plain hgd fun K hK => ?_
      unfold Oper.wp
      simp [execOp, ho, resolve, invoke, builtin, hs, hx, hr, Result.andThen]
      refine hK _ _ (h g c _ ⟨?_, .inr ⟨g, c, _, rfl, h3, setRow_heap w g cur _ e _ h4, hroom, h6, ?_, ?_⟩⟩ ⟨rfl, rfl, rfl, by simp, fun k _ hk => setRow_other w g k _ (fun e => hk (by simp [blkOf, e]))⟩ (.inl rfl))
      · rw [List.length_append, hown.1]; omega
      · simp only [List.size_toArray, List.length_append, List.length_take, List.length_drop, Array.length_toList]
        have := hown.1
        simp only [hsize] at *
        omega
      · have hlen : (xs ++ news).length = (n + m) * 1 := by rw [List.length_append, hown.1]; omega
        rw [hsize, h8]
        rw [← List.append_assoc, ← hlen]
        exact List.take_left
    · refine wpList_append_grows w hgd s x t ho e i z 1 by_ ht hi hz hsize hby hzs (by omega) (some ⟨g, 0, none⟩) n c xs hs (fun hb => by cases hb) hown.1 (fun b hb => ?_) ad m cc news hx (by omega) hnews h1 (by omega) h63 hbytes hfin
      obtain rfl : (⟨g, 0, none⟩ : Addr) = b := by simpa using hb
      exact hown.cells (g := g) rfl

/-- append of one integer to a slice of the call's own. -/
theorem ap_int (W : World) {ops : Array Oper} {rest : List Oper} {o : Oper} {act : Act} {Q : Exit → Act → World → Prop} (hgd : o.guard = none) (s x : Operand)
    (ho : o.op = .call { callee := .builtin .append, args := #[s, x], argTypes := #[22, 22] }) (B : Nat) (p : Option Addr) (n c : Nat) (xs : List Int) (z : Int)
    (hs : act.eval s = .slice p n c) (hx : act.eval x = .slice (some ⟨W.heap.size, 0, none⟩) 1 1) (hown : Own B W p n c xs) (hB : B ≤ W.heap.size) (hz : I64 z) (hn : n ≤ 1048576)
    (h : ∀ g c' w', Own B w' (some ⟨g, 0, none⟩) (n + 1) c' (xs ++ [z]) → W.grownBy w' (blkOf p) → (blkOf p = some g ∨ W.heap.size ≤ g) → wpList Try.prog ops Q rest (act.put o.dst (.slice (some ⟨g, 0, none⟩) (n + 1) c')) w') :
    wpList Try.prog ops Q (o :: rest) act (W.alloc (.cells #[.int .i64 z] 3)) := by
  obtain ⟨i0, hi, hz0, hz1, hz2⟩ := info_parts infoInt
  refine ap_own _ hgd s x 22 3 ho i0 (.int .i64 0) 8 Try.underlying22 hi hz0 hz1 hz2 rfl B p n c _ hs (hown.row.alloc _) ⟨W.heap.size, 0, none⟩ 1 1 [.int .i64 z] hx rfl ?_ ?_ (by omega) (by unfold maxLen; omega) (by omega) (by simp; omega) ?_
  · intro j u hu
    have hj : j = 0 := by
      rcases j with _ | j
      · rfl
      · simp at hu
    subst hj
    have hadd : (⟨W.heap.size, 0, none⟩ : Addr).add 0 = ⟨W.heap.size, 0, none⟩ := by simp [Addr.add]
    rw [hadd, cell_of_row _ W.heap.size 0 #[.int .i64 z] 3 (0, 0) (heap_alloc_new W _)]
    simpa using hu
  · intro u hu; simp at hu; subst hu; rfl
  · intro g c' w' h1 h2 h3
    have hg : W.grownBy w' (blkOf p) := grownBy_trans (World.grownBy_alloc W _ _) h2
    refine h g c' w' ⟨by simpa using h1, ?_⟩ hg ?_
    · intro y hy
      rcases List.mem_append.1 hy with hy | hy
      · exact hown.rng y hy
      · simp at hy; subst hy; exact hz
    · rcases h3 with h3 | h3
      · exact .inl h3
      · right; simp at h3; omega

/-- append of all of a list that is read to a slice of the call's own. -/
theorem ap_cat (w : World) {ops : Array Oper} {rest : List Oper} {o : Oper} {act : Act} {Q : Exit → Act → World → Prop} (hgd : o.guard = none) (s x : Operand)
    (ho : o.op = .call { callee := .builtin .append, args := #[s, x], argTypes := #[22, 22] }) (B : Nat) (p : Option Addr) (n c : Nat) (xs : List Int) (q : Option Addr) (m d : Nat) (ys : List Int)
    (hs : act.eval s = .slice p n c) (hx : act.eval x = .slice q m d) (hown : Own B w p n c xs) (hB : B ≤ w.heap.size) (hq : SL w q m d ys) (hm : 0 < m) (hn : n + m ≤ 1048576)
    (h : ∀ g c' w', Own B w' (some ⟨g, 0, none⟩) (n + m) c' (xs ++ ys) → w.grownBy w' (blkOf p) → (blkOf p = some g ∨ w.heap.size ≤ g) → wpList Try.prog ops Q rest (act.put o.dst (.slice (some ⟨g, 0, none⟩) (n + m) c')) w') :
    wpList Try.prog ops Q (o :: rest) act w := by
  obtain ⟨i0, hi, hz0, hz1, hz2⟩ := info_parts infoInt
  obtain ⟨b, off, rfl, hc⟩ := hq.cells.resolve_left (by omega)
  have hl := hq.len
  refine ap_own _ hgd s x 22 3 ho i0 (.int .i64 0) 8 Try.underlying22 hi hz0 hz1 hz2 rfl B p n c _ hs hown.row ⟨b, off, none⟩ m d (ys.map (Value.int .i64)) hx (by simpa using hl) ?_ ?_ hm (by unfold maxLen; omega) (by omega) hB ?_
  · intro j u hu
    have hj : j < ys.length := by
      rcases Nat.lt_or_ge j ys.length with hlt | hge
      · exact hlt
      · simp [hge] at hu
    rw [addr_add, hc j (by omega), nth_eq hj]
    simpa [hj] using hu
  · intro u hu
    obtain ⟨y, _, rfl⟩ := List.mem_map.1 hu
    rfl
  · intro g c' w' h1 h2 h3
    refine h g c' w' ⟨by simpa using h1, ?_⟩ h2 h3
    intro y hy
    rcases List.mem_append.1 hy with hy | hy
    · exact hown.rng y hy
    · exact hq.rng y hy

/-- append of one integer, as a step of a region that draws. -/
theorem step_ap_int (V : World) {ops : Array Oper} {o : Oper} {a : Act} {K : Act → World → Prop} {Q : Exit → Act → World → Prop} {E : Prop} (hgd : o.guard = none) (s x : Operand)
    (ho : o.op = .call { callee := .builtin .append, args := #[s, x], argTypes := #[22, 22] }) (B : Nat) (p : Option Addr) (n c : Nat) (xs : List Int) (z : Int) (N : Nat)
    (hs : a.eval s = .slice p n c) (hx : a.eval x = .slice (some ⟨N, 0, none⟩) 1 1) (hown : Own B V p n c xs) (hB : B ≤ V.heap.size) (hcell : V.cell? ⟨N, 0, none⟩ = some (.int .i64 z)) (hz : I64 z) (hn : n ≤ 1048576) (H : Nat) (hH : V.heap.size = H)
    (h : ∀ g c' w', Own B w' (some ⟨g, 0, none⟩) (n + 1) c' (xs ++ [z]) → V.grownBy w' (blkOf p) → (blkOf p = some g ∨ g = H) → K (a.put o.dst (.slice (some ⟨g, 0, none⟩) (n + 1) c')) w') :
    if Region.wanted o (yielded ops a.tmps) = true then Oper.wp Try.prog o a V K Q else E := by
  obtain ⟨i0, hi, hz0, hz1, hz2⟩ := info_parts infoInt
  have hb : (Value.slice p n c).ownBlock = blkOf p := by cases p <;> rfl
  refine step_append_lies _ hgd s x 22 ho B 3 i0 (.int .i64 0) 1 8 Try.underlying22 hi hz0 hz1 hz2 rfl (by omega) (.slice p n c) n _ hs hown.row ⟨N, 0, none⟩ 1 1 [.int .i64 z] hx rfl ?_ ?_ (by omega) (by unfold maxLen; omega) (by omega) hB H hH ?_
  · intro j u hu
    have hj : j = 0 := by
      rcases j with _ | j
      · rfl
      · simp at hu
    subst hj
    have hadd : (⟨N, 0, none⟩ : Addr).add 0 = ⟨N, 0, none⟩ := by simp [Addr.add]
    rw [hadd, hcell]
    simpa using hu
  · intro u hu; simp at hu; subst hu; rfl
  · intro g c' w' h1 h2 h3 _
    rw [hb] at h2 h3
    refine h g c' w' ⟨by simpa using h1, ?_⟩ h2 h3
    intro y hy
    rcases List.mem_append.1 hy with hy | hy
    · exact hown.rng y hy
    · simp at hy; subst hy; exact hz

theorem SL.lt {w : World} {b off n cap : Nat} {xs : List Int} (h : SL w (some ⟨b, off, none⟩) n cap xs) (hn : 0 < n) : b < w.heap.size := by
  obtain ⟨b', o', e, hc⟩ := h.cells.resolve_left (by omega)
  simp only [Option.some.injEq, Addr.mk.injEq, and_true] at e
  obtain ⟨rfl, rfl⟩ := e
  exact World.block_lt_of_cell? w _ (hc 0 hn)


theorem copied_any (w : World) (a : Option Addr) (n cap : Nat) (xs : List Int) (h : SL w a n cap xs) (hn : n ≤ 1048576) :
    Calls Try.prog 115 #[.slice a n cap] w (RetS xs w) := by
  have hl := h.len
  obtain ⟨i0, hi, hz0, hz1, hz2⟩ := info_parts infoInt
  have hmade := Own.made0 (B := w.heap.size) w (Nat.le_refl _)
  have hfr := (Fr.refl w).alloc (.cells #[] 3)
  have hR := h.rng
  have h' := h.fr hfr
  have hnil := h.nil
  have hcells := h'.cells
  clear h h'
  cases a with
  | none =>
    obtain ⟨rfl, rfl⟩ := hnil rfl
    have hx : xs = [] := List.length_eq_zero_iff.1 hl
    subst hx
    clear hcells hnil
    go_enter Try.func115, Try.ntmps115
    go_wp2_with (at_builtin; refine wpList_append_own_none rfl _ _ 22 rfl w.heap.size 3 i0 1 Try.underlying22 hi _ 0 [] rfl hmade.row rfl ?_)
    go_ret
    exact ⟨_, _, _, rfl, hmade, hfr, by omega⟩
  | some x =>
    clear hnil
    have hlen : n = xs.length := hl.symm
    have hc0 : ∀ j u, (xs.map (Value.int .i64))[j]? = some u → (w.alloc (.cells #[] 3)).cell? (x.add j) = some u := by
      intro j u hu
      have hj : j < xs.length := by
        rcases Nat.lt_or_ge j xs.length with hlt | hge
        · exact hlt
        · simp [hge] at hu
      obtain ⟨b, off, hb, hc⟩ := hcells.resolve_left (by omega)
      obtain rfl : x = ⟨b, off, none⟩ := by simpa using hb
      rw [addr_add, hc j (by omega), nth_eq hj]
      simpa [hj] using hu
    have Hc := Lib.hid hc0
    have Hl := Lib.hid hlen
    clear hcells hc0 hlen hl
    go_enter Try.func115, Try.ntmps115
    go_wp2_with (at_builtin; (refine wpList_append_own _ rfl _ _ 22 rfl w.heap.size 3 i0 (.int .i64 0) 1 8 Try.underlying22 hi hz0 hz1 hz2 rfl (by decide) _ 0 [] rfl hmade.row x n cap (xs.map (Value.int .i64)) rfl (by have := Hl.out; rw [List.length_map]; omega) Hc.out ?_ (by unfold maxLen; omega) (by omega) (by simp) ?_))
    · intro u hu
      obtain ⟨y, _, rfl⟩ := List.mem_map.1 hu
      rfl
    · intro v' w' hown hg _
      try simp only [Nat.zero_add, List.nil_append] at hown
      have hF : Fr w w' := hfr.grown hg (fun k hk => by simp [Value.ownBlock] at hk; omega)
      rcases hown.2 with ⟨rfl, h0⟩ | ⟨g, cap', cur, rfl, _⟩
      · go_wp2
        go_ret
        have hx : xs = [] := List.length_eq_zero_iff.1 (by have := Hl.out; omega)
        subst hx; subst h0
        exact ⟨none, 0, 0, rfl, ⟨by simpa using hown, by simp⟩, hF, by omega⟩
      · go_wp2
        go_ret
        exact ⟨_, _, _, rfl, ⟨hown, hR⟩, hF, by omega⟩


theorem l1Own_any (w : World) (a : Option Addr) (n cap : Nat) (xs : List Int) (h : SL w a n cap xs) (hn : n ≤ 1048576) :
    Calls Try.prog 114 #[.slice a n cap] w (RetS xs w) := by
  have hl := h.len
  obtain ⟨i0, hi, hz0, hz1, hz2⟩ := info_parts infoInt
  have hmade := Own.made0 (B := w.heap.size) w (Nat.le_refl _)
  have hfr := (Fr.refl w).alloc (.cells #[] 3)
  have hR := h.rng
  have h' := h.fr hfr
  have hnil := h.nil
  have hcells := h'.cells
  clear h h'
  cases a with
  | none =>
    obtain ⟨rfl, rfl⟩ := hnil rfl
    have hx : xs = [] := List.length_eq_zero_iff.1 hl
    subst hx
    clear hcells hnil
    go_enter Try.func114, Try.ntmps114
    go_wp2_with (at_builtin; refine wpList_append_own_none rfl _ _ 22 rfl w.heap.size 3 i0 1 Try.underlying22 hi _ 0 [] rfl hmade.row rfl ?_)
    go_ret
    exact ⟨_, _, _, rfl, hmade, hfr, by omega⟩
  | some x =>
    clear hnil
    have hlen : n = xs.length := hl.symm
    have hc0 : ∀ j u, (xs.map (Value.int .i64))[j]? = some u → (w.alloc (.cells #[] 3)).cell? (x.add j) = some u := by
      intro j u hu
      have hj : j < xs.length := by
        rcases Nat.lt_or_ge j xs.length with hlt | hge
        · exact hlt
        · simp [hge] at hu
      obtain ⟨b, off, hb, hc⟩ := hcells.resolve_left (by omega)
      obtain rfl : x = ⟨b, off, none⟩ := by simpa using hb
      rw [addr_add, hc j (by omega), nth_eq hj]
      simpa [hj] using hu
    have Hc := Lib.hid hc0
    have Hl := Lib.hid hlen
    clear hcells hc0 hlen hl
    go_enter Try.func114, Try.ntmps114
    go_wp2_with (at_builtin; (refine wpList_append_own _ rfl _ _ 22 rfl w.heap.size 3 i0 (.int .i64 0) 1 8 Try.underlying22 hi hz0 hz1 hz2 rfl (by decide) _ 0 [] rfl hmade.row x n cap (xs.map (Value.int .i64)) rfl (by have := Hl.out; rw [List.length_map]; omega) Hc.out ?_ (by unfold maxLen; omega) (by omega) (by simp) ?_))
    · intro u hu
      obtain ⟨y, _, rfl⟩ := List.mem_map.1 hu
      rfl
    · intro v' w' hown hg _
      try simp only [Nat.zero_add, List.nil_append] at hown
      have hF : Fr w w' := hfr.grown hg (fun k hk => by simp [Value.ownBlock] at hk; omega)
      rcases hown.2 with ⟨rfl, h0⟩ | ⟨g, cap', cur, rfl, _⟩
      · go_wp2
        go_ret
        have hx : xs = [] := List.length_eq_zero_iff.1 (by have := Hl.out; omega)
        subst hx; subst h0
        exact ⟨none, 0, 0, rfl, ⟨by simpa using hown, by simp⟩, hF, by omega⟩
      · go_wp2
        go_ret
        exact ⟨_, _, _, rfl, ⟨hown, hR⟩, hF, by omega⟩


end Go.Proofs.Ytojipjjfndgbhaa
/- Contracts of trees: isNode, isProcess, isEnd, IsTree. -/
set_option linter.unusedVariables false
namespace Go.Proofs.Ytojipjjfndgbhaa
open Go.ChangeShapes Go.WideShapes Go.ChangeAt Go.RowKit

theorem isNode_any (w : World) (p q : Option Addr) (n c m d : Nat) (P W : List Int) (hP : SL w p n c P) (x : Int) :
    Calls Try.prog 71 #[.agg #[.slice p n c, .slice q m d], .int .i64 x] w fun e w' => e = .returned (.bool (inB x 0 ((n : Int) - 1))) ∧ Fr w w' := by
  have hn : n ≤ 9223372036854775807 := by have := hP.le; have := hP.mx; omega
  go_enter Try.func71, Try.ntmps71
  go_wp2_with (go_at_call 72; refine (within_any _ _ _ _).mono ?_; rintro e w' ⟨rfl, rfl⟩)
  go_ret
  exact ⟨rfl, (Fr.refl _).alloc _⟩

theorem isProcess_any (w : World) (p q a : Option Addr) (n c m d l k : Nat) (P W X : List Int) (hP : SL w p n c P) (hX : SL w a l k X) :
    Calls Try.prog 70 #[.agg #[.slice p n c, .slice q m d], .slice a l k] w fun e w' => e = .returned (.bool (procB P X)) ∧ Fr w w' := by
  have hn : n ≤ 9223372036854775807 := by have := hP.le; have := hP.mx; omega
  have hl : l ≤ 9223372036854775807 := by have := hX.le; have := hX.mx; omega
  have HP := Lib.hid hP.len
  have HX := Lib.hid hX.len
  by_cases hne : l = n
  · have HV : Hid (procB P X = allB X (-999) 999) := Lib.hid (by rw [procB, HP.out, HX.out, hne]; simp)
    subst hne
    have hX' := hX.fr ((Fr.refl w).alloc (.cells #[.slice p l c, .slice q m d] 29))
    go_enter Try.func70, Try.ntmps70
    go_wp2_with (go_at_call 108; refine (allWithin_any _ _ _ _ _ _ _ hX').mono ?_; rintro e w' ⟨rfl, rfl⟩)
    go_ret
    exact ⟨by rw [HV.out]; rfl, (Fr.refl _).alloc _⟩
  · have hb : ((l : Int) == (n : Int)) = false := beq_eq_false_iff_ne.2 (by omega)
    have HV : Hid (procB P X = false) := Lib.hid (by rw [procB, HP.out, HX.out, beq_eq_false_iff_ne.2 hne]; rfl)
    clear hne
    go_enter Try.func70, Try.ntmps70
    go_wp2
    go_ret
    exact ⟨by rw [HV.out]; rfl, (Fr.refl _).alloc _⟩

theorem isEnd_any (w : World) (p q : Option Addr) (n c m d : Nat) (P : List Int) (hP : SL w p n c P) (hp : parB P = true) (hn : n ≤ 1048576) :
    Calls Try.prog 112 #[.agg #[.slice p n c, .slice q m d]] w (RetB (endsAt P n) w) := by
  have HP := Lib.hid hP.len
  have Hp := Lib.hid hp
  clear hp
  have hmk := fun w => run_make_row' 120 4 (.bool false) 1 Try.underlying120 infoBool rfl .i64 .i64 n (by omega) (by omega) w
  go_enter Try.func112, Try.ntmps112
  go_wp2
  clear hmk
  have hfa : Fr (w.alloc (.cells #[.slice p n c, .slice q m d] 29)) ((w.alloc (.cells #[.slice p n c, .slice q m d] 29)).alloc (.cells (madeCells #[.bool false] n) 4)) := (Fr.refl _).alloc _
  have hmade := OwnB.made (B := w.heap.size + 1) (w.alloc (.cells #[.slice p n c, .slice q m d] 29)) n (by simp) (by unfold maxLen; omega)
  rw [World.size_alloc] at hmade
  go_loopw [13] (fun i wr => ∃ j : Nat, j ≤ n ∧ i = .int .i64 j ∧ OwnB (w.heap.size + 1) wr (some ⟨w.heap.size + 1, 0, none⟩) n n (List.replicate j true ++ List.replicate (n - j) false) ∧ Fr (w.alloc (.cells #[.slice p n c, .slice q m d] 29)) wr) (fun i _ => n - (intOf i).toNat)
  case atStart => exact ⟨0, Nat.zero_le _, rfl, by simpa using hmade, hfa⟩
  case round =>
    clear hmade hfa
    obtain ⟨j, hj, rfl, ho, hf⟩ := hrel
    by_cases hlt : j < n
    · obtain ⟨g, hg, hB, hlt2, hcell, hfro⟩ := ho.op (by omega)
      obtain rfl : w.heap.size + 1 = g := by simpa using hg
      replace hcell := hcell j hlt
      replace hfro := hfro j
      go_wp2
      go_roundw
      case rel =>
        refine ⟨j + 1, by omega, by go_num, ?_, hf.setCell (by simp) _⟩
        have := ho.set rfl hlt true
        rw [List.set_append_right _ _ (by simp), List.length_replicate, Nat.sub_self, show n - j = (n - (j + 1)) + 1 by omega, List.replicate_succ, List.set_cons_zero] at this
        rw [List.replicate_succ', List.append_assoc]
        exact this
      case measure => simp [intOf]; omega
    · obtain rfl : j = n := by omega
      rw [Nat.sub_self, List.replicate_zero, List.append_nil] at ho
      have hz : List.replicate j true = endsAt P 0 := by rw [endsAt_zero, HP.out]
      rw [hz] at ho
      clear hz
      have hbox := hf.newCell (j := 0) (v := .slice p j c) rfl
      go_wp2
      clear hbox
      go_loopw [23] (fun i wi => ∃ k : Nat, k ≤ j ∧ i = .int .i64 k ∧ OwnB (w.heap.size + 1) wi (some ⟨w.heap.size + 1, 0, none⟩) j j (endsAt P k) ∧ Fr (w.alloc (.cells #[.slice p j c, .slice q m d] 29)) wi) (fun i _ => j - (intOf i).toNat)
      case atStart => exact ⟨0, Nat.zero_le _, rfl, ho, hf⟩
      case round =>
        clear ho hf
        obtain ⟨k, hk, rfl, ho, hf⟩ := hrel
        have hF : Fr w wr := ((Fr.refl w).alloc _).trans hf
        by_cases hkt : k < j
        · obtain ⟨b, off, rfl, hc⟩ := (hP.fr hF).cells.resolve_left (by omega)
          replace hc := hc k hkt
          by_cases h0 : nth P k < 0
          · have HS := Lib.hid (endsAt_skip h0)
            have hb : decide (0 ≤ nth P k) = false := by simp; omega
            go_wp2
            go_roundw
            case rel => exact ⟨k + 1, by omega, by go_num, by rw [HS.out]; exact ho, hf⟩
            case measure => simp [intOf]; omega
          · obtain ⟨x, hx⟩ := Int.eq_ofNat_of_zero_le (Int.not_lt.1 h0)
            have hk0 : k ≠ 0 := fun e => by subst e; have := (parB_iff.1 Hp.out).1; omega
            have hxk := (parB_iff.1 Hp.out).2 k (by rw [HP.out]; exact hkt) (by omega)
            have hxj : x < j := by omega
            have HS := Lib.hid (endsAt_set hx (by rw [HP.out]; exact hxj))
            rw [hx] at hc
            clear h0 hx hxk hk0
            obtain ⟨g, hg, hB, hlt2, hcell, hfro⟩ := ho.op (by omega)
            obtain rfl : w.heap.size + 1 = g := by simpa using hg
            replace hcell := hcell x hxj
            replace hfro := hfro x
            go_wp2
            go_roundw
            case rel => exact ⟨k + 1, by omega, by go_num, by rw [← HS.out]; exact ho.set rfl hxj false, hf.setCell (by simp) _⟩
            case measure => simp [intOf]; omega
        · obtain rfl : k = j := by omega
          go_wp2
          go_ret
          exact ⟨_, _, _, rfl, ho.mono (by omega), hF, by omega⟩

end Go.Proofs.Ytojipjjfndgbhaa
/- Contracts of trees: IsTree, l2Kids, l2Good. -/
set_option linter.unusedVariables false
namespace Go.Proofs.Ytojipjjfndgbhaa
open Go.ChangeShapes Go.WideShapes Go.ChangeAt Go.RowKit

theorem parB_mk {P : List Int} (h0 : nth P 0 = -1) (h : ∀ x, x < P.length → 1 ≤ x → parOk P x = true) : parB P = true :=
  parB_iff.2 ⟨h0, fun x hx h1 => by have := h x hx h1; rwa [parOk, inB_iff] at this⟩

theorem wei_yes {b i : Bool} {x : Int} {t : Bool} (h : t = bif b then i else x == 0) {b' i' z' : Bool} (h1 : b = b') (h2 : i = i') (h3 : (x != 0) = z') (hc : (if b' then i' else !z') = true) : t = true := by
  subst h1; subst h2; subst h3; rw [h]; cases b <;> simp_all [bne]
theorem wei_no {b i : Bool} {x : Int} {t : Bool} (h : t = bif b then i else x == 0) {b' i' z' : Bool} (h1 : b = b') (h2 : i = i') (h3 : (x != 0) = z') (hc : (if b' then i' else !z') = false) : t = false := by
  subst h1; subst h2; subst h3; rw [h]; cases b <;> simp_all [bne]

set_option maxRecDepth 100000 in
theorem IsTree_any (w : World) (p q : Option Addr) (n c m d : Nat) (P W : List Int) (hP : SL w p n c P) (hW : SL w q m d W) :
    Calls Try.prog 69 #[.agg #[.slice p n c, .slice q m d]] w fun e w' => e = .returned (.bool (treeB P W)) ∧ Fr w w' := by
  have HP := Lib.hid hP.len; have HW := Lib.hid hW.len
  have hn : n ≤ 9223372036854775807 := by have := hP.le; have := hP.mx; omega
  have hm : m ≤ 9223372036854775807 := by have := hW.le; have := hW.mx; omega
  have hfr : Fr w (w.alloc (.cells #[.slice p n c, .slice q m d] 29)) := (Fr.refl w).alloc _
  cases h1 : inB n 1 24
  · have HV : Hid (treeB P W = false) := Lib.hid (treeB_noLen (by rw [HP.out]; exact h1))
    go_enter Try.func69, Try.ntmps69
    go_wp2_with (go_at_call 72; refine (within_any _ _ _ _).mono ?_; rintro e w' ⟨rfl, rfl⟩)
    go_ret
    exact ⟨by rw [HV.out]; rfl, hfr⟩
  have hb1 := inB_iff.1 h1
  by_cases h2 : m = n
  rotate_left
  · have HV : Hid (treeB P W = false) := Lib.hid (treeB_noW (by rw [HP.out, HW.out]; exact h2))
    have hb2 : ((m : Int) != (n : Int)) = true := by simp; omega
    clear h2
    go_enter Try.func69, Try.ntmps69
    go_wp2_with (go_at_call 72; refine (within_any _ _ _ _).mono ?_; rintro e w' ⟨rfl, rfl⟩)
    go_ret
    exact ⟨by rw [HV.out]; rfl, hfr⟩
  subst h2
  have hP' := hP.fr hfr
  obtain ⟨bp, op, rfl, hcp⟩ := hP'.cells.resolve_left (by omega)
  have hc0 := hcp 0 (by omega)
  rw [Nat.add_zero] at hc0
  clear hcp
  by_cases h3 : nth P 0 = -1
  rotate_left
  · have HV : Hid (treeB P W = false) := Lib.hid (treeB_noPar (parB_no0 h3))
    have hb3 : (nth P 0 != -1) = true := by simp [h3]
    have hm0 : (0 : Int) < (m : Int) := by omega
    clear h3
    go_enter Try.func69, Try.ntmps69
    go_wp2_with (go_at_call 72; refine (within_any _ _ _ _).mono ?_; rintro e w' ⟨rfl, rfl⟩)
    go_ret
    exact ⟨by rw [HV.out]; rfl, hfr⟩
  have hb3 : (nth P 0 != -1) = false := by simp [h3]
  have H3 := Lib.hid h3
  clear h3
  have hm0 : (0 : Int) < (m : Int) := by omega
  go_enter Try.func69, Try.ntmps69
  go_wp2_with (go_at_call 72; refine (within_any _ _ _ _).mono ?_; rintro e w' ⟨rfl, rfl⟩)
  clear h1 hb3 hc0 hP'
  go_loop [4] (fun i => ∃ k : Nat, 1 ≤ k ∧ k ≤ m ∧ i = .int .i64 k ∧ Hid (∀ x, x < k → 1 ≤ x → parOk P x = true)) (fun i => m - (intOf i).toNat)
  case atStart => exact ⟨1, by omega, by omega, rfl, Lib.hid (fun x h1 h2 => by omega)⟩
  case round =>
    obtain ⟨k, hk1, hk, rfl, hs⟩ := hrel
    by_cases hlt : k < m
    · obtain ⟨b', o', e, hc⟩ := (hP.fr hfr).cells.resolve_left (by omega)
      simp only [Option.some.injEq, Addr.mk.injEq, and_true] at e
      obtain ⟨rfl, rfl⟩ := e
      replace hc := hc k hlt
      have HK : Hid (parOk P k = inB (nth P k) 0 ((k : Int) - 1)) := Lib.hid rfl
      cases hb : inB (nth P k) 0 ((k : Int) - 1)
      · have HX : Hid (parOk P k = false) := Lib.hid (by rw [HK.out, hb])
        have HV : Hid (treeB P W = false) := Lib.hid (treeB_noPar (parB_no (by rw [HP.out]; exact hlt) hk1 HX.out))
        go_wp2_with (go_at_call 72; refine (within_any _ _ _ _).mono ?_; rintro e w' ⟨rfl, rfl⟩)
        go_ret
        exact ⟨by rw [HV.out]; rfl, hfr⟩
      · have HX : Hid (parOk P k = true) := Lib.hid (by rw [HK.out, hb])
        go_wp2_with (go_at_call 72; refine (within_any _ _ _ _).mono ?_; rintro e w' ⟨rfl, rfl⟩)
        clear hb
        go_round
        case rel => exact ⟨k + 1, by omega, by omega, by go_num, Lib.hid (fun x h1 h2 => by by_cases e : x = k; (· subst e; exact HX.out); (· exact hs.out x (by omega) h2))⟩
        case measure => simp [intOf]; omega
    · obtain rfl : k = m := by omega
      have Hpar : Hid (parB P = true) := Lib.hid (parB_mk H3.out (by rw [HP.out]; exact hs.out))
      go_wp2_with fail
      refine (isEnd_any _ _ _ _ _ _ _ _ (hP.fr hfr) Hpar.out (by omega)).mono ?_
      rintro e w1 ⟨a1, n1, c1, rfl, o1, f1, _⟩
      obtain rfl : n1 = k := by rw [← o1.len, endsAt_len, HP.out]
      have hbox1 := f1.newCell (j := 1) (v := .slice q n1 d) rfl
      have hf1 := hfr.trans f1
      go_wp2
      go_loop [44] (fun i => ∃ j : Nat, j ≤ n1 ∧ i = .int .i64 j ∧ Hid (∀ x, x < j → weiOk P W x = true)) (fun i => n1 - (intOf i).toNat)
      case atStart => exact ⟨0, by omega, rfl, Lib.hid (fun x h1 => by omega)⟩
      case round =>
        obtain ⟨j, hj, rfl, hs2⟩ := hrel
        by_cases hjt : j < n1
        · obtain ⟨bq, oq, rfl, hcq⟩ := (hW.fr hf1).cells.resolve_left (by omega)
          replace hcq := hcq j hjt
          obtain ⟨g, rfl, _, _, hce, _⟩ := o1.op (by omega)
          replace hce := hce j hjt
          rw [endsAt_nth _ _ _ (by rw [HP.out]; exact hjt)] at hce
          have HE : Hid (weiOk P W j = bif endTo P j n1 then inB (nth W j) 1 20 else nth W j == 0) := Lib.hid (by rw [weiOk, endB, HP.out])
          cases he : endTo P j n1 <;> cases hi : inB (nth W j) 1 20 <;> cases hz : (nth W j != 0)
          all_goals
            have HH := Lib.hid (And.intro he (And.intro hi hz))
            go_wp2_with (go_at_call 72; refine (within_any _ _ _ _).mono ?_; rintro e w' ⟨rfl, rfl⟩)
            first
              | (clear he hi hz
                 go_round
                 case rel => exact ⟨j + 1, by omega, by go_num, Lib.hid (fun x h1 => by by_cases e : x = j; (· subst e; exact wei_yes HE.out HH.out.1 HH.out.2.1 HH.out.2.2 (by simp)); (· exact hs2.out x (by omega)))⟩
                 case measure => simp [intOf]; omega)
              | (go_ret
                 have HV : Hid (treeB P W = false) := Lib.hid (treeB_noWei (by rw [HP.out]; exact hjt) (wei_no HE.out HH.out.1 HH.out.2.1 HH.out.2.2 (by simp)))
                 exact ⟨by rw [HV.out]; rfl, hf1⟩)
        · obtain rfl : j = n1 := by omega
          have HV : Hid (treeB P W = true) := Lib.hid (treeB_iff.2 ⟨by rw [HP.out]; omega, by rw [HP.out, HW.out], Hpar.out, by rw [HP.out]; exact hs2.out⟩)
          go_wp2
          go_ret
          exact ⟨by rw [HV.out]; rfl, hf1⟩

end Go.Proofs.Ytojipjjfndgbhaa
