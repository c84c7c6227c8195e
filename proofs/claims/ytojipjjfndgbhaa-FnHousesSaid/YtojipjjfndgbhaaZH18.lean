import Derived.Test.YtojipjjfndgbhaaZH16
import Derived.Test.YtojipjjfndgbhaaZH17
import Derived.Laws.OwnMore
import Derived.StillTailTactics
/- Slices of deals. -/
set_option linter.unusedVariables false
namespace Go.Proofs.Ytojipjjfndgbhaa
open Go.ChangeShapes Go.WideShapes Go.ChangeAt Go.RowKit

abbrev D3 := Int × Int × Int
def dcells (xs : List D3) : List Value := xs.flatMap fun z => [.int .i64 z.1, .int .i64 z.2.1, .int .i64 z.2.2]
def nthD (xs : List D3) (i : Nat) : D3 := xs[i]?.getD (0, 0, 0)
def I64D (z : D3) : Prop := I64 z.1 ∧ I64 z.2.1 ∧ I64 z.2.2
theorem dcells_len (xs : List D3) : (dcells xs).length = xs.length * 3 := by
  induction xs with
  | nil => rfl
  | cons x r ih => simp only [dcells, List.flatMap_cons, List.length_append, List.length_cons, List.length_nil] at ih ⊢; omega
theorem dcells_at (xs : List D3) (i : Nat) (h : i < xs.length) : (dcells xs)[i * 3]? = some (.int .i64 (nthD xs i).1) ∧ (dcells xs)[i * 3 + 1]? = some (.int .i64 (nthD xs i).2.1) ∧ (dcells xs)[i * 3 + 2]? = some (.int .i64 (nthD xs i).2.2) := by
  induction xs generalizing i with
  | nil => simp at h
  | cons x r ih =>
    cases i with
    | zero => simp [dcells, nthD]
    | succ i =>
      have h2 := ih i (by simpa using h)
      have e1 : (i + 1) * 3 = i * 3 + 3 := by omega
      have e2 : i * 3 + 3 + 1 = i * 3 + 1 + 3 := by omega
      have e3 : i * 3 + 3 + 2 = i * 3 + 2 + 3 := by omega
      have h3 : nthD (x :: r) (i + 1) = nthD r i := by simp [nthD]
      rw [e1, e2, e3, h3]
      simpa [dcells] using h2
theorem dcells_set (xs : List D3) (i : Nat) (z : D3) (h : i < xs.length) : (((dcells xs).set (i * 3) (.int .i64 z.1)).set (i * 3 + 1) (.int .i64 z.2.1)).set (i * 3 + 2) (.int .i64 z.2.2) = dcells (xs.set i z) := by
  induction xs generalizing i with
  | nil => simp at h
  | cons x r ih =>
    cases i with
    | zero => simp [dcells]
    | succ i =>
      have h2 := ih i (by simpa using h)
      have e1 : (i + 1) * 3 = i * 3 + 3 := by omega
      have e2 : i * 3 + 3 + 1 = i * 3 + 1 + 3 := by omega
      have e3 : i * 3 + 3 + 2 = i * 3 + 2 + 3 := by omega
      rw [e1, e2, e3]
      simpa [dcells] using h2
/-- A slice of deals reads as a list. -/
structure SD (w : World) (a : Option Addr) (n cap : Nat) (xs : List D3) : Prop where
  len : xs.length = n
  le : n ≤ cap
  mx : cap ≤ 9223372036854775807
  rng : ∀ x ∈ xs, I64D x
  cells : n = 0 ∨ ∃ b off, a = some ⟨b, off, none⟩ ∧ ∀ i, i < n → w.cell? ⟨b, off + i * 3, none⟩ = some (.int .i64 (nthD xs i).1) ∧ w.cell? ⟨b, off + i * 3 + 1, none⟩ = some (.int .i64 (nthD xs i).2.1) ∧ w.cell? ⟨b, off + i * 3 + 2, none⟩ = some (.int .i64 (nthD xs i).2.2)
theorem SD.fr {w w' : World} {a : Option Addr} {n cap : Nat} {xs : List D3} (h : SD w a n cap xs) (f : Fr w w') : SD w' a n cap xs := by
  obtain ⟨h1, h2, h3, h4, h5⟩ := h
  refine ⟨h1, h2, h3, h4, ?_⟩
  rcases h5 with h5 | ⟨b, off, rfl, hc⟩
  · exact .inl h5
  · exact .inr ⟨b, off, rfl, fun i hi => ⟨f.keep (hc i hi).1, f.keep (hc i hi).2.1, f.keep (hc i hi).2.2⟩⟩
theorem SD.of_nil (w : World) : SD w none 0 0 [] := ⟨rfl, Nat.le_refl _, by omega, by simp, .inl rfl⟩
theorem nthD_mem {xs : List D3} {i : Nat} (h : i < xs.length) : nthD xs i ∈ xs := by simp [nthD, h]
/-- A slice of deals of the call's own. -/
structure OwnD (B : Nat) (w : World) (a : Option Addr) (n cap : Nat) (xs : List D3) : Prop where
  row : w.ownsRow B 58 3 (.slice a n cap) n (dcells xs)
  rng : ∀ x ∈ xs, I64D x
section
variable {B : Nat} {w w' : World} {a : Option Addr} {n cap : Nat} {xs : List D3}
theorem OwnD.len (h : OwnD B w a n cap xs) : xs.length = n := by have h1 := h.row.1; rw [dcells_len] at h1; omega
theorem OwnD.blk (h : OwnD B w a n cap xs) : ∀ k, blkOf a = some k → B ≤ k ∧ k < w.heap.size := by
  intro k hk
  refine h.row.lt k ?_
  cases a with
  | none => simp [blkOf] at hk
  | some x => simpa [blkOf, Value.ownBlock] using hk
theorem OwnD.op (h : OwnD B w a n cap xs) (hn : 0 < n) : ∃ g, a = some ⟨g, 0, none⟩ ∧ B ≤ g ∧ g < w.heap.size ∧ (∀ i, i < n → w.cell? ⟨g, i * 3, none⟩ = some (.int .i64 (nthD xs i).1) ∧ w.cell? ⟨g, i * 3 + 1, none⟩ = some (.int .i64 (nthD xs i).2.1) ∧ w.cell? ⟨g, i * 3 + 2, none⟩ = some (.int .i64 (nthD xs i).2.2)) ∧ ∀ i, w.frozen? ⟨g, i, none⟩ = false := by
  have hl := h.len
  have hb := h.blk
  rcases h.row.2 with ⟨h2, h3⟩ | ⟨g, cap', cur, h2, h3, h4, h5, h6, h7, h8⟩
  · omega
  · simp only [Value.slice.injEq] at h2
    obtain ⟨rfl, _, rfl⟩ := h2
    refine ⟨g, rfl, h3, (hb g rfl).2, fun i hi => ?_, fun i => by unfold World.frozen?; rw [h4]; rfl⟩
    obtain ⟨p1, p2, p3⟩ := dcells_at xs i (by omega)
    have e1 := h.row.cells (g := g) (by simp [Value.ownBlock]) (i * 3) _ p1
    have e2 := h.row.cells (g := g) (by simp [Value.ownBlock]) (i * 3 + 1) _ p2
    have e3 := h.row.cells (g := g) (by simp [Value.ownBlock]) (i * 3 + 2) _ p3
    rw [addr_add, Nat.zero_add] at e1 e2 e3
    exact ⟨e1, e2, e3⟩
theorem OwnD.sd (h : OwnD B w a n cap xs) : SD w a n cap xs := by
  have hl := h.len
  have hcap : n ≤ cap ∧ cap ≤ 9223372036854775807 := by
    rcases h.row.2 with ⟨h2, h3⟩ | ⟨g, cap', cur, h2, h3, h4, h5, h6, h7, h8⟩
    · simp only [Value.slice.injEq] at h2; omega
    · simp only [Value.slice.injEq] at h2; unfold maxLen at h6; omega
  refine ⟨hl, hcap.1, hcap.2, h.rng, ?_⟩
  rcases Nat.eq_zero_or_pos n with h0 | h0
  · exact .inl h0
  · obtain ⟨g, rfl, _, _, hc, _⟩ := h.op h0
    exact .inr ⟨g, 0, rfl, fun i hi => by simpa using hc i hi⟩
theorem OwnD.grown {row : Option Nat} (h : OwnD B w a n cap xs) (g : w.grownBy w' row) (hne : blkOf a = none ∨ blkOf a ≠ row) : OwnD B w' a n cap xs :=
  ⟨h.row.kept g (by cases a with | none => simp [Value.ownBlock] | some x => simpa [blkOf, Value.ownBlock] using hne), h.rng⟩
theorem OwnD.fr (h : OwnD B w a n cap xs) (f : Fr w w') : OwnD B w' a n cap xs := by
  refine ⟨⟨h.row.1, ?_⟩, h.rng⟩
  rcases h.row.2 with h2 | ⟨g, cap', cur, h2, h3, h4, h5⟩
  · exact .inl h2
  · refine .inr ⟨g, cap', cur, h2, h3, ?_, h5⟩
    rw [f.block g (Array.getElem?_eq_some_iff.1 h4).1]; exact h4
theorem OwnD.mono {B' : Nat} (h : OwnD B w a n cap xs) (hB : B' ≤ B) : OwnD B' w a n cap xs := by
  refine ⟨⟨h.row.1, ?_⟩, h.rng⟩
  rcases h.row.2 with h2 | ⟨g, cap', cur, h2, h3, h4, h5⟩
  · exact .inl h2
  · exact .inr ⟨g, cap', cur, h2, Nat.le_trans hB h3, h4, h5⟩
theorem OwnD.set {g : Nat} (h : OwnD B w (some ⟨g, 0, none⟩) n cap xs) {i : Nat} (hi : i < n) (z : D3) (hz : I64D z) :
    OwnD B (((w.setCell ⟨g, i * 3, none⟩ (.int .i64 z.1)).setCell ⟨g, i * 3 + 1, none⟩ (.int .i64 z.2.1)).setCell ⟨g, i * 3 + 2, none⟩ (.int .i64 z.2.2)) (some ⟨g, 0, none⟩) n cap (xs.set i z) := by
  have hl := h.len
  rcases h.row.2 with ⟨h2, _⟩ | ⟨g', cap', cur, h2, h3, h4, h5, h6, h7, h8⟩
  · cases h2
  · have h2' := h2
    simp only [Value.slice.injEq, Option.some.injEq, Addr.mk.injEq, and_true, true_and] at h2'
    obtain ⟨rfl, rfl⟩ := h2'
    refine ⟨⟨by rw [dcells_len, List.length_set, hl], .inr ⟨g, cap, ((cur.setIfInBounds (i * 3) (.int .i64 z.1)).setIfInBounds (i * 3 + 1) (.int .i64 z.2.1)).setIfInBounds (i * 3 + 2) (.int .i64 z.2.2), rfl, h3, ?_, h5, h6, by simpa using h7, ?_⟩⟩, ?_⟩
    · simp [World.setCell, Array.getElem?_modify, h4]
    · rw [Array.toList_setIfInBounds, Array.toList_setIfInBounds, Array.toList_setIfInBounds, ← dcells_set _ _ _ (by omega), ← h8, List.take_set, List.take_set, List.take_set]
    · intro x hx
      rcases List.mem_or_eq_of_mem_set hx with hx | rfl
      · exact h.rng x hx
      · exact hz
end
theorem infoDeal : (Try.prog.info? 58).map (fun i => (i.zero, i.size, i.bytes)) = some (some (.agg #[.int .i64 0, .int .i64 0, .int .i64 0]), 3, 24) := by kernel_rfl
theorem made3 (z : Value) (n : Nat) : (madeCells #[z, z, z] n).toList = List.replicate n z := by
  apply List.ext_getElem?
  intro j
  by_cases hj : j < n
  · have h3 : j % 3 = 0 ∨ j % 3 = 1 ∨ j % 3 = 2 := by omega
    rcases h3 with h | h | h <;> simp [madeCells, hj, h]
  · simp [madeCells, hj]
theorem dcells_zero (n : Nat) : dcells (List.replicate n (0, 0, 0)) = List.replicate (n * 3) (.int .i64 0) := by
  induction n with
  | zero => rfl
  | succ n ih =>
    have e : (n + 1) * 3 = n * 3 + 1 + 1 + 1 := by omega
    rw [List.replicate_succ, e, List.replicate_succ, List.replicate_succ, List.replicate_succ, ← ih]
    rfl
/-- A new slice of deals. -/
def RetD (xs : List D3) (w : World) (e : Ending) (w' : World) : Prop := ∃ a n cap, e = .returned (.slice a n cap) ∧ OwnD w.heap.size w' a n cap xs ∧ Fr w w' ∧ n ≤ 1048576
theorem copyD_step (xs : List D3) (n k : Nat) (hn : xs.length = n) (hk : k < n) : (xs.take k ++ List.replicate (n - k) ((0, 0, 0) : D3)).set k (nthD xs k) = xs.take (k + 1) ++ List.replicate (n - (k + 1)) (0, 0, 0) := by
  have hl : (xs.take k).length = k := by rw [List.length_take]; omega
  rw [List.set_append_right _ _ (by omega), hl, Nat.sub_self, show n - k = (n - (k + 1)) + 1 by omega, List.replicate_succ, List.set_cons_zero, List.take_succ_eq_append_getElem (by omega), List.append_assoc]
  congr 1
  have : k < xs.length := by omega
  simp [nthD, this]

theorem szDealS_any (w : World) (a : Option Addr) (n c : Nat) (l : Int) (hn : n ≤ 9223372036854775807) (h0 : 0 ≤ l) (h1 : l ≤ 1048576) :
    Calls Try.prog 45 #[.slice a n c, .int .i64 l] w fun e w' => e = .returned (.int .i64 (szI n l)) ∧ w = w' := by
  by_cases h : l - (n : Int) < 0
  · have HV : Hid (szI n l = -1) := Lib.hid (by rw [szI, if_pos h])
    go_enter Try.func45, Try.ntmps45
    go_wp2
    go_ret
    exact ⟨by rw [HV.out]; rfl, rfl⟩
  · have HV : Hid (szI n l = l - (n : Int)) := Lib.hid (by rw [szI, if_neg h])
    go_enter Try.func45, Try.ntmps45
    go_wp2
    go_ret
    exact ⟨by rw [HV.out]; rfl, rfl⟩

set_option maxRecDepth 100000 in
theorem toDealS_any (w : World) (a : Option Addr) (n cap : Nat) (xs : List D3) (h : SD w a n cap xs) (hm : n ≤ 1048576) :
    Calls Try.prog 47 #[.slice a n cap] w (RetD xs w) := by
  have H := Lib.hid h
  have Hlen := Lib.hid h.len
  have hrng := Lib.hid h.rng
  clear h
  obtain ⟨i0, hi, hz0, hz1, hz2⟩ := info_parts infoDeal
  obtain ⟨wm, hmk, hown, hg⟩ := run_make_full (P := Try.prog) w w.heap.size 65 58 i0 _ 3 Try.underlying65 hi hz0 hz1 .i64 .i64 n (by rw [hz2]; omega) (by unfold maxLen; omega) (Nat.le_refl _)
  have hfr : Fr w wm := (Fr.refl w).grown hg (fun k e => by cases e)
  have hnew : OwnD w.heap.size wm (some ⟨w.heap.size, 0, none⟩) n n (xs.take 0 ++ List.replicate (n - 0) (0, 0, 0)) := by
    refine ⟨?_, fun x hx => ?_⟩
    · rw [List.take_zero, List.nil_append, Nat.sub_zero, dcells_zero, ← made3]; exact hown
    · simp at hx; obtain ⟨_, rfl⟩ := hx; simp [I64D, I64]
  clear hown hg
  go_enter Try.func47, Try.ntmps47
  go_wp2
  clear hmk
  go_loopw [4] (fun i wr => ∃ k : Nat, k ≤ n ∧ i = .int .i64 k ∧ OwnD w.heap.size wr (some ⟨w.heap.size, 0, none⟩) n n (xs.take k ++ List.replicate (n - k) (0, 0, 0)) ∧ Fr w wr) (fun i _ => n - (intOf i).toNat)
  case atStart => exact ⟨0, Nat.zero_le _, rfl, hnew, hfr⟩
  case round =>
    clear hnew hfr
    obtain ⟨k, hk, rfl, ho, hf⟩ := hrel
    by_cases hlt : k < n
    · obtain ⟨b, off, rfl, hc⟩ := (H.out.fr hf).cells.resolve_left (by omega)
      obtain ⟨c0, c1, c2⟩ := hc k hlt
      have hI := hrng.out _ (nthD_mem (i := k) (by rw [Hlen.out]; exact hlt))
      have hst := Lib.hid (copyD_step xs n k Hlen.out hlt)
      have HO := Lib.hid ho
      have i0 : (0 : Int) ≤ (k : Int) := by omega
      have i1 : (k : Int) < (n : Int) := by omega
      clear hc ho
      generalize nthD xs k = z at c0 c1 c2 hI hst
      obtain ⟨z0, z1, z2⟩ := z
      dsimp only at c0 c1 c2
      go_wp2_with fail
      refine (toDeal_any _ z0 z1 z2).mono ?_
      rintro e w1 ⟨rfl, f1⟩
      have O1 := Lib.hid (HO.out.fr f1)
      obtain ⟨g, hg, hB, hlt2, hcell, hfro⟩ := O1.out.op (by omega)
      obtain ⟨rfl⟩ : w.heap.size = g := by simpa using hg
      obtain ⟨d0, d1, d2⟩ := hcell k hlt
      have e0 := hfro (k * 3); have e1 := hfro (k * 3 + 1); have e2 := hfro (k * 3 + 2)
      have F1 := hf.trans f1
      clear c0 c1 c2 hcell hfro f1 hg
      go_wp2
      go_roundw
      case rel =>
        refine ⟨k + 1, by omega, by go_num, ?_, ((F1.setCell (Nat.le_refl _) _).setCell (Nat.le_refl _) _).setCell (Nat.le_refl _) _⟩
        rw [← hst.out]
        exact O1.out.set hlt (z0, z1, z2) hI
      case measure => simp [intOf]; omega
    · go_wp2
      go_ret
      have : k = n := by omega
      subst this
      rw [Nat.sub_self, List.replicate_zero, List.append_nil, List.take_of_length_le (by rw [Hlen.out]; omega)] at ho
      exact ⟨_, _, _, rfl, ho, hf, hm⟩

set_option maxRecDepth 100000 in
theorem eqDeal_same (w : World) (x y z : Int) :
    Calls Try.prog 95 #[.agg #[.int .i64 x, .int .i64 y, .int .i64 z], .agg #[.int .i64 x, .int .i64 y, .int .i64 z]] w fun e w' => e = .returned (.bool true) ∧ Fr w w' := by
  have hfr : Fr w ((w.alloc (.cells #[.int .i64 x, .int .i64 y, .int .i64 z] 58)).alloc (.cells #[.int .i64 x, .int .i64 y, .int .i64 z] 58)) := ((Fr.refl w).alloc _).alloc _
  go_enter Try.func95, Try.ntmps95
  go_wp2
  go_ret
  exact ⟨rfl, hfr⟩

set_option maxRecDepth 100000 in
theorem eqDealS_same (w : World) (a b : Option Addr) (n c d : Nat) (xs : List D3) (h : SD w a n c xs) (k : SD w b n d xs) :
    Calls Try.prog 49 #[.slice a n c, .slice b n d] w fun e w' => e = .returned (.bool true) ∧ Fr w w' := by
  have hle := h.le; have hmx := h.mx
  have HA := Lib.hid h; have HB := Lib.hid k
  clear h k
  go_enter Try.func49, Try.ntmps49
  go_wp2
  go_loopw [5] (fun i wr => ∃ j : Nat, j ≤ n ∧ i = .int .i64 j ∧ Fr w wr) (fun i _ => n - (intOf i).toNat)
  case atStart => exact ⟨0, Nat.zero_le _, rfl, Fr.refl _⟩
  case round =>
    obtain ⟨j, hj, rfl, hF⟩ := hrel
    by_cases hlt : j < n
    · obtain ⟨b1, o1, rfl, hc⟩ := (HA.out.fr hF).cells.resolve_left (by omega)
      obtain ⟨b2, o2, rfl, hd⟩ := (HB.out.fr hF).cells.resolve_left (by omega)
      obtain ⟨c0, c1, c2⟩ := hc j hlt
      obtain ⟨d0, d1, d2⟩ := hd j hlt
      clear hc hd
      generalize nthD xs j = z at c0 c1 c2 d0 d1 d2
      obtain ⟨z0, z1, z2⟩ := z
      dsimp only at c0 c1 c2 d0 d1 d2
      have i1 : (j : Int) < (n : Int) := by omega
      have i0 : (0 : Int) ≤ (j : Int) := by omega
      go_upto_region 6 with fail
      refine wp_region_still_tail 8 (by kernel_rfl) (by kernel_rfl) ?_
      simp only [List.take_succ_cons, List.take_zero, List.drop_succ_cons, List.drop_zero]
      repeat still_step
      refine wpStill_nil ?_
      change wpList _ _ _ _ _ wr.drew
      have hF1 := hF.drew' 1
      clear c0 c1 c2 d0 d1 d2
      go_wp2_with fail
      refine (eqDeal_same _ z0 z1 z2).mono ?_
      rintro e w2 ⟨rfl, f2⟩
      go_wp2
      go_roundw
      case rel => exact ⟨j + 1, by omega, by go_num, hF1.trans f2⟩
      case measure => simp [intOf]; omega
    · go_wp2
      go_ret
      exact ⟨rfl, hF⟩

set_option maxRecDepth 100000 in
theorem markDealS_any (B : Nat) (w : World) (a : Option Addr) (n c : Nat) (xs : List D3) (k : Int) (ho : OwnD B w a n c xs) (h0 : 0 ≤ k) (h1 : k ≤ 1000000000000) (h2 : n ≤ 1048576) :
    Calls Try.prog 50 #[.slice a n c, .int .i64 k] w fun e w' => (∃ q : Int, e = .returned (.int .i64 q) ∧ 0 ≤ q) ∧ w.grownBy w' (blkOf a) := by
  go_enter Try.func50, Try.ntmps50
  go_wp2
  go_loopw [1, 5] (fun q i wr => ∃ (j : Nat) (ys : List D3), j ≤ n ∧ i = .int .i64 j ∧ q = .int .i64 (k + 3 * (j : Int)) ∧ OwnD B wr a n c ys ∧ w.grownBy wr (blkOf a)) (fun _ i _ => n - (intOf i).toNat)
  case atStart => exact ⟨0, xs, Nat.zero_le _, rfl, by simp, ho, grownBy_refl _ _⟩
  case round =>
    clear ho
    obtain ⟨j, ys, hj, rfl, rfl, ho, hg⟩ := hrel
    by_cases hlt : j < n
    · obtain ⟨g, rfl, hBg, hlt2, hc, hfro⟩ := ho.op (by omega)
      obtain ⟨c0, c1, c2⟩ := hc j hlt
      have e0 := hfro (j * 3); have e1 := hfro (j * 3 + 1); have e2 := hfro (j * 3 + 2)
      have HO := Lib.hid ho
      have i1 : (j : Int) < (n : Int) := by omega
      have i0 : (0 : Int) ≤ (j : Int) := by omega
      have HS := Lib.hid (HO.out.set hlt (k + 3 * (j : Int), k + 3 * (j : Int) + 1, k + 3 * (j : Int) + 1 + 1) ⟨by dsimp only; unfold I64; omega, by dsimp only; unfold I64; omega, by dsimp only; unfold I64; omega⟩)
      clear hc hfro ho HO
      go_wp2
      go_roundw
      case rel =>
        refine ⟨j + 1, ys.set j (k + 3 * (j : Int), k + 3 * (j : Int) + 1, k + 3 * (j : Int) + 1 + 1), by omega, by go_num, by go_num, ?_, grownBy_setCell (grownBy_setCell (grownBy_setCell hg (p := ⟨g, j * 3, none⟩) rfl _) (p := ⟨g, j * 3 + 1, none⟩) rfl _) (p := ⟨g, j * 3 + 2, none⟩) rfl _⟩
        exact HS.out
      case measure => simp [intOf]; omega
    · go_wp2
      go_ret
      exact ⟨⟨_, rfl, by omega⟩, hg⟩
end Go.Proofs.Ytojipjjfndgbhaa
