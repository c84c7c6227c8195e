import Derived.Test.YtboekndojgbkfaaTabLaw
import Derived.Test.YtboekndojgbkfaaOpenT
/- Tables as arguments of the laws: their size, and copies of their own. A table made whole, whose rows are put in. -/
set_option linter.unusedVariables false
namespace Go.Proofs.Ytboekndojgbkfaa
open Go.ChangeShapes Go.WideShapes Go.ChangeAt Go.RowKit

def szRows : List (List Int) → Int → Int
  | [], l => l
  | x :: r, l => if l - x.length < 0 then -1 else szRows r (l - x.length)
def szSS (xs : List (List Int)) (left : Int) : Int := if left - xs.length < 0 then -1 else szRows xs (left - xs.length)
theorem szRows_le (xs : List (List Int)) (l : Int) (h : 0 ≤ l) : szRows xs l ≤ l := by
  induction xs generalizing l with
  | nil => simp [szRows]
  | cons x r ih => unfold szRows; split; (· omega); (· have := ih (l - x.length) (by omega); omega)
theorem szRows_fit (xs : List (List Int)) (l : Int) (h : ¬ szRows xs l < 0) : (tot xs : Int) ≤ l := by
  induction xs generalizing l with
  | nil => simp [tot]; simpa [szRows] using h
  | cons x r ih =>
    unfold szRows at h
    split at h
    · simp at h
    · have := ih _ h; simp only [tot, List.map_cons, List.sum_cons] at this ⊢; omega
theorem szRows_lo (xs : List (List Int)) (l : Int) (h : 0 ≤ l) : -1 ≤ szRows xs l := by
  induction xs generalizing l with
  | nil => simp [szRows]; omega
  | cons x r ih => unfold szRows; split; (· omega); (· exact ih _ (by omega))
theorem szSS_fit {xs : List (List Int)} {left : Int} (h : ¬ szSS xs left < 0) (hl : left ≤ 1048576) : tot xs ≤ 1048576 ∧ xs.length ≤ 1048576 := by
  unfold szSS at h
  split at h
  · simp at h
  · have := szRows_fit _ _ h; omega
theorem szSS_le (xs : List (List Int)) (left : Int) (h : 0 ≤ left) : szSS xs left ≤ left := by
  unfold szSS; split
  · omega
  · have := szRows_le xs (left - xs.length) (by omega); omega
theorem szSS_rng {xs : List (List Int)} {left : Int} (h : ¬ szSS xs left < 0) (h0 : 0 ≤ left) (hl : left ≤ 1048576) : 0 ≤ szSS xs left ∧ szSS xs left ≤ 1048576 := by
  have := szSS_le xs left h0; omega
theorem szRows_drop (xs : List (List Int)) (k : Nat) (l : Int) (h : k < xs.length) : szRows (xs.drop k) l = if l - (nthL xs k).length < 0 then -1 else szRows (xs.drop (k + 1)) (l - (nthL xs k).length) := by
  rw [List.drop_eq_getElem_cons h, szRows, nthL_eq h]

theorem szIntSS_any (w : World) (a : Option Addr) (n cap : Nat) (xs : List (List Int)) (left : Int) (h : SS w a n cap xs) (h0 : 0 ≤ left) (h1 : left ≤ 1048576) :
    Calls Try.prog 20 #[.slice a n cap, .int .i64 left] w fun e w' => e = .returned (.int .i64 (szSS xs left)) ∧ Fr w w' := by
  have Hl := Lib.hid h.len
  have hm : n ≤ 9223372036854775807 := by have := h.le; have := h.mx; omega
  by_cases hb : left - (n : Int) < 0
  · have HB : Hid (szSS xs left = -1) := Lib.hid (by rw [szSS, Hl.out, if_pos hb])
    go_enter Try.func20, Try.ntmps20
    go_wp2
    go_ret
    exact ⟨by rw [HB.out]; rfl, Fr.refl _⟩
  · have HB : Hid (szSS xs left = szRows xs (left - (n : Int))) := Lib.hid (by rw [szSS, Hl.out, if_neg hb])
    go_enter Try.func20, Try.ntmps20
    go_wp2
    go_loop [1, 5] (fun l i => ∃ (k : Nat) (m : Int), k ≤ n ∧ i = .int .i64 k ∧ l = .int .i64 m ∧ 0 ≤ m ∧ m ≤ left ∧ Hid (szRows (xs.drop k) m = szRows xs (left - (n : Int)))) (fun _ i => n - (intOf i).toNat)
    case atStart => exact ⟨0, _, Nat.zero_le _, rfl, rfl, by omega, by omega, Lib.hid rfl⟩
    case round =>
      obtain ⟨k, m, hk, rfl, rfl, m0, m1, hr⟩ := hrel
      by_cases hlt : k < n
      · obtain ⟨b, off, rfl, hc⟩ := h.rows.resolve_left (by omega)
        obtain ⟨p, q, c, hcell, hrow⟩ := hc k hlt
        clear hc
        have HD := Lib.hid (szRows_drop xs k m (by rw [Hl.out]; exact hlt))
        have HQ := Lib.hid hrow.len
        have hq : q ≤ 9223372036854775807 := by have := hrow.le; have := hrow.mx; omega
        clear hrow
        by_cases hb2 : m - (q : Int) < 0
        · have HX : Hid (szRows xs (left - (n : Int)) = -1) := Lib.hid (by rw [← hr.out, HD.out, HQ.out, if_pos hb2])
          go_wp2
          go_ret
          exact ⟨by rw [HB.out, HX.out]; rfl, Fr.refl _⟩
        · have HX : Hid (szRows (xs.drop (k + 1)) (m - (q : Int)) = szRows xs (left - (n : Int))) := Lib.hid (by rw [← hr.out, HD.out, HQ.out, if_neg hb2])
          go_wp2
          go_round
          case rel => exact ⟨k + 1, m - q, by omega, by go_num, rfl, by omega, by omega, HX⟩
          case measure => simp [intOf]; omega
      · obtain rfl : k = n := by omega
        go_wp2
        go_ret
        refine ⟨ret_int ?_, Fr.refl _⟩
        rw [HB.out, ← hr.out, List.drop_eq_nil_of_le (by rw [Hl.out]; omega)]; rfl

section
variable {B H : Nat} {w w' : World} {a : Option Addr} {n cap : Nat} {xss : List (List Int)}

/-- make([][]int, n). -/
theorem OwnSS.made (w : World) (n : Nat) (hB : B ≤ w.heap.size) (hm : n ≤ maxLen) : OwnSS B (w.heap.size + 1) (w.alloc (.cells (madeCells #[.slice none 0 0] n) 22)) (some ⟨w.heap.size, 0, none⟩) n n (List.replicate n []) := by
  have hg : ∀ i, rget (List.replicate n ((none : Option Addr), 0, 0)) i = (none, 0, 0) := by
    intro i; unfold rget; rw [List.getElem?_replicate]; split <;> rfl
  have hl : ∀ i, nthL (List.replicate n []) i = [] := by
    intro i; unfold nthL; rw [List.getElem?_replicate]; split <;> rfl
  refine ⟨by simp, List.replicate n (none, 0, 0), ⟨by simp, .inr ⟨w.heap.size, n, madeCells #[.slice none 0 0] n, rfl, hB, heap_alloc_new w _, Nat.le_refl _, hm, by simp [size_madeCells], ?_⟩⟩, fun i hi => ?_, fun k hk => ?_, fun i hi => ?_, fun i hi => ?_, fun i j hi hj hne => ?_⟩
  · simp [toList_madeCells_one, rowV]
  · rw [hg, hl]; exact ⟨World.ownsRow_nil _ _ _ _, by simp⟩
  · simp [blkOf] at hk; omega
  · rw [hg]; intro k hk; simp [blkOf] at hk
  · rw [hg]; intro k hk; simp [blkOf] at hk
  · rw [hg]; intro k hk; simp [blkOf] at hk

/-- A new row is put into it. -/
theorem OwnSS.putRow (h : OwnSS B H w a n cap xss) {i : Nat} (hi : i < n) {g : Nat} (ha : a = some ⟨g, 0, none⟩) {p : Option Addr} {m c : Nat} {x : List Int}
    (ho : Own B w p m c x) (hp : Within p H w.heap.size) (hBH : B ≤ H) (hH : H ≤ w.heap.size) : OwnSS B w.heap.size (w.setCell ⟨g, i, none⟩ (.slice p m c)) a n cap (xss.set i x) := by
  obtain ⟨h0, rs, h1, h2, h3, h4, h5, h6⟩ := h
  have hl : rs.length = n := by simpa using h1.1
  have hgs := h3 g (by rw [ha]; rfl)
  have hrs : rget (rs.set i (p, m, c)) i = (p, m, c) := by simp [rget, hl, hi]
  have hrn : ∀ j, i ≠ j → rget (rs.set i (p, m, c)) j = rget rs j := fun j hj => by simp [rget, hj]
  have gb : w.grownBy (w.setCell ⟨g, i, none⟩ (.slice p m c)) (some g) := grownBy_setCell (grownBy_refl w (some g)) (p := ⟨g, i, none⟩) rfl _
  have hpg : blkOf p = none ∨ blkOf p ≠ some g := by
    cases hx : blkOf p with
    | none => exact .inl rfl
    | some k => exact .inr fun e => by have := hp k hx; simp only [Option.some.injEq] at e; omega
  have hjg : ∀ j, j < n → blkOf (rget rs j).1 = none ∨ blkOf (rget rs j).1 ≠ some g := fun j hj => by
    cases hx : blkOf (rget rs j).1 with
    | none => exact .inl rfl
    | some k => exact .inr fun e => h5 j hj k hx (by rw [ha]; simpa [blkOf] using e.symm)
  refine ⟨by simpa using h0, rs.set i (p, m, c), ?_, fun j hj => ?_, fun k hk => by have := h3 k hk; omega, fun j hj => ?_, fun j hj => ?_, fun j k hj hk hne => ?_⟩
  · refine ⟨by simp [hl], ?_⟩
    rcases h1.2 with ⟨h7, h8⟩ | ⟨g', cap', cur, h7, h8, h9, h10, h11, h12, h13⟩
    · rw [ha] at h7; simp at h7
    · rw [ha] at h7
      simp only [Value.slice.injEq, Option.some.injEq, Addr.mk.injEq, and_true, true_and] at h7
      obtain ⟨rfl, rfl⟩ := h7
      refine .inr ⟨g, cap, cur.setIfInBounds i (.slice p m c), by rw [ha], h8, ?_, h10, h11, by simpa using h12, ?_⟩
      · simp [World.setCell, Array.getElem?_modify, h9]
      · simp only [Nat.mul_one, Array.toList_setIfInBounds] at h13 ⊢
        rw [List.map_set, ← h13, List.take_set]; rfl
  · by_cases e : i = j
    · subst e; rw [hrs, nthL_set_same (by omega)]; exact ho.grown gb hpg
    · rw [hrn j e, nthL_set_ne e]; exact (h2 j hj).grown gb (hjg j hj)
  · by_cases e : i = j
    · subst e; rw [hrs]; intro k hk; have := hp k hk; omega
    · rw [hrn j e]; intro k hk; have := h4 j hj k hk; omega
  · by_cases e : i = j
    · subst e; rw [hrs]; intro k hk hk'; have := hp k hk; have := h3 k hk'; omega
    · rw [hrn j e]; exact h5 j hj
  · by_cases e : i = j
    · subst e; rw [hrs, hrn k hne]; intro b hb hb'; have := hp b hb; have := h4 k hk b hb'; omega
    · by_cases e' : i = k
      · subst e'; rw [hrs, hrn j e]; intro b hb hb'; have := hp b hb'; have := h4 j hj b hb; omega
      · rw [hrn j e, hrn k e']; exact h6 j k hj hk hne
end

theorem copyL_step (xs : List (List Int)) (n k : Nat) (hn : xs.length = n) (hk : k < n) :
    (xs.take k ++ List.replicate (n - k) ([] : List Int)).set k (nthL xs k) = xs.take (k + 1) ++ List.replicate (n - (k + 1)) [] := by
  have h1 : (xs.take k).length = k := by simp; omega
  rw [List.take_succ_eq_append_getElem (by omega : k < xs.length), List.set_append_right _ _ (by omega), h1, Nat.sub_self, nthL_eq (by omega)]
  rw [show n - k = (n - (k+1)) + 1 by omega, List.replicate_succ, List.set_cons_zero, List.append_assoc]; rfl
theorem tot_nth (xs : List (List Int)) (k : Nat) (h : k < xs.length) : (nthL xs k).length ≤ tot xs := by
  induction xs generalizing k with
  | nil => simp at h
  | cons x r ih =>
    cases k with
    | zero => simp [nthL, tot]
    | succ k =>
      have h1 := ih k (by simpa using h)
      have h2 : nthL (x :: r) (k + 1) = nthL r k := by simp [nthL]
      rw [h2]; simp only [tot, List.map_cons, List.sum_cons] at h1 ⊢; omega

theorem toIntSS_any (w : World) (a : Option Addr) (n cap : Nat) (xs : List (List Int)) (h : SS w a n cap xs) (hm : tot xs ≤ 1048576 ∧ xs.length ≤ 1048576) :
    Calls Try.prog 22 #[.slice a n cap] w (RetSS xs w) := by
  have Hl := Lib.hid h.len
  have hn : n ≤ 1048576 := by have := Hl.out; omega
  have Hm := Lib.hid hm
  clear hm
  have hmk := run_make_row' 27 22 (.slice none 0 0) 24 Try.underlying27 infoRow rfl .i64 .i64 n (by omega) (by omega)
  go_enter Try.func22, Try.ntmps22
  go_wp2
  clear hmk
  have hmade := OwnSS.made (B := w.heap.size) w n (Nat.le_refl _) (by unfold maxLen; omega)
  have hfr := (Fr.refl w).alloc (.cells (madeCells #[.slice none 0 0] n) 22)
  go_loopw [4] (fun i wr => ∃ k : Nat, k ≤ n ∧ i = .int .i64 k ∧ OwnSS w.heap.size wr.heap.size wr (some ⟨w.heap.size, 0, none⟩) n n (xs.take k ++ List.replicate (n - k) []) ∧ Fr w wr ∧ w.heap.size < wr.heap.size) (fun i _ => n - (intOf i).toNat)
  case atStart => exact ⟨0, Nat.zero_le _, rfl, by simpa using hmade, hfr, by simp⟩
  case round =>
    clear hmade hfr
    obtain ⟨k, hk, rfl, ho, hf, hz⟩ := hrel
    by_cases hlt : k < n
    · obtain ⟨b, off, rfl, hc⟩ := (h.fr hf).rows.resolve_left (by omega)
      obtain ⟨p, q, c, hcell, hrow⟩ := hc k hlt
      clear hc
      have hq : q ≤ 1048576 := by have := hrow.len; have := tot_nth xs k (by rw [Hl.out]; exact hlt); have := Hm.out; omega
      go_wp2_with fail
      refine (toIntS_any _ _ _ _ _ hrow hq).mono ?_
      rintro e w1 ⟨a1, n1, c1, rfl, o1, f1, m1⟩
      have hs1 := f1.size
      have hW := o1.within
      have hT := (ho.fr f1)
      obtain ⟨g, p0, m0, c0, hg, hc0, _, _, hBg, hgH⟩ := hT.rowAt hlt
      obtain rfl : w.heap.size = g := by simpa using hg
      have hfro : w1.frozen? ⟨w.heap.size, k, none⟩ = false := by
        obtain ⟨_, rs, ⟨_, hr2⟩, _⟩ := hT
        rcases hr2 with ⟨h7, _⟩ | ⟨g', cap', cur, h7, _, h9, _⟩
        · simp at h7
        · simp only [Value.slice.injEq, Option.some.injEq, Addr.mk.injEq, and_true, true_and] at h7
          obtain ⟨rfl, rfl⟩ := h7
          simp [World.frozen?, h9]
      go_wp2
      go_roundw
      case rel =>
        refine ⟨k + 1, by omega, by go_num, ?_, (hf.trans f1).setCell (Nat.le_refl _) _, by simp [World.setCell]; omega⟩
        rw [← copyL_step xs n k Hl.out hlt]
        have := hT.putRow hlt rfl (o1.mono (by omega)) hW (by omega) hs1
        exact this.upto (by simp [World.setCell])
      case measure => simp [intOf]; omega
    · go_wp2
      go_ret
      obtain rfl : k = n := by omega
      rw [Nat.sub_self, List.replicate_zero, List.append_nil, List.take_of_length_le (by rw [Hl.out]; omega)] at ho
      exact ⟨_, _, _, rfl, ho, hf, Hm.out.1, hn⟩

end Go.Proofs.Ytboekndojgbkfaa
