import Derived.Test.YtojipjjfndgbhaaZH04
import Derived.Test.YtojipjjfndgbhaaZH02
/- Slices of pairs of the call's own. -/
set_option linter.unusedVariables false
namespace Go.Proofs.Ytojipjjfndgbhaa
open Go.ChangeShapes Go.WideShapes Go.ChangeAt Go.RowKit

def pcells (xs : List (Int × Int)) : List Value := xs.flatMap fun z => [.int .i64 z.1, .int .i64 z.2]
def nthP (xs : List (Int × Int)) (i : Nat) : Int × Int := xs[i]?.getD (0, 0)
theorem pcells_len (xs : List (Int × Int)) : (pcells xs).length = xs.length * 2 := by
  induction xs with
  | nil => rfl
  | cons x r ih => simp only [pcells, List.flatMap_cons, List.length_append, List.length_cons, List.length_nil] at ih ⊢; omega
theorem pcells_at (xs : List (Int × Int)) (i : Nat) (h : i < xs.length) : (pcells xs)[2 * i]? = some (.int .i64 (nthP xs i).1) ∧ (pcells xs)[2 * i + 1]? = some (.int .i64 (nthP xs i).2) := by
  induction xs generalizing i with
  | nil => simp at h
  | cons x r ih =>
    cases i with
    | zero => simp [pcells, nthP]
    | succ i =>
      have h2 := ih i (by simpa using h)
      have e1 : 2 * (i + 1) = 2 * i + 2 := by omega
      have e2 : 2 * i + 2 + 1 = 2 * i + 1 + 2 := by omega
      have h3 : nthP (x :: r) (i + 1) = nthP r i := by simp [nthP]
      rw [e1, e2, h3]
      simpa [pcells] using h2

structure OwnP (B : Nat) (w : World) (a : Option Addr) (n cap : Nat) (xs : List (Int × Int)) : Prop where
  row : w.ownsRow B 46 2 (.slice a n cap) n (pcells xs)

section
variable {B : Nat} {w w' : World} {a : Option Addr} {n cap : Nat} {xs : List (Int × Int)}
theorem OwnP.len (h : OwnP B w a n cap xs) : xs.length = n := by have h1 := h.row.1; rw [pcells_len] at h1; omega
theorem OwnP.blk (h : OwnP B w a n cap xs) : ∀ k, blkOf a = some k → B ≤ k ∧ k < w.heap.size := by
  intro k hk
  refine h.row.lt k ?_
  cases a with
  | none => simp [blkOf] at hk
  | some x => simpa [blkOf, Value.ownBlock] using hk
theorem OwnP.op (h : OwnP B w a n cap xs) (hn : 0 < n) : ∃ g, a = some ⟨g, 0, none⟩ ∧ B ≤ g ∧ g < w.heap.size ∧ n ≤ cap ∧ ∀ i, i < n → w.cell? ⟨g, 2 * i, none⟩ = some (.int .i64 (nthP xs i).1) ∧ w.cell? ⟨g, 2 * i + 1, none⟩ = some (.int .i64 (nthP xs i).2) := by
  have hl := h.len
  have hb := h.blk
  rcases h.row.2 with ⟨h2, h3⟩ | ⟨g, cap', cur, h2, h3, h4, h5, h6, h7, h8⟩
  · omega
  · simp only [Value.slice.injEq] at h2
    obtain ⟨rfl, _, rfl⟩ := h2
    refine ⟨g, rfl, h3, (hb g rfl).2, h5, fun i hi => ?_⟩
    obtain ⟨p1, p2⟩ := pcells_at xs i (by omega)
    have e1 := h.row.cells (g := g) (by simp [Value.ownBlock]) (2 * i) _ p1
    have e2 := h.row.cells (g := g) (by simp [Value.ownBlock]) (2 * i + 1) _ p2
    rw [addr_add, Nat.zero_add] at e1 e2
    exact ⟨e1, e2⟩
theorem OwnP.grown {row : Option Nat} (h : OwnP B w a n cap xs) (g : w.grownBy w' row) (hne : blkOf a = none ∨ blkOf a ≠ row) : OwnP B w' a n cap xs :=
  ⟨h.row.kept g (by cases a with | none => simp [Value.ownBlock] | some x => simpa [blkOf, Value.ownBlock] using hne)⟩
theorem OwnP.fr (h : OwnP B w a n cap xs) (f : Fr w w') : OwnP B w' a n cap xs := by
  refine ⟨⟨h.row.1, ?_⟩⟩
  rcases h.row.2 with h2 | ⟨g, cap', cur, h2, h3, h4, h5⟩
  · exact .inl h2
  · refine .inr ⟨g, cap', cur, h2, h3, ?_, h5⟩
    rw [f.block g (Array.getElem?_eq_some_iff.1 h4).1]; exact h4
theorem OwnP.mono {B' : Nat} (h : OwnP B w a n cap xs) (hB : B' ≤ B) : OwnP B' w a n cap xs := by
  refine ⟨⟨h.row.1, ?_⟩⟩
  rcases h.row.2 with h2 | ⟨g, cap', cur, h2, h3, h4, h5⟩
  · exact .inl h2
  · exact .inr ⟨g, cap', cur, h2, Nat.le_trans hB h3, h4, h5⟩
theorem OwnP.made0 (w : World) (hB : B ≤ w.heap.size) : OwnP B (w.alloc (.cells #[] 46)) (some ⟨w.heap.size, 0, none⟩) 0 0 [] :=
  ⟨⟨by simp [pcells], .inr ⟨w.heap.size, 0, #[], rfl, hB, heap_alloc_new w _, Nat.le_refl _, by unfold maxLen; omega, by simp, by simp [pcells]⟩⟩⟩
end
theorem infoPair : (Try.prog.info? 46).map (fun i => (i.zero, i.size, i.bytes)) = some (some (.agg #[.int .i64 0, .int .i64 0]), 2, 16) := by kernel_rfl

/-- append of one pair. -/
theorem ap_pair (V : World) {ops : Array Oper} {rest : List Oper} {o : Oper} {act : Act} {Q : Exit → Act → World → Prop} (hgd : o.guard = none) (s x : Operand)
    (ho : o.op = .call { callee := .builtin .append, args := #[s, x], argTypes := #[96, 96] }) (B : Nat) (p : Option Addr) (n c : Nat) (xs : List (Int × Int)) (y z : Int) (N : Nat)
    (hs : act.eval s = .slice p n c) (hx : act.eval x = .slice (some ⟨N, 0, none⟩) 1 1) (hown : OwnP B V p n c xs) (hB : B ≤ V.heap.size) (hc0 : V.cell? ⟨N, 0, none⟩ = some (.int .i64 y)) (hc1 : V.cell? ⟨N, 1, none⟩ = some (.int .i64 z)) (hn : n ≤ 1048576) (H : Nat) (hH : V.heap.size = H)
    (h : ∀ g c' w', OwnP B w' (some ⟨g, 0, none⟩) (n + 1) c' (xs ++ [(y, z)]) → V.grownBy w' (blkOf p) → (blkOf p = some g ∨ g = H) → wpList Try.prog ops Q rest (act.put o.dst (.slice (some ⟨g, 0, none⟩) (n + 1) c')) w') :
    wpList Try.prog ops Q (o :: rest) act V := by
  obtain ⟨i0, hi, hz0, hz1, hz2⟩ := info_parts infoPair
  have hb : (Value.slice p n c).ownBlock = blkOf p := by cases p <;> rfl
  refine wpList_append_lies _ hgd s x 96 ho B 46 i0 (.agg #[.int .i64 0, .int .i64 0]) 2 16 Try.underlying96 hi hz0 hz1 hz2 rfl (by omega) (.slice p n c) n _ hs hown.row ⟨N, 0, none⟩ 1 1 [.int .i64 y, .int .i64 z] hx rfl ?_ ?_ (by omega) (by unfold maxLen; omega) (by omega) hB H hH ?_
  · intro j u hu
    rw [addr_add, Nat.zero_add]
    rcases j with _ | _ | j
    · rw [hc0]; simpa using hu
    · rw [hc1]; simpa using hu
    · simp at hu
  · intro u hu; simp at hu; rcases hu with rfl | rfl <;> rfl
  · intro g c' w' h1 h2 h3 _
    rw [hb] at h2 h3
    exact h g c' w' ⟨by simpa [pcells] using h1⟩ h2 h3
theorem step_ap_pair (V : World) {ops : Array Oper} {o : Oper} {a : Act} {K : Act → World → Prop} {Q : Exit → Act → World → Prop} {E : Prop} (hgd : o.guard = none) (s x : Operand)
    (ho : o.op = .call { callee := .builtin .append, args := #[s, x], argTypes := #[96, 96] }) (B : Nat) (p : Option Addr) (n c : Nat) (xs : List (Int × Int)) (y z : Int) (N : Nat)
    (hs : a.eval s = .slice p n c) (hx : a.eval x = .slice (some ⟨N, 0, none⟩) 1 1) (hown : OwnP B V p n c xs) (hB : B ≤ V.heap.size) (hc0 : V.cell? ⟨N, 0, none⟩ = some (.int .i64 y)) (hc1 : V.cell? ⟨N, 1, none⟩ = some (.int .i64 z)) (hn : n ≤ 1048576) (H : Nat) (hH : V.heap.size = H)
    (h : ∀ g c' w', OwnP B w' (some ⟨g, 0, none⟩) (n + 1) c' (xs ++ [(y, z)]) → V.grownBy w' (blkOf p) → (blkOf p = some g ∨ g = H) → K (a.put o.dst (.slice (some ⟨g, 0, none⟩) (n + 1) c')) w') :
    if Region.wanted o (yielded ops a.tmps) = true then Oper.wp Try.prog o a V K Q else E := by
  obtain ⟨i0, hi, hz0, hz1, hz2⟩ := info_parts infoPair
  have hb : (Value.slice p n c).ownBlock = blkOf p := by cases p <;> rfl
  refine step_append_lies _ hgd s x 96 ho B 46 i0 (.agg #[.int .i64 0, .int .i64 0]) 2 16 Try.underlying96 hi hz0 hz1 hz2 rfl (by omega) (.slice p n c) n _ hs hown.row ⟨N, 0, none⟩ 1 1 [.int .i64 y, .int .i64 z] hx rfl ?_ ?_ (by omega) (by unfold maxLen; omega) (by omega) hB H hH ?_
  · intro j u hu
    rw [addr_add, Nat.zero_add]
    rcases j with _ | _ | j
    · rw [hc0]; simpa using hu
    · rw [hc1]; simpa using hu
    · simp at hu
  · intro u hu; simp at hu; rcases hu with rfl | rfl <;> rfl
  · intro g c' w' h1 h2 h3 _
    rw [hb] at h2 h3
    exact h g c' w' ⟨by simpa [pcells] using h1⟩ h2 h3
/-- A new slice of pairs. -/
def RetP (xs : List (Int × Int)) (w : World) (e : Ending) (w' : World) : Prop := ∃ a n cap, e = .returned (.slice a n cap) ∧ OwnP w.heap.size w' a n cap xs ∧ Fr w w' ∧ n ≤ 1048576
end Go.Proofs.Ytojipjjfndgbhaa
/- Contracts of chapter 11's bets and shares. -/
set_option linter.unusedVariables false
namespace Go.Proofs.Ytojipjjfndgbhaa
open Go.ChangeShapes Go.WideShapes Go.ChangeAt Go.RowKit

def luckB (w l : Int) : Bool := inB w 0 4 && inB l 0 4 && decide (0 < w + l)
theorem luckB_iff {w l : Int} : luckB w l = true ↔ (0 ≤ w ∧ w ≤ 4) ∧ (0 ≤ l ∧ l ≤ 4) ∧ 0 < w + l := by
  simp [luckB, inB_iff, and_assoc]

def betB (a b w l : Int) : Bool := inB a 1 9 && inB b 1 9 && luckB w l
theorem betB_iff {a b w l : Int} : betB a b w l = true ↔ (1 ≤ a ∧ a ≤ 9) ∧ (1 ≤ b ∧ b ≤ 9) ∧ (0 ≤ w ∧ w ≤ 4) ∧ (0 ≤ l ∧ l ≤ 4) ∧ 0 < w + l := by
  simp [betB, inB_iff, luckB_iff, and_assoc]

/-- a to the power of k, as the machine reckons it. -/
def powW (a : Int) : Nat → Int
  | 0 => 1
  | k + 1 => wrap64 (powW a k * a)

def cmpI (p q : Int) : Int := if p < q then -1 else if q < p then 1 else 0

theorem gcd_step (a b : Int) : Int.gcd b (a.tmod b) = Int.gcd a b := by
  unfold Int.gcd; rw [Int.natAbs_tmod, Nat.gcd_comm b.natAbs, ← Nat.gcd_rec b.natAbs a.natAbs, Nat.gcd_comm]

theorem tmod_bd (a b : Int) (hb : b ≠ 0) : (a.tmod b).natAbs < b.natAbs := by
  rw [Int.natAbs_tmod]; exact Nat.mod_lt _ (by omega)

theorem commonDivisor_any (a b : Int) (w : World) (ha : -9223372036854775807 ≤ a ∧ a ≤ 9223372036854775807) (hb : -9223372036854775807 ≤ b ∧ b ≤ 9223372036854775807) :
    Calls Try.prog 130 #[.int .i64 a, .int .i64 b] w fun e w' => e = .returned (.int .i64 (Int.gcd a b : Nat)) ∧ Fr w w' := by
  go_enter Try.func130, Try.ntmps130
  go_wp2
  go_loopw [0, 1] (fun p q wr => ∃ c d : Int, p = .int .i64 c ∧ q = .int .i64 d ∧ Hid (Int.gcd c d = Int.gcd a b) ∧ (-9223372036854775807 ≤ c ∧ c ≤ 9223372036854775807) ∧ (-9223372036854775807 ≤ d ∧ d ≤ 9223372036854775807) ∧ Fr w wr) (fun _ q _ => (intOf q).natAbs)
  case atStart => exact ⟨a, b, rfl, rfl, Lib.hid rfl, ha, hb, Fr.refl _⟩
  case round =>
    obtain ⟨c, d, rfl, rfl, hg, hc, hd, hf⟩ := hrel
    clear ha hb
    by_cases h0 : d = 0
    · subst h0
      go_wp2
      all_goals (go_ret; exact ⟨ret_int (by rw [← hg.out]; simp; omega), hf⟩)
    · have hz : (d == 0) = false := by simpa using h0
      have hm := tmod_bd c d h0
      have hs := Lib.hid (gcd_step c d)
      clear h0
      go_wp2
      go_quiet (fail)
      go_wp2
      go_roundw
      case rel => exact ⟨_, _, rfl, rfl, Lib.hid (by rw [hs.out, hg.out]), hd, by omega, hf.drew' _⟩
      case measure => simp only [intOf]; exact hm

theorem l2Gcd_any (a b : Int) (w : World) (ha : 0 ≤ a ∧ a ≤ 9223372036854775807) (hb : 0 ≤ b ∧ b ≤ 9223372036854775807) :
    Calls Try.prog 139 #[.int .i64 a, .int .i64 b] w fun e w' => e = .returned (.int .i64 (Int.gcd a b : Nat)) ∧ Fr w w' := by
  go_enter Try.func139, Try.ntmps139
  go_wp2
  go_loopw [0, 1] (fun p q wr => ∃ c d : Int, p = .int .i64 c ∧ q = .int .i64 d ∧ Hid (Int.gcd c d = Int.gcd a b) ∧ (0 ≤ c ∧ c ≤ 9223372036854775807) ∧ (0 ≤ d ∧ d ≤ 9223372036854775807) ∧ Fr w wr) (fun _ q _ => (intOf q).natAbs)
  case atStart => exact ⟨a, b, rfl, rfl, Lib.hid rfl, ha, hb, Fr.refl _⟩
  case round =>
    obtain ⟨c, d, rfl, rfl, hg, hc, hd, hf⟩ := hrel
    clear ha hb
    by_cases h0 : 0 < d
    · have h1 := Int.emod_nonneg c (show d ≠ 0 by omega)
      have h2 := Int.emod_lt_of_pos c h0
      have hs : Hid (Int.gcd d (c % d) = Int.gcd c d) := Lib.hid (by rw [← gcd_step c d, Int.tmod_eq_emod_of_nonneg hc.1])
      go_wp2
      go_quiet (fail)
      go_wp2
      go_roundw
      case rel => exact ⟨_, _, rfl, rfl, Lib.hid (by rw [hs.out, hg.out]), hd, by omega, hf.drew' _⟩
      case measure => simp only [intOf]; omega
    · have : d = 0 := by omega
      subst this
      go_wp2
      go_ret
      exact ⟨ret_int (by rw [← hg.out]; simp; omega), hf⟩

/-- A quotient in lowest terms. -/
def lowP (a b : Int) : Int := a.tdiv (Int.gcd a b : Nat)
def lowQ (a b : Int) : Int := b.tdiv (Int.gcd a b : Nat)
def lowOk (a b : Int) : Bool := inB (lowP a b) (-1000000000) 1000000000 && decide (lowQ a b ≤ 1000000)
def lowA (a b : Int) : Int := bif lowOk a b then lowP a b else 0
def lowB (a b : Int) : Int := bif lowOk a b then lowQ a b else 0

theorem gcd_pos {a b : Int} (hb : 0 < b) : 1 ≤ (Int.gcd a b : Int) ∧ (Int.gcd a b : Int) ≤ b := by
  have h1 : 0 < Int.gcd a b := Int.gcd_pos_of_ne_zero_right a (by omega)
  have h2 : (Int.gcd a b : Int) ∣ b := Int.gcd_dvd_right a b
  have h3 := Int.le_of_dvd hb h2
  omega

theorem tdiv_rng {a d : Int} (ha : -9223372036854775807 ≤ a ∧ a ≤ 9223372036854775807) (hd : 1 ≤ d) : -9223372036854775807 ≤ a.tdiv d ∧ a.tdiv d ≤ 9223372036854775807 := by
  have h : (a.tdiv d).natAbs ≤ a.natAbs := by rw [Int.natAbs_tdiv]; exact Nat.div_le_self _ _
  omega

theorem lowest_any (a b : Int) (w : World) (ha : -9223372036854775807 ≤ a ∧ a ≤ 9223372036854775807) (hb : 0 < b ∧ b ≤ 9223372036854775807) :
    Calls Try.prog 90 #[.int .i64 a, .int .i64 b] w fun e w' => e = .returned (.tuple #[.agg #[.int .i64 (lowA a b), .int .i64 (lowB a b)], .bool (lowOk a b)]) ∧ Fr w w' := by
  have hg := gcd_pos (a := a) hb.1
  have hp := tdiv_rng ha hg.1
  have hq := tdiv_rng (a := b) (by omega) hg.1
  have hp' : -9223372036854775807 ≤ lowP a b ∧ lowP a b ≤ 9223372036854775807 := hp
  have hq' : -9223372036854775807 ≤ lowQ a b ∧ lowQ a b ≤ 9223372036854775807 := hq
  have hz : ((Int.gcd a b : Nat) : Int) ≠ 0 := by omega
  have hz' : (((Int.gcd a b : Nat) : Int) == 0) = false := by simpa using hz
  cases h1 : inB (a.tdiv (Int.gcd a b : Nat)) (-1000000000) 1000000000 with
  | false =>
    have H1 := Lib.hid h1
    have HV : Hid (lowA a b = 0) := Lib.hid (by simp [lowA, lowOk, lowP, lowQ, h1])
    have HW : Hid (lowB a b = 0) := Lib.hid (by simp [lowB, lowOk, lowP, lowQ, h1])
    have HO : Hid (lowOk a b = false) := Lib.hid (by simp [lowOk, lowP, lowQ, h1])
    go_enter Try.func90, Try.ntmps90
    go_wp2_with fail
    refine (commonDivisor_any _ _ _ ha (by omega)).mono ?_
    rintro e w1 ⟨rfl, f1⟩
    have c0 := f1.newCell (j := 0) rfl
    have c1 := f1.newCell (j := 1) rfl
    have c2 := f1.newFree 0
    have c3 := f1.newFree 1
    have c4 := f1.newSize
    go_wp2
    go_quiet (fail)
    go_wp2_with (go_at_call 72; refine (within_any _ _ _ _).mono ?_; rintro e w' ⟨rfl, rfl⟩)
    refine bodyPost_ret (v := .tuple #[.agg #[.int .i64 0, .int .i64 0], .bool false]) (by simp [results, Try.results90, go_sem, c0, c1]) rfl ⟨by rw [HV.out, HW.out, HO.out], ?_⟩
    exact (((((Fr.refl w).alloc _).trans f1).drew' _).setCell (Nat.le_refl _) _).setCell (Nat.le_refl _) _
  | true =>
    by_cases h2 : b.tdiv (Int.gcd a b : Nat) ≤ 1000000
    · have HV : Hid (lowA a b = (a.tdiv (Int.gcd a b : Nat))) := Lib.hid (by simp [lowA, lowOk, lowP, lowQ, h1, h2])
      have HW : Hid (lowB a b = (b.tdiv (Int.gcd a b : Nat))) := Lib.hid (by simp [lowB, lowOk, lowP, lowQ, h1, h2])
      have HO : Hid (lowOk a b = true) := Lib.hid (by simp [lowOk, lowP, lowQ, h1, h2])
      go_enter Try.func90, Try.ntmps90
      go_wp2_with fail
      refine (commonDivisor_any _ _ _ ha (by omega)).mono ?_
      rintro e w1 ⟨rfl, f1⟩
      have c0 := f1.newCell (j := 0) rfl
      have c1 := f1.newCell (j := 1) rfl
      have c2 := f1.newFree 0
      have c3 := f1.newFree 1
      have c4 := f1.newSize
      go_wp2
      go_quiet (fail)
      go_wp2_with (go_at_call 72; refine (within_any _ _ _ _).mono ?_; rintro e w' ⟨rfl, rfl⟩)
      refine bodyPost_ret (v := .tuple #[.agg #[.int .i64 (a.tdiv (Int.gcd a b : Nat)), .int .i64 (b.tdiv (Int.gcd a b : Nat))], .bool true]) (by simp [results, Try.results90, go_sem, c0, c1]) rfl ⟨by rw [HV.out, HW.out, HO.out], ?_⟩
      exact (((((Fr.refl w).alloc _).trans f1).drew' _).setCell (Nat.le_refl _) _).setCell (Nat.le_refl _) _
    · have HV : Hid (lowA a b = 0) := Lib.hid (by simp [lowA, lowOk, lowP, lowQ, h1, h2])
      have HW : Hid (lowB a b = 0) := Lib.hid (by simp [lowB, lowOk, lowP, lowQ, h1, h2])
      have HO : Hid (lowOk a b = false) := Lib.hid (by simp [lowOk, lowP, lowQ, h1, h2])
      go_enter Try.func90, Try.ntmps90
      go_wp2_with fail
      refine (commonDivisor_any _ _ _ ha (by omega)).mono ?_
      rintro e w1 ⟨rfl, f1⟩
      have c0 := f1.newCell (j := 0) rfl
      have c1 := f1.newCell (j := 1) rfl
      have c2 := f1.newFree 0
      have c3 := f1.newFree 1
      have c4 := f1.newSize
      go_wp2
      go_quiet (fail)
      go_wp2_with (go_at_call 72; refine (within_any _ _ _ _).mono ?_; rintro e w' ⟨rfl, rfl⟩)
      refine bodyPost_ret (v := .tuple #[.agg #[.int .i64 0, .int .i64 0], .bool false]) (by simp [results, Try.results90, go_sem, c0, c1]) rfl ⟨by rw [HV.out, HW.out, HO.out], ?_⟩
      exact (((((Fr.refl w).alloc _).trans f1).drew' _).setCell (Nat.le_refl _) _).setCell (Nat.le_refl _) _

theorem l2Abs_any (a : Int) (w : World) (ha : -9223372036854775807 ≤ a ∧ a ≤ 9223372036854775807) :
    Calls Try.prog 140 #[.int .i64 a] w fun e w' => e = .returned (.int .i64 (a.natAbs : Nat)) ∧ w = w' := by
  go_enter Try.func140, Try.ntmps140
  go_wp2_with (go_at_call 128; refine (l1Most_any _ _ _).mono ?_; rintro e w' ⟨rfl, rfl⟩)
  go_ret
  exact ⟨ret_int (by omega), rfl⟩

theorem l2Cut_any (a b : Int) (w : World) (ha : -9223372036854775807 ≤ a ∧ a ≤ 9223372036854775807) (hb : 0 < b ∧ b ≤ 9223372036854775807) :
    Calls Try.prog 123 #[.int .i64 a, .int .i64 b] w fun e w' => e = .returned (.agg #[.int .i64 (lowP a b), .int .i64 (lowQ a b)]) ∧ Fr w w' := by
  have hg := gcd_pos (a := a) hb.1
  have hp := tdiv_rng ha hg.1
  have hq := tdiv_rng (a := b) (by omega) hg.1
  have hz : ((Int.gcd a b : Nat) : Int) ≠ 0 := by omega
  have hz' : (((Int.gcd a b : Nat) : Int) == 0) = false := by simpa using hz
  have HG : Hid (Int.gcd (a.natAbs : Int) b = Int.gcd a b) := Lib.hid (by simp [Int.gcd])
  go_enter Try.func123, Try.ntmps123
  go_wp2_with fail
  refine (l2Abs_any _ _ ha).mono ?_
  rintro e w' ⟨rfl, rfl⟩
  go_wp2_with fail
  refine (l2Gcd_any _ _ _ (by omega) (by omega)).mono ?_
  rintro e w1 ⟨rfl, f1⟩
  rw [HG.out]
  have c0 := f1.newCell (j := 0) rfl
  have c1 := f1.newCell (j := 1) rfl
  have c2 := f1.newFree 0
  have c3 := f1.newFree 1
  have c4 := f1.newSize
  go_wp2
  go_region
  go_wp2
  refine bodyPost_ret (v := .agg #[.int .i64 (a.tdiv (Int.gcd a b : Nat)), .int .i64 (b.tdiv (Int.gcd a b : Nat))]) (by simp [results, Try.results123, go_sem, c0, c1]) rfl ⟨rfl, ?_⟩
  exact ((((Fr.refl w).alloc _).trans f1).drew' 1 |>.setCell (Nat.le_refl _) _).setCell (Nat.le_refl _) _

theorem eqIntA2_same (p q : Int) (w : World) :
    Calls Try.prog 33 #[.agg #[.int .i64 p, .int .i64 q], .agg #[.int .i64 p, .int .i64 q]] w fun e w' => e = .returned (.bool true) ∧ Fr w w' := by
  go_enter Try.func33, Try.ntmps33
  go_wp2
  have hf : Fr w ((w.alloc (.cells #[.int .i64 p, .int .i64 q] 46)).alloc (.cells #[.int .i64 p, .int .i64 q] 46)) := ((Fr.refl w).alloc _).alloc _
  go_loopw [5] (fun i wr => ∃ k : Nat, k ≤ 2 ∧ i = .int .i64 k ∧ Fr ((w.alloc (.cells #[.int .i64 p, .int .i64 q] 46)).alloc (.cells #[.int .i64 p, .int .i64 q] 46)) wr) (fun i _ => 2 - (intOf i).toNat)
  case atStart => exact ⟨0, by omega, rfl, Fr.refl _⟩
  case round =>
    obtain ⟨k, hk, rfl, hf2⟩ := hrel
    have a0 := hf2.newCell (j := 0) rfl
    have a1 := hf2.newCell (j := 1) rfl
    rw [World.size_alloc] at a0 a1
    have b0 := ((Fr.refl _).alloc _ |>.trans hf2).newCell (w := w) (j := 0) rfl
    have b1 := ((Fr.refl _).alloc _ |>.trans hf2).newCell (w := w) (j := 1) rfl
    rcases (show k = 0 ∨ k = 1 ∨ k = 2 by omega) with rfl | rfl | rfl
    · go_wp2
      go_quiet (fail)
      go_wp2
      go_roundw
      case rel => exact ⟨1, by omega, by go_num, hf2.drew' _⟩
      case measure => simp [intOf]
    · go_wp2
      go_quiet (fail)
      go_wp2
      go_roundw
      case rel => exact ⟨2, by omega, by go_num, hf2.drew' _⟩
      case measure => simp [intOf]
    · go_wp2
      go_ret
      exact ⟨rfl, hf.trans hf2⟩

end Go.Proofs.Ytojipjjfndgbhaa
