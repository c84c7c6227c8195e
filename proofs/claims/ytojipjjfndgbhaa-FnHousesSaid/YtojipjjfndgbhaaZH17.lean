import Derived.Test.YtojipjjfndgbhaaZH16
import Derived.Test.YtojipjjfndgbhaaZH02
import Derived.Test.YtojipjjfndgbhaaZH07
import Derived.Deep.DeepCutAuto
import Derived.Deep.CutBlock
import Derived.Test.YtojipjjfndgbhaaZH01
import Derived.ProofKit
import Derived.OpenShut
import Derived.ShutString
import Derived.ChangeOld
import Derived.Deep.Fields
/- Sums over children upward, and lists that are filled from behind: plain part. -/
set_option linter.unusedVariables false
namespace Go.Proofs.Ytojipjjfndgbhaa
open Go.ChangeShapes Go.WideShapes Go.ChangeAt Go.RowKit

/-- The sum of the children among the first k nodes. -/
def kidUp (P : List Int) (F : Nat → Int) (z : Nat) : Nat → Int
  | 0 => 0
  | k + 1 => kidUp P F z k + if nth P k = (z : Int) then F k else 0
theorem kidUp_part {P : List Int} {F : Nat → Int} {z : Nat} (j : Nat) (hj : j + 1 ≤ P.length) : kidUp P F z P.length = kidUp P F z (P.length - j) + kidSum P F z j := by
  induction j with
  | zero => simp [kidSum]
  | succ j ih =>
    have e : P.length - j = (P.length - 1 - j) + 1 := by omega
    rw [ih (by omega), e, kidUp, kidSum, show P.length - (j + 1) = P.length - 1 - j by omega]; omega
theorem kidUp_sum {P : List Int} {F : Nat → Int} {z : Nat} (hp : parB P = true) (hn : 1 ≤ P.length) : kidUp P F z P.length = kidSum P F z (P.length - 1) := by
  rw [kidUp_part (P.length - 1) (by omega), show P.length - (P.length - 1) = 0 + 1 by omega, kidUp, kidUp, (parB_iff.1 hp).1, if_neg (by omega)]; omega
def lsum (F : Nat → Int) (L : List Int) : Int := (L.map fun y => F y.toNat).sum
theorem lsum_take {F : Nat → Int} {L : List Int} {i : Nat} (h : i < L.length) : lsum F (L.take (i + 1)) = lsum F (L.take i) + F (nth L i).toNat := by
  rw [take_snoc L i h]; simp [lsum]
theorem lsum_zero (F : Nat → Int) (L : List Int) : lsum F (L.take 0) = 0 := by simp [lsum]
theorem lsum_kids (P : List Int) (F : Nat → Int) (z k : Nat) : lsum F (kidsTo P z k) = kidUp P F z k := by
  induction k with
  | zero => simp [kidsTo, lsum, kidUp]
  | succ k ih =>
    rw [kidsTo_succ, kidUp]
    by_cases h : nth P k = (z : Int)
    · rw [if_pos h, if_pos h, ← ih]; simp [lsum]
    · rw [if_neg h, if_neg h, ih]; omega
theorem lsum_bd {F : Nat → Int} {M : Int} (h : ∀ y, -M ≤ F y ∧ F y ≤ M) (L : List Int) : -(M * L.length) ≤ lsum F L ∧ lsum F L ≤ M * L.length := by
  induction L with
  | nil => simp [lsum]
  | cons y L ih =>
    have h1 := h y.toNat
    have : M * ((y :: L).length : Int) = M * L.length + M := by rw [List.length_cons, Int.natCast_add, Int.mul_add]; simp
    simp only [lsum, List.map_cons, List.sum_cons] at ih ⊢
    omega
theorem kids_nth {P : List Int} {x k i : Nat} (h : i < (kidsTo P x k).length) : ∃ y : Nat, nth (kidsTo P x k) i = (y : Int) ∧ y < k ∧ nth P y = (x : Int) := by
  have hm := nth_mem h
  simp only [kidsTo, List.mem_map, List.mem_filter, List.mem_range, beq_iff_eq] at hm
  obtain ⟨y, ⟨h1, h2⟩, h3⟩ := hm
  exact ⟨y, h3.symm, h1, h2⟩
/-- Noughts below k, the numbers of F from k on. -/
def sufL (P : List Int) (F : Nat → Int) (k : Nat) : List Int := (List.range P.length).map fun x => if x < k then 0 else F x
theorem sufL_len (P : List Int) (F : Nat → Int) (k : Nat) : (sufL P F k).length = P.length := by simp [sufL]
theorem sufL_nth {P : List Int} {F : Nat → Int} {k x : Nat} (h : x < P.length) : nth (sufL P F k) x = if x < k then 0 else F x := by
  rw [nth_eq (by rw [sufL_len]; exact h)]; simp [sufL]
theorem sufL_all (P : List Int) (F : Nat → Int) : sufL P F P.length = List.replicate P.length 0 := by
  apply List.ext_getElem
  · simp [sufL]
  · intro i h1 h2
    simp only [sufL, List.length_map, List.length_range] at h1
    simp [sufL, h1]
theorem sufL_zero (P : List Int) (F : Nat → Int) : sufL P F 0 = (List.range P.length).map F := by
  apply List.ext_getElem <;> simp [sufL]
theorem sufL_set {P : List Int} {F : Nat → Int} {k : Nat} (hk : k < P.length) : (sufL P F (k + 1)).set k (F k) = sufL P F k := by
  apply List.ext_getElem
  · simp [sufL]
  · intro i h1 h2
    simp only [sufL, List.getElem_set, List.getElem_map, List.getElem_range]
    by_cases e : k = i
    · subst e; simp
    · simp only [e, if_false]
      by_cases h : i < k
      · rw [if_pos h, if_pos (by omega)]
      · rw [if_neg h, if_neg (by omega)]
theorem capM_len (P W X : List Int) : (capM P W X).length = P.length := capL_len _ _ _ _
theorem wei_end {P W : List Int} (h : treeB P W = true) {x : Nat} (hx : x < P.length) : endB P x = (nth W x != 0) := by
  have h2 := weiOk_bd ((treeB_iff.1 h).2.2.2 x hx)
  rw [Bool.eq_iff_iff, h2.2.2, bne_iff_ne]; omega
/-- The numbers of the last round, from their own recurrence. -/
theorem cap_kids {P W X : List Int} (ht : treeB P W = true) {x : Nat} (hx : x < P.length) {L : List Int} (hl : ∀ y, x < y → y < P.length → nth L y = nth (capM P W X) y) :
    nth (capM P W X) x = if nth W x = 0 then max (payS P W X x) (kidUp P (nth L) x P.length) else payS P W X x := by
  obtain ⟨h1, h2, h3, h4⟩ := treeB_iff.1 ht
  rw [cap_rec h3 h1.2 x hx, wei_end ht hx, kidUp_sum h3 h1.1, kidSum_congr h3 hl _ (by omega)]
  by_cases e : nth W x = 0
  · rw [if_pos e, if_neg (by simp [e])]
  · rw [if_neg e, if_pos (by simp [e])]
end Go.Proofs.Ytojipjjfndgbhaa
/- Draws of deals. -/
set_option linter.unusedVariables false
namespace Go.Proofs.Ytojipjjfndgbhaa
open Go.ChangeShapes Go.WideShapes Go.ChangeAt Go.RowKit
/-- A deal that is being drawn. -/
structure DlI (w : World) (g A b5 : Nat) (H : Array Value) (k x y : Int) (wr : World) : Prop where
  B3 : Blk wr w.heap.size H 31
  B4 : Blk wr (w.heap.size + 1) #[.int .i64 0, .int .i64 0, .int .i64 0] 58
  B5 : Blk wr b5 #[.int .i64 k, .int .i64 x, .int .i64 y] 58
  D : Dr g A w wr
  lo : w.heap.size + 2 ≤ b5
  I : I64 k ∧ I64 x ∧ I64 y
section
variable {w wr w' : World} {g A A' b5 : Nat} {H : Array Value} {k x y : Int}
theorem DlI.mono (h : DlI w g A b5 H k x y wr) (hA : A ≤ A') : DlI w g A' b5 H k x y wr := ⟨h.B3, h.B4, h.B5, h.D.mono hA, h.lo, h.I⟩
theorem DlI.fr (h : DlI w g A b5 H k x y wr) (f : Fr wr w') : DlI w g A b5 H k x y w' := ⟨h.B3.fr f, h.B4.fr f, h.B5.fr f, h.D.fr f, h.lo, h.I⟩
theorem DlI.step (h : DlI w g A b5 H k x y wr) (hg : g < w.heap.size) (E : Dr g A' wr w') : DlI w g A' b5 H k x y w' := by
  have := h.lo
  exact ⟨E.blk h.B3 (by omega), E.blk h.B4 (by omega), E.blk h.B5 (by omega), h.D.trans E, h.lo, h.I⟩
theorem DlI.setK (h : DlI w g A b5 H k x y wr) (hg : g < w.heap.size) {z : Int} (hz : I64 z) : DlI w g A b5 H z x y (wr.setCell ⟨b5, 0, none⟩ (.int .i64 z)) := by
  have := h.lo
  have E := h.B5.set 0 (.int .i64 z)
  simp only [List.setIfInBounds_toArray, List.set_cons_zero] at E
  exact ⟨h.B3.other (p := ⟨b5, 0, none⟩) (by dsimp only; omega) _, h.B4.other (p := ⟨b5, 0, none⟩) (by dsimp only; omega) _, E, h.D.set (q := ⟨b5, 0, none⟩) (by dsimp only; omega) hg _, h.lo, hz, h.I.2⟩
theorem DlI.setX (h : DlI w g A b5 H k x y wr) (hg : g < w.heap.size) {z : Int} (hz : I64 z) : DlI w g A b5 H k z y (wr.setCell ⟨b5, 1, none⟩ (.int .i64 z)) := by
  have := h.lo
  have E := h.B5.set 1 (.int .i64 z)
  simp only [List.setIfInBounds_toArray, List.set_cons_zero, List.set_cons_succ] at E
  exact ⟨h.B3.other (p := ⟨b5, 1, none⟩) (by dsimp only; omega) _, h.B4.other (p := ⟨b5, 1, none⟩) (by dsimp only; omega) _, E, h.D.set (q := ⟨b5, 1, none⟩) (by dsimp only; omega) hg _, h.lo, h.I.1, hz, h.I.2.2⟩
theorem DlI.setY (h : DlI w g A b5 H k x y wr) (hg : g < w.heap.size) {z : Int} (hz : I64 z) : DlI w g A b5 H k x z (wr.setCell ⟨b5, 2, none⟩ (.int .i64 z)) := by
  have := h.lo
  have E := h.B5.set 2 (.int .i64 z)
  simp only [List.setIfInBounds_toArray, List.set_cons_zero, List.set_cons_succ] at E
  exact ⟨h.B3.other (p := ⟨b5, 2, none⟩) (by dsimp only; omega) _, h.B4.other (p := ⟨b5, 2, none⟩) (by dsimp only; omega) _, E, h.D.set (q := ⟨b5, 2, none⟩) (by dsimp only; omega) hg _, h.lo, h.I.1, h.I.2.1, hz⟩
theorem DlI.done (h : DlI w g A b5 H k x y wr) (hg : g < w.heap.size) : Blk (((wr.setCell ⟨w.heap.size + 1, 0, none⟩ (.int .i64 k)).setCell ⟨w.heap.size + 1, 1, none⟩ (.int .i64 x)).setCell ⟨w.heap.size + 1, 2, none⟩ (.int .i64 y)) (w.heap.size + 1) #[.int .i64 k, .int .i64 x, .int .i64 y] 58 ∧ Dr g A w (((wr.setCell ⟨w.heap.size + 1, 0, none⟩ (.int .i64 k)).setCell ⟨w.heap.size + 1, 1, none⟩ (.int .i64 x)).setCell ⟨w.heap.size + 1, 2, none⟩ (.int .i64 y)) ∧ (I64 k ∧ I64 x ∧ I64 y) := by
  have E := ((h.B4.set 0 (.int .i64 k)).set 1 (.int .i64 x)).set 2 (.int .i64 y)
  simp only [List.setIfInBounds_toArray, List.set_cons_zero, List.set_cons_succ] at E
  exact ⟨E, ((h.D.set (q := ⟨w.heap.size + 1, 0, none⟩) (by dsimp only; omega) hg _).set (q := ⟨w.heap.size + 1, 1, none⟩) (by dsimp only; omega) hg _).set (q := ⟨w.heap.size + 1, 2, none⟩) (by dsimp only; omega) hg _, h.I⟩
end
set_option maxRecDepth 100000 in
set_option maxHeartbeats 2000000 in
theorem deal12_dr {g A : Nat} {w0 : World} (w : World) (p q a : Option Addr) (n c m d l b : Nat) (P W X : List Int) (x s u v : Int) (h : Dr g A w0 w) (hA : A ≤ 900000000) (hP : SL w p n c P) (ho : houseB P W X x s u v = true) (hl : l ≤ 1000000) (hp : ∀ k, blkOf p = some k → k ≠ g) :
    Calls Try.prog 104 #[.pointer (some ⟨g, 0, none⟩), .agg #[.slice p n c, .slice q m d, .slice a l b, .int .i64 x, .int .i64 s, .int .i64 u, .int .i64 v]] w fun e w' => ∃ kd A' B' : Int, e = .returned (.agg #[.int .i64 kd, .int .i64 A', .int .i64 B']) ∧ (I64 kd ∧ I64 A' ∧ I64 B') ∧ Dr g (A + 50) w0 w' ∧ Dr g (A + 50) w w' := by
  have HP := Lib.hid hP.len
  have hg0 := h.cur.lt
  obtain ⟨t1, t2, t3, t4⟩ := houseB_parts ho
  have hn24 : 1 ≤ n ∧ n ≤ 24 := by rw [← HP.out]; exact (treeB_iff.1 t1).1
  have T3 := Lib.hid (treeB_iff.1 t1).2.2.1
  obtain ⟨x, rfl⟩ := Int.eq_ofNat_of_zero_le t3
  have hxn : x < n := by rw [HP.out] at t4; omega
  clear t1 t2 t3 t4 ho
  have fb := ((Fr.refl w).alloc (.cells #[.slice p n c, .slice q m d, .slice a l b, .int .i64 (x : Int), .int .i64 s, .int .i64 u, .int .i64 v] 31)).alloc (.cells #[.int .i64 0, .int .i64 0, .int .i64 0] 58)
  have D0 := (Dr.refl h.cur).fr fb
  have P0 := hP.fr fb
  have hb3 := (Blk.new w #[.slice p n c, .slice q m d, .slice a l b, .int .i64 (x : Int), .int .i64 s, .int .i64 u, .int .i64 v] 31).alloc (.cells #[.int .i64 0, .int .i64 0, .int .i64 0] 58)
  have hb4 := Blk.new (w.alloc (.cells #[.slice p n c, .slice q m d, .slice a l b, .int .i64 (x : Int), .int .i64 s, .int .i64 u, .int .i64 v] 31)) #[.int .i64 0, .int .i64 0, .int .i64 0] 58
  have hz : ((w.alloc (.cells #[.slice p n c, .slice q m d, .slice a l b, .int .i64 (x : Int), .int .i64 s, .int .i64 u, .int .i64 v] 31)).alloc (.cells #[.int .i64 0, .int .i64 0, .int .i64 0] 58)).heap.size = w.heap.size + 1 + 1 := by simp only [World.size_alloc]
  simp only [World.size_alloc] at hb4
  have HP0 := Lib.hid hP
  clear fb hP
  go_enter Try.func104, Try.ntmps104
  go_upto_region 1 with fail
  generalize (w.alloc (.cells #[.slice p n c, .slice q m d, .slice a l b, .int .i64 (x : Int), .int .i64 s, .int .i64 u, .int .i64 v] 31)).alloc (.cells #[.int .i64 0, .int .i64 0, .int .i64 0] 58) = w1 at D0 P0 hb3 hb4 hz ⊢
  have hz1 : w.heap.size + 2 ≤ w1.heap.size := by omega
  clear hz
  go_wp2_with fail
  refine (among_dr _ 1 6 [1, 1, 1, 2, 2, 3, 4, 5, 6] _ _ _ _ D0 (by omega) rfl rfl (by decide) (by decide) (by first | rfl | simp) (by decide)).mono ?_
  rintro e w2 ⟨k, rfl, hk, D2, E2⟩
  have f2 := (Fr.refl w2).alloc (.cells #[.int .i64 k, .int .i64 0, .int .i64 0] 58)
  have P2 := (E2.sl P0 hp).fr f2
  have S0 : DlI w g (A + 2) w2.heap.size #[.slice p n c, .slice q m d, .slice a l b, .int .i64 (x : Int), .int .i64 s, .int .i64 u, .int .i64 v] k 0 0 (w2.alloc (.cells #[.int .i64 k, .int .i64 0, .int .i64 0] 58)) :=
    ⟨(E2.blk hb3 (by omega)).fr f2, (E2.blk hb4 (by omega)).fr f2, Blk.new _ _ _, D2.fr f2, by have := E2.size; omega, by unfold I64; omega, by unfold I64; omega, by unfold I64; omega⟩
  clear f2 D0 P0 hb3 hb4 hz1 D2 E2
  generalize hb5 : w2.heap.size = b5 at S0
  go_upto_region 2 with fail
  clear hb5
  generalize w2.alloc _ = w3 at S0 P2 ⊢
  have HPD := Lib.hid hp
  have c2 := S0.B3.cell (j := 2) rfl
  go_wp2_with fail
  refine (l1Least_any _ _ _).mono ?_
  rintro e w' ⟨rfl, rfl⟩
  go_wp2_with fail
  refine (l1Most_any _ _ _).mono ?_
  rintro e w' ⟨rfl, rfl⟩
  obtain ⟨N, hN⟩ := Int.eq_ofNat_of_zero_le (show 0 ≤ max 1 (min (l : Int) 24) by omega)
  have hN1 : 1 ≤ N ∧ N ≤ 24 := by omega
  rw [hN]
  clear hN c2
  have c50 := S0.B5.cell (j := 0) rfl
  go_upto_block 0 with fail
  go_cut [] from 19 to 77 (fun wx => ∃ y z : Int, DlI w g (A + 12) b5 #[.slice p n c, .slice q m d, .slice a l b, .int .i64 (x : Int), .int .i64 s, .int .i64 u, .int .i64 v] k y z wx)
  case first =>
    by_cases h1 : k = 1
    · subst h1
      go_wp2_with fail
      refine (pick_dr _ N S0.D (by omega) (by unfold I64; omega)).mono ?_
      rintro e w4 ⟨r, rfl, hr, D4, E4⟩
      have S1 := S0.step hg0 E4
      have S2 := S1.setX hg0 (z := r) (by unfold I64; omega)
      have fz := S1.B5.free 1
      have cz := S1.B5.cell (j := 1) rfl
      clear S0 D4 E4 c50
      go_upto_region 6 with fail
      clear fz cz S1
      generalize w4.setCell ⟨b5, 1, none⟩ (.int .i64 r) = w5 at S2 ⊢
      have P5 := S2.D.sl HP0.out hp
      have c0 := S2.B3.cell (j := 0) rfl; have c1 := S2.B3.cell (j := 1) rfl; have c3 := S2.B3.cell (j := 3) rfl
      have hg5 := S2.D.cur.lt
      go_wp2_with fail
      refine (l2Kids_any _ _ _ _ _ _ _ x _ P5 T3.out (by omega) hxn).mono ?_
      rintro e w6 ⟨a9, n9, c9, rfl, o9, f, hn9⟩
      have S3 := S2.fr f
      clear S2 f c0 c1 c3 P5
      by_cases h9 : 0 < n9
      · have v9 : (0 : Int) < (n9 : Int) := by omega
        go_wp2_with fail
        refine (one_dr _ 8 S3.D (by omega) (by unfold I64; omega)).mono ?_
        rintro e w7 ⟨bb, rfl, D7, E7⟩
        have S4 := S3.step hg0 E7
        have o10 := E7.own o9 hg5
        clear S3 D7 E7 o9
        cases bb
        · go_wp2_with fail
          refine (pick_dr _ n9 S4.D (by omega) (by unfold I64; omega)).mono ?_
          rintro e w8 ⟨y, rfl, hy, D8, E8⟩
          have S5 := S4.step hg0 E8
          have o11 := E8.own o10 hg5
          clear S4 D8 E8 o10
          obtain ⟨y, rfl⟩ := Int.eq_ofNat_of_zero_le hy.1
          have hyl : y < n9 := by omega
          have vy0 : (0 : Int) ≤ (y : Int) := by omega
          have vy : (y : Int) < (n9 : Int) := by omega
          clear hy
          obtain ⟨g9, rfl, _, _, qk, _⟩ := o11.op h9
          replace qk := qk y hyl
          have hI := o11.sl.rngAt y
          generalize nth (kidsTo P x n) y = z at qk hI
          have S6 := S5.setX hg0 (z := z) hI
          have fz := S5.B5.free 1
          have cz := S5.B5.cell (j := 1) rfl
          clear S5 o11
          go_wp2_with fail
          go_meet
          exact ⟨_, _, S6.mono (by omega)⟩
        · go_wp2_with fail
          go_meet
          exact ⟨_, _, S4.mono (by omega)⟩
      · have v9 : ¬ (0 : Int) < (n9 : Int) := by omega
        go_wp2_with fail
        go_meet
        exact ⟨_, _, S3.mono (by omega)⟩
    by_cases h2 : k = 2
    · subst h2
      go_wp2_with fail
      refine (pick_dr _ 9 S0.D (by omega) (by unfold I64; omega)).mono ?_
      rintro e w4 ⟨r, rfl, hr, D4, E4⟩
      have S1 := S0.step hg0 E4
      have S2 := S1.setX hg0 (z := r - 4) (by unfold I64; omega)
      have fz := S1.B5.free 1
      have cz := S1.B5.cell (j := 1) rfl
      clear S0 D4 E4 c50
      go_wp2_with fail
      go_meet
      exact ⟨_, _, S2.mono (by omega)⟩
    by_cases h3 : k = 3
    · subst h3
      go_wp2_with fail
      refine (pick_dr _ 41 S0.D (by omega) (by unfold I64; omega)).mono ?_
      rintro e w4 ⟨r, rfl, hr, D4, E4⟩
      have S1 := S0.step hg0 E4
      have S2 := S1.setX hg0 (z := r - 20) (by unfold I64; omega)
      have fz := S1.B5.free 1
      have cz := S1.B5.cell (j := 1) rfl
      clear S0 D4 E4 c50
      go_wp2_with fail
      go_meet
      exact ⟨_, _, S2.mono (by omega)⟩
    by_cases h5 : k = 5
    · subst h5
      go_wp2_with fail
      refine (pick_dr _ N S0.D (by omega) (by unfold I64; omega)).mono ?_
      rintro e w4 ⟨r, rfl, hr, D4, E4⟩
      have S1 := S0.step hg0 E4
      have S2 := S1.setX hg0 (z := r) (by unfold I64; omega)
      have fz := S1.B5.free 1
      have cz := S1.B5.cell (j := 1) rfl
      clear S0 D4 E4 c50
      go_upto_region 15 with fail
      clear fz cz S1
      generalize w4.setCell ⟨b5, 1, none⟩ (.int .i64 r) = w5 at S2 ⊢
      go_wp2_with fail
      refine (pick_dr _ 31 S2.D (by omega) (by unfold I64; omega)).mono ?_
      rintro e w6 ⟨r2, rfl, hr2, D6, E6⟩
      have S3 := S2.step hg0 E6
      have S4 := S3.setY hg0 (z := r2 - 15) (by unfold I64; omega)
      have fz := S3.B5.free 2
      have cz := S3.B5.cell (j := 2) rfl
      clear S2 D6 E6
      go_wp2_with fail
      go_meet
      exact ⟨_, _, S4.mono (by omega)⟩
    by_cases h6 : k = 6
    · subst h6
      go_wp2_with fail
      refine (pick_dr _ N S0.D (by omega) (by unfold I64; omega)).mono ?_
      rintro e w4 ⟨r, rfl, hr, D4, E4⟩
      have S1 := S0.step hg0 E4
      have S2 := S1.setX hg0 (z := r) (by unfold I64; omega)
      have fz := S1.B5.free 1
      have cz := S1.B5.cell (j := 1) rfl
      clear S0 D4 E4 c50
      go_upto_region 18 with fail
      clear fz cz S1
      generalize w4.setCell ⟨b5, 1, none⟩ (.int .i64 r) = w5 at S2 ⊢
      go_wp2_with fail
      refine (pick_dr _ 6 S2.D (by omega) (by unfold I64; omega)).mono ?_
      rintro e w6 ⟨r2, rfl, hr2, D6, E6⟩
      have S3 := S2.step hg0 E6
      have S4 := S3.setY hg0 (z := 1 + r2) (by unfold I64; omega)
      have fz := S3.B5.free 2
      have cz := S3.B5.cell (j := 2) rfl
      clear S2 D6 E6
      go_wp2_with fail
      go_meet
      exact ⟨_, _, S4.mono (by omega)⟩
    have b1 : (k == 1) = false := by simp [h1]
    have b2 : (k == 2) = false := by simp [h2]
    have b3 : (k == 3) = false := by simp [h3]
    have b5x : (k == 5) = false := by simp [h5]
    have b6 : (k == 6) = false := by simp [h6]
    go_wp2_with fail
    go_meet
    exact ⟨_, _, S0.mono (by omega)⟩
  case rest =>
    obtain ⟨y, z, S1⟩ := hcut
    obtain ⟨w4, rfl⟩ : ∃ wz : World, wz = wc := ⟨_, rfl⟩
    clear S0 c50
    go_wp2_with fail
    refine (pick_dr _ 32 S1.D (by omega) (by unfold I64; omega)).mono ?_
    rintro e w5 ⟨r, rfl, hr, D5, E5⟩
    have S2 := S1.step hg0 E5
    clear S1 D5 E5
    go_upto_block 1 with fail
    go_cut [] from 80 to 97 (fun wx => ∃ k y z : Int, DlI w g (A + 30) b5 #[.slice p n c, .slice q m d, .slice a l b, .int .i64 (x : Int), .int .i64 s, .int .i64 u, .int .i64 v] k y z wx)
    case first =>
      by_cases h1 : r = 0
      · subst h1
        go_wp2_with fail
        refine (among_dr _ (-1000) 4611686018427387904 [-1, 24, 999, 1000, -1000, 4611686018427387904] _ _ _ _ S2.D (by omega) rfl rfl (by decide) (by decide) (by first | rfl | simp) (by decide)).mono ?_
        rintro e w6 ⟨r, rfl, hr, D6, E6⟩
        have S3 := S2.step hg0 E6
        have S4 := S3.setX hg0 (z := r) (by unfold I64; omega)
        have fz := S3.B5.free 1
        have cz := S3.B5.cell (j := 1) rfl
        clear S2 D6 E6
        go_wp2_with fail
        go_meet
        exact ⟨_, _, _, S4.mono (by omega)⟩
      by_cases h2 : r = 1
      · subst h2
        go_wp2_with fail
        refine (among_dr _ (-1000) 4611686018427387904 [-1, 1, 21, 999, 1000] _ _ _ _ S2.D (by omega) rfl rfl (by decide) (by decide) (by first | rfl | simp) (by decide)).mono ?_
        rintro e w6 ⟨r, rfl, hr, D6, E6⟩
        have S3 := S2.step hg0 E6
        have S4 := S3.setY hg0 (z := r) (by unfold I64; omega)
        have fz := S3.B5.free 2
        have cz := S3.B5.cell (j := 2) rfl
        clear S2 D6 E6
        go_wp2_with fail
        go_meet
        exact ⟨_, _, _, S4.mono (by omega)⟩
      by_cases h3 : r = 2
      · subst h3
        go_wp2_with fail
        refine (among_dr _ (-1000) 1000 [0, 7, -1] _ _ _ _ S2.D (by omega) rfl rfl (by decide) (by decide) (by first | rfl | simp) (by decide)).mono ?_
        rintro e w6 ⟨r, rfl, hr, D6, E6⟩
        have S3 := S2.step hg0 E6
        have S4 := S3.setK hg0 (z := r) (by unfold I64; omega)
        have fz := S3.B5.free 0
        have cz := S3.B5.cell (j := 0) rfl
        clear S2 D6 E6
        go_wp2_with fail
        go_meet
        exact ⟨_, _, _, S4.mono (by omega)⟩
      have b1 : (r == 0) = false := by simp [h1]
      have b2 : (r == 1) = false := by simp [h2]
      have b3 : (r == 2) = false := by simp [h3]
      go_wp2_with fail
      go_meet
      exact ⟨_, _, _, S2.mono (by omega)⟩
    case rest =>
      obtain ⟨k2, y2, z2, S3⟩ := hcut
      obtain ⟨w6, rfl⟩ : ∃ wz : World, wz = wc := ⟨_, rfl⟩
      clear S2
      have c0 := S3.B5.cell (j := 0) rfl; have c1 := S3.B5.cell (j := 1) rfl; have c2 := S3.B5.cell (j := 2) rfl
      have f0 := S3.B4.free 0; have f1 := S3.B4.free 1; have f2 := S3.B4.free 2
      have i0 := S3.B4.cell (j := 0) rfl; have i1 := S3.B4.cell (j := 1) rfl; have i2 := S3.B4.cell (j := 2) rfl
      have FIN := Lib.hid (S3.done hg0)
      clear S3
      go_wp2
      refine bodyPost_ret (results_D Try.results104 _ _ (w.heap.size + 1) _ _ _ rfl (FIN.out.1.cell rfl) (FIN.out.1.cell rfl) (FIN.out.1.cell rfl)) rfl ?_
      have D9 := FIN.out.2.1.mono (show A + 30 ≤ A + 50 by omega)
      exact ⟨_, _, _, rfl, FIN.out.2.2, h.trans D9, D9⟩
end Go.Proofs.Ytojipjjfndgbhaa
/- Structs that came in: their fields as lists and numbers. -/
set_option linter.unusedVariables false
namespace Go.Proofs.Ytojipjjfndgbhaa
open Go.ChangeShapes Go.WideShapes Go.ChangeAt Go.RowKit Go.Deep

section
variable {H : Type} {enc : TypeId × Value → H} {w : World} {base : Nat} {held : Bool}
theorem sl_of_trod {n : Nat} {c : Value} {y : DataW H × List MemPlace} (h : DataW.trod enc Try.prog w base (fun _ => true) held n 22 [c] = some y) : ∃ a len cap zs, c = .slice a len cap ∧ SL w a len cap zs := by
  rcases open_ints Try.underlying22 Try.underlying3 (by kernel_rfl) h with ⟨hcs, _⟩ | ⟨x, l, cp, zs, hcs, _, hl, hm, hz, _, hcell, hwz⟩
  · simp only [List.cons.injEq, and_true] at hcs
    exact ⟨none, 0, 0, [], hcs, SL.of_nil _⟩
  · simp only [List.cons.injEq, and_true] at hcs
    exact ⟨some x, l, cp, _, hcs, SL.of_open hl hm (by simpa using hz) hcell hwz⟩
theorem int_of_trod {n : Nat} {c : Value} {y : DataW H × List MemPlace} (h : DataW.trod enc Try.prog w base (fun _ => true) held n 3 [c] = some y) : ∃ k, c = .int .i64 k ∧ I64 k := by
  obtain ⟨k, hc, _, hw⟩ := DataW.trod_int Try.underlying3 h
  simp only [List.cons.injEq, and_true] at hc
  exact ⟨k, hc, I64.of_wf hw⟩
theorem some_of_len {α : Type} {xs : List α} {i n : Nat} (h : xs.length = n) (hi : i < n) : ∃ y, xs[i]? = some y := ⟨xs[i], List.getElem?_eq_getElem (by omega)⟩

set_option maxRecDepth 100000 in
theorem tree_of_trod {n : Nat} {c0 c1 : Value} {y : DataW H × List MemPlace} (h : DataW.trod enc Try.prog w base (fun _ => true) held n 24 [c0, c1] = some y) :
    ∃ p l c q m d P W, c0 = .slice p l c ∧ c1 = .slice q m d ∧ SL w p l c P ∧ SL w q m d W := by
  obtain ⟨xs, k, _, _, _, hlen, hg⟩ := DataW.trod_struct Try.underlying24 h
  obtain ⟨y0, hy0⟩ := some_of_len (i := 0) hlen (by decide)
  obtain ⟨y1, hy1⟩ := some_of_len (i := 1) hlen (by decide)
  have e0 : Try.prog.cellsOf 22 = 1 := by kernel_rfl
  have g0 : DataW.trod enc Try.prog w base (fun _ => true) held k 22 (([c0, c1].drop 0).take (Try.prog.cellsOf 22)) = xs[0]? := hg 0 _ rfl
  have g1 : DataW.trod enc Try.prog w base (fun _ => true) held k 22 (([c0, c1].drop 1).take (Try.prog.cellsOf 22)) = xs[1]? := hg 1 _ rfl
  rw [e0, hy0] at g0
  rw [e0, hy1] at g1
  obtain ⟨p, l, c, P, rfl, hP⟩ := sl_of_trod g0
  obtain ⟨q, m, d, W, rfl, hW⟩ := sl_of_trod g1
  exact ⟨p, l, c, q, m, d, P, W, rfl, rfl, hP, hW⟩

set_option maxRecDepth 100000 in
theorem open_tree {r : Reach} {b0 : Nat} {v : Value} {d : DataW H} {pl : List MemPlace} (hv : Value.okWide Try.prog w r b0 24 v) (h : DataW.Trod enc Try.prog w base (fun _ => true) held 24 v d pl) :
    ∃ p l c q m d P W, v = .agg #[.slice p l c, .slice q m d] ∧ SL w p l c P ∧ SL w q m d W := by
  obtain ⟨cs, rfl, hsz⟩ := okWide_struct Try.underlying24 hv
  have e : Try.prog.cellsOf 24 = 2 := by kernel_rfl
  rw [e] at hsz
  obtain ⟨l⟩ := cs
  match l, hsz with
  | [c0, c1], _ =>
    obtain ⟨fuel, hf⟩ := h
    obtain ⟨p, l, c, q, m, d, P, W, rfl, rfl, hP, hW⟩ := tree_of_trod (by simpa [Value.cells] using hf)
    exact ⟨p, l, c, q, m, d, P, W, rfl, hP, hW⟩

set_option maxRecDepth 100000 in
theorem open_house {r : Reach} {b0 : Nat} {v : Value} {d : DataW H} {pl : List MemPlace} (hv : Value.okWide Try.prog w r b0 26 v) (h : DataW.Trod enc Try.prog w base (fun _ => true) held 26 v d pl) :
    ∃ p l c P q m d W a k b X x s u z, v = .agg #[.slice p l c, .slice q m d, .slice a k b, .int .i64 x, .int .i64 s, .int .i64 u, .int .i64 z] ∧ SL w p l c P ∧ SL w q m d W ∧ SL w a k b X ∧ I64 x ∧ I64 s ∧ I64 u ∧ I64 z := by
  obtain ⟨cs, rfl, hsz⟩ := okWide_struct Try.underlying26 hv
  have e : Try.prog.cellsOf 26 = 7 := by kernel_rfl
  rw [e] at hsz
  obtain ⟨l⟩ := cs
  match l, hsz with
  | [c0, c1, c2, c3, c4, c5, c6], _ =>
    obtain ⟨fuel, hf⟩ := h
    obtain ⟨xs, k, _, _, _, hlen, hg⟩ := DataW.trod_struct Try.underlying26 hf
    obtain ⟨y0, hy0⟩ := some_of_len (i := 0) hlen (by decide)
    obtain ⟨y1, hy1⟩ := some_of_len (i := 1) hlen (by decide)
    obtain ⟨y2, hy2⟩ := some_of_len (i := 2) hlen (by decide)
    obtain ⟨y3, hy3⟩ := some_of_len (i := 3) hlen (by decide)
    obtain ⟨y4, hy4⟩ := some_of_len (i := 4) hlen (by decide)
    obtain ⟨y5, hy5⟩ := some_of_len (i := 5) hlen (by decide)
    have e0 : Try.prog.cellsOf 22 = 1 := by kernel_rfl
    have e1 : Try.prog.cellsOf 3 = 1 := by kernel_rfl
    have e2 : Try.prog.cellsOf 24 = 2 := by kernel_rfl
    have g0 : DataW.trod enc Try.prog w base (fun _ => true) held k 24 (([c0, c1, c2, c3, c4, c5, c6].drop 0).take (Try.prog.cellsOf 24)) = xs[0]? := hg 0 _ rfl
    have g1 : DataW.trod enc Try.prog w base (fun _ => true) held k 22 (([c0, c1, c2, c3, c4, c5, c6].drop 2).take (Try.prog.cellsOf 22)) = xs[1]? := hg 1 _ rfl
    have g2 : DataW.trod enc Try.prog w base (fun _ => true) held k 3 (([c0, c1, c2, c3, c4, c5, c6].drop 3).take (Try.prog.cellsOf 3)) = xs[2]? := hg 2 _ rfl
    have g3 : DataW.trod enc Try.prog w base (fun _ => true) held k 3 (([c0, c1, c2, c3, c4, c5, c6].drop 4).take (Try.prog.cellsOf 3)) = xs[3]? := hg 3 _ rfl
    have g4 : DataW.trod enc Try.prog w base (fun _ => true) held k 3 (([c0, c1, c2, c3, c4, c5, c6].drop 5).take (Try.prog.cellsOf 3)) = xs[4]? := hg 4 _ rfl
    have g5 : DataW.trod enc Try.prog w base (fun _ => true) held k 3 (([c0, c1, c2, c3, c4, c5, c6].drop 6).take (Try.prog.cellsOf 3)) = xs[5]? := hg 5 _ rfl
    rw [e2, hy0] at g0
    rw [e0, hy1] at g1
    rw [e1, hy2] at g2
    rw [e1, hy3] at g3
    rw [e1, hy4] at g4
    rw [e1, hy5] at g5
    obtain ⟨p, l, c, q, m, d, P, W, rfl, rfl, hP, hW⟩ := tree_of_trod g0
    obtain ⟨a, k, b, X, rfl, hX⟩ := sl_of_trod g1
    obtain ⟨x, rfl, ix⟩ := int_of_trod g2
    obtain ⟨s, rfl, is⟩ := int_of_trod g3
    obtain ⟨u, rfl, iu⟩ := int_of_trod g4
    obtain ⟨z, rfl, iz⟩ := int_of_trod g5
    exact ⟨p, l, c, P, q, m, d, W, a, k, b, X, x, s, u, z, rfl, hP, hW, hX, ix, is, iu, iz⟩

set_option maxRecDepth 100000 in
theorem open_deal {r : Reach} {b0 : Nat} {v : Value} {d : DataW H} {pl : List MemPlace} (hv : Value.okWide Try.prog w r b0 56 v) (h : DataW.Trod enc Try.prog w base (fun _ => true) held 56 v d pl) :
    ∃ x s u, v = .agg #[.int .i64 x, .int .i64 s, .int .i64 u] ∧ I64 x ∧ I64 s ∧ I64 u := by
  obtain ⟨cs, rfl, hsz⟩ := okWide_struct Try.underlying56 hv
  have e : Try.prog.cellsOf 56 = 3 := by kernel_rfl
  rw [e] at hsz
  obtain ⟨l⟩ := cs
  match l, hsz with
  | [c0, c1, c2], _ =>
    obtain ⟨fuel, hf⟩ := h
    obtain ⟨xs, k, _, _, _, hlen, hg⟩ := DataW.trod_struct Try.underlying56 hf
    obtain ⟨y0, hy0⟩ := some_of_len (i := 0) hlen (by decide)
    obtain ⟨y1, hy1⟩ := some_of_len (i := 1) hlen (by decide)
    obtain ⟨y2, hy2⟩ := some_of_len (i := 2) hlen (by decide)
    have e1 : Try.prog.cellsOf 3 = 1 := by kernel_rfl
    have g0 : DataW.trod enc Try.prog w base (fun _ => true) held k 3 (([c0, c1, c2].drop 0).take (Try.prog.cellsOf 3)) = xs[0]? := hg 0 _ rfl
    have g1 : DataW.trod enc Try.prog w base (fun _ => true) held k 3 (([c0, c1, c2].drop 1).take (Try.prog.cellsOf 3)) = xs[1]? := hg 1 _ rfl
    have g2 : DataW.trod enc Try.prog w base (fun _ => true) held k 3 (([c0, c1, c2].drop 2).take (Try.prog.cellsOf 3)) = xs[2]? := hg 2 _ rfl
    rw [e1, hy0] at g0
    rw [e1, hy1] at g1
    rw [e1, hy2] at g2
    obtain ⟨x, rfl, ix⟩ := int_of_trod g0
    obtain ⟨s, rfl, is⟩ := int_of_trod g1
    obtain ⟨u, rfl, iu⟩ := int_of_trod g2
    exact ⟨x, s, u, rfl, ix, is, iu⟩

end
end Go.Proofs.Ytojipjjfndgbhaa
