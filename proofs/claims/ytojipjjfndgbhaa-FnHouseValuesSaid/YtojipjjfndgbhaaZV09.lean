import Derived.Test.YtojipjjfndgbhaaZV01
import Derived.Test.YtojipjjfndgbhaaZV04
import Derived.Test.YtojipjjfndgbhaaZV08
import Derived.Deep.DeepCutAuto
import Derived.Deep.CutBlock
import Derived.ProofKit
import Derived.OpenShut
import Derived.ShutString
import Derived.ChangeOld
import Derived.Deep.Fields
import Derived.Laws.OwnMore
import Derived.StillTailTactics
/- Draws of deals. -/
set_option linter.unusedVariables false
namespace Go.Proofs.Ytojipjjfndgbhaa
open Go.ChangeShapes Go.WideShapes Go.ChangeAt Go.RowKit
/-- A deal that is being drawn. -/
structure DlI (w : World) (g A b5 : Nat) (H : Array Value) (k x y : Int) (wr : World) : Prop where
  B3 : Blk wr w.heap.size H 31
  B4 : Blk wr (w.heap.size + 1) #[.int .i64 0, .int .i64 0, .int .i64 0] 58
  B5 : Blk wr b5 #[.int .i64 k, .int .i64 x, .int .i64 y] 58
  D : Dr g A w wr
  lo : w.heap.size + 2 ≤ b5
  I : I64 k ∧ I64 x ∧ I64 y
section
variable {w wr w' : World} {g A A' b5 : Nat} {H : Array Value} {k x y : Int}
theorem DlI.mono (h : DlI w g A b5 H k x y wr) (hA : A ≤ A') : DlI w g A' b5 H k x y wr := ⟨h.B3, h.B4, h.B5, h.D.mono hA, h.lo, h.I⟩
theorem DlI.fr (h : DlI w g A b5 H k x y wr) (f : Fr wr w') : DlI w g A b5 H k x y w' := ⟨h.B3.fr f, h.B4.fr f, h.B5.fr f, h.D.fr f, h.lo, h.I⟩
theorem DlI.step (h : DlI w g A b5 H k x y wr) (hg : g < w.heap.size) (E : Dr g A' wr w') : DlI w g A' b5 H k x y w' := by
  have := h.lo
  exact ⟨E.blk h.B3 (by omega), E.blk h.B4 (by omega), E.blk h.B5 (by omega), h.D.trans E, h.lo, h.I⟩
theorem DlI.setK (h : DlI w g A b5 H k x y wr) (hg : g < w.heap.size) {z : Int} (hz : I64 z) : DlI w g A b5 H z x y (wr.setCell ⟨b5, 0, none⟩ (.int .i64 z)) := by
  have := h.lo
  have E := h.B5.set 0 (.int .i64 z)
  simp only [List.setIfInBounds_toArray, List.set_cons_zero] at E
  exact ⟨h.B3.other (p := ⟨b5, 0, none⟩) (by dsimp only; omega) _, h.B4.other (p := ⟨b5, 0, none⟩) (by dsimp only; omega) _, E, h.D.set (q := ⟨b5, 0, none⟩) (by dsimp only; omega) hg _, h.lo, hz, h.I.2⟩
theorem DlI.setX (h : DlI w g A b5 H k x y wr) (hg : g < w.heap.size) {z : Int} (hz : I64 z) : DlI w g A b5 H k z y (wr.setCell ⟨b5, 1, none⟩ (.int .i64 z)) := by
  have := h.lo
  have E := h.B5.set 1 (.int .i64 z)
  simp only [List.setIfInBounds_toArray, List.set_cons_zero, List.set_cons_succ] at E
  exact ⟨h.B3.other (p := ⟨b5, 1, none⟩) (by dsimp only; omega) _, h.B4.other (p := ⟨b5, 1, none⟩) (by dsimp only; omega) _, E, h.D.set (q := ⟨b5, 1, none⟩) (by dsimp only; omega) hg _, h.lo, h.I.1, hz, h.I.2.2⟩
theorem DlI.setY (h : DlI w g A b5 H k x y wr) (hg : g < w.heap.size) {z : Int} (hz : I64 z) : DlI w g A b5 H k x z (wr.setCell ⟨b5, 2, none⟩ (.int .i64 z)) := by
  have := h.lo
  have E := h.B5.set 2 (.int .i64 z)
  simp only [List.setIfInBounds_toArray, List.set_cons_zero, List.set_cons_succ] at E
  exact ⟨h.B3.other (p := ⟨b5, 2, none⟩) (by dsimp only; omega) _, h.B4.other (p := ⟨b5, 2, none⟩) (by dsimp only; omega) _, E, h.D.set (q := ⟨b5, 2, none⟩) (by dsimp only; omega) hg _, h.lo, h.I.1, h.I.2.1, hz⟩
theorem DlI.done (h : DlI w g A b5 H k x y wr) (hg : g < w.heap.size) : Blk (((wr.setCell ⟨w.heap.size + 1, 0, none⟩ (.int .i64 k)).setCell ⟨w.heap.size + 1, 1, none⟩ (.int .i64 x)).setCell ⟨w.heap.size + 1, 2, none⟩ (.int .i64 y)) (w.heap.size + 1) #[.int .i64 k, .int .i64 x, .int .i64 y] 58 ∧ Dr g A w (((wr.setCell ⟨w.heap.size + 1, 0, none⟩ (.int .i64 k)).setCell ⟨w.heap.size + 1, 1, none⟩ (.int .i64 x)).setCell ⟨w.heap.size + 1, 2, none⟩ (.int .i64 y)) ∧ (I64 k ∧ I64 x ∧ I64 y) := by
  have E := ((h.B4.set 0 (.int .i64 k)).set 1 (.int .i64 x)).set 2 (.int .i64 y)
  simp only [List.setIfInBounds_toArray, List.set_cons_zero, List.set_cons_succ] at E
  exact ⟨E, ((h.D.set (q := ⟨w.heap.size + 1, 0, none⟩) (by dsimp only; omega) hg _).set (q := ⟨w.heap.size + 1, 1, none⟩) (by dsimp only; omega) hg _).set (q := ⟨w.heap.size + 1, 2, none⟩) (by dsimp only; omega) hg _, h.I⟩
end
set_option maxRecDepth 100000 in
set_option maxHeartbeats 2000000 in
theorem deal12_dr {g A : Nat} {w0 : World} (w : World) (p q a : Option Addr) (n c m d l b : Nat) (P W X : List Int) (x s u v : Int) (h : Dr g A w0 w) (hA : A ≤ 900000000) (hP : SL w p n c P) (ho : houseB P W X x s u v = true) (hl : l ≤ 1000000) (hp : ∀ k, blkOf p = some k → k ≠ g) :
    Calls Try.prog 104 #[.pointer (some ⟨g, 0, none⟩), .agg #[.slice p n c, .slice q m d, .slice a l b, .int .i64 x, .int .i64 s, .int .i64 u, .int .i64 v]] w fun e w' => ∃ kd A' B' : Int, e = .returned (.agg #[.int .i64 kd, .int .i64 A', .int .i64 B']) ∧ (I64 kd ∧ I64 A' ∧ I64 B') ∧ Dr g (A + 50) w0 w' ∧ Dr g (A + 50) w w' := by
  have HP := Lib.hid hP.len
  have hg0 := h.cur.lt
  obtain ⟨t1, t2, t3, t4⟩ := houseB_parts ho
  have hn24 : 1 ≤ n ∧ n ≤ 24 := by rw [← HP.out]; exact (treeB_iff.1 t1).1
  have T3 := Lib.hid (treeB_iff.1 t1).2.2.1
  obtain ⟨x, rfl⟩ := Int.eq_ofNat_of_zero_le t3
  have hxn : x < n := by rw [HP.out] at t4; omega
  clear t1 t2 t3 t4 ho
  have fb := ((Fr.refl w).alloc (.cells #[.slice p n c, .slice q m d, .slice a l b, .int .i64 (x : Int), .int .i64 s, .int .i64 u, .int .i64 v] 31)).alloc (.cells #[.int .i64 0, .int .i64 0, .int .i64 0] 58)
  have D0 := (Dr.refl h.cur).fr fb
  have P0 := hP.fr fb
  have hb3 := (Blk.new w #[.slice p n c, .slice q m d, .slice a l b, .int .i64 (x : Int), .int .i64 s, .int .i64 u, .int .i64 v] 31).alloc (.cells #[.int .i64 0, .int .i64 0, .int .i64 0] 58)
  have hb4 := Blk.new (w.alloc (.cells #[.slice p n c, .slice q m d, .slice a l b, .int .i64 (x : Int), .int .i64 s, .int .i64 u, .int .i64 v] 31)) #[.int .i64 0, .int .i64 0, .int .i64 0] 58
  have hz : ((w.alloc (.cells #[.slice p n c, .slice q m d, .slice a l b, .int .i64 (x : Int), .int .i64 s, .int .i64 u, .int .i64 v] 31)).alloc (.cells #[.int .i64 0, .int .i64 0, .int .i64 0] 58)).heap.size = w.heap.size + 1 + 1 := by simp only [World.size_alloc]
  simp only [World.size_alloc] at hb4
  have HP0 := Lib.hid hP
  clear fb hP
  go_enter Try.func104, Try.ntmps104
  go_upto_region 1 with fail
  generalize (w.alloc (.cells #[.slice p n c, .slice q m d, .slice a l b, .int .i64 (x : Int), .int .i64 s, .int .i64 u, .int .i64 v] 31)).alloc (.cells #[.int .i64 0, .int .i64 0, .int .i64 0] 58) = w1 at D0 P0 hb3 hb4 hz ⊢
  have hz1 : w.heap.size + 2 ≤ w1.heap.size := by omega
  clear hz
  go_wp2_with fail
  refine (among_dr _ 1 6 [1, 1, 1, 2, 2, 3, 4, 5, 6] _ _ _ _ D0 (by omega) rfl rfl (by decide) (by decide) (by first | rfl | simp) (by decide)).mono ?_
  rintro e w2 ⟨k, rfl, hk, D2, E2⟩
  have f2 := (Fr.refl w2).alloc (.cells #[.int .i64 k, .int .i64 0, .int .i64 0] 58)
  have P2 := (E2.sl P0 hp).fr f2
  have S0 : DlI w g (A + 2) w2.heap.size #[.slice p n c, .slice q m d, .slice a l b, .int .i64 (x : Int), .int .i64 s, .int .i64 u, .int .i64 v] k 0 0 (w2.alloc (.cells #[.int .i64 k, .int .i64 0, .int .i64 0] 58)) :=
    ⟨(E2.blk hb3 (by omega)).fr f2, (E2.blk hb4 (by omega)).fr f2, Blk.new _ _ _, D2.fr f2, by have := E2.size; omega, by unfold I64; omega, by unfold I64; omega, by unfold I64; omega⟩
  clear f2 D0 P0 hb3 hb4 hz1 D2 E2
  generalize hb5 : w2.heap.size = b5 at S0
  go_upto_region 2 with fail
  clear hb5
  generalize w2.alloc _ = w3 at S0 P2 ⊢
  have HPD := Lib.hid hp
  have c2 := S0.B3.cell (j := 2) rfl
  go_wp2_with fail
  refine (l1Least_any _ _ _).mono ?_
  rintro e w' ⟨rfl, rfl⟩
  go_wp2_with fail
  refine (l1Most_any _ _ _).mono ?_
  rintro e w' ⟨rfl, rfl⟩
  obtain ⟨N, hN⟩ := Int.eq_ofNat_of_zero_le (show 0 ≤ max 1 (min (l : Int) 24) by omega)
  have hN1 : 1 ≤ N ∧ N ≤ 24 := by omega
  rw [hN]
  clear hN c2
  have c50 := S0.B5.cell (j := 0) rfl
  go_upto_block 0 with fail
  go_cut [] from 19 to 77 (fun wx => ∃ y z : Int, DlI w g (A + 12) b5 #[.slice p n c, .slice q m d, .slice a l b, .int .i64 (x : Int), .int .i64 s, .int .i64 u, .int .i64 v] k y z wx)
  case first =>
    by_cases h1 : k = 1
    · subst h1
      go_wp2_with fail
      refine (pick_dr _ N S0.D (by omega) (by unfold I64; omega)).mono ?_
      rintro e w4 ⟨r, rfl, hr, D4, E4⟩
      have S1 := S0.step hg0 E4
      have S2 := S1.setX hg0 (z := r) (by unfold I64; omega)
      have fz := S1.B5.free 1
      have cz := S1.B5.cell (j := 1) rfl
      clear S0 D4 E4 c50
      go_upto_region 6 with fail
      clear fz cz S1
      generalize w4.setCell ⟨b5, 1, none⟩ (.int .i64 r) = w5 at S2 ⊢
      have P5 := S2.D.sl HP0.out hp
      have c0 := S2.B3.cell (j := 0) rfl; have c1 := S2.B3.cell (j := 1) rfl; have c3 := S2.B3.cell (j := 3) rfl
      have hg5 := S2.D.cur.lt
      go_wp2_with fail
      refine (l2Kids_any _ _ _ _ _ _ _ x _ P5 T3.out (by omega) hxn).mono ?_
      rintro e w6 ⟨a9, n9, c9, rfl, o9, f, hn9⟩
      have S3 := S2.fr f
      clear S2 f c0 c1 c3 P5
      by_cases h9 : 0 < n9
      · have v9 : (0 : Int) < (n9 : Int) := by omega
        go_wp2_with fail
        refine (one_dr _ 8 S3.D (by omega) (by unfold I64; omega)).mono ?_
        rintro e w7 ⟨bb, rfl, D7, E7⟩
        have S4 := S3.step hg0 E7
        have o10 := E7.own o9 hg5
        clear S3 D7 E7 o9
        cases bb
        · go_wp2_with fail
          refine (pick_dr _ n9 S4.D (by omega) (by unfold I64; omega)).mono ?_
          rintro e w8 ⟨y, rfl, hy, D8, E8⟩
          have S5 := S4.step hg0 E8
          have o11 := E8.own o10 hg5
          clear S4 D8 E8 o10
          obtain ⟨y, rfl⟩ := Int.eq_ofNat_of_zero_le hy.1
          have hyl : y < n9 := by omega
          have vy0 : (0 : Int) ≤ (y : Int) := by omega
          have vy : (y : Int) < (n9 : Int) := by omega
          clear hy
          obtain ⟨g9, rfl, _, _, qk, _⟩ := o11.op h9
          replace qk := qk y hyl
          have hI := o11.sl.rngAt y
          generalize nth (kidsTo P x n) y = z at qk hI
          have S6 := S5.setX hg0 (z := z) hI
          have fz := S5.B5.free 1
          have cz := S5.B5.cell (j := 1) rfl
          clear S5 o11
          go_wp2_with fail
          go_meet
          exact ⟨_, _, S6.mono (by omega)⟩
        · go_wp2_with fail
          go_meet
          exact ⟨_, _, S4.mono (by omega)⟩
      · have v9 : ¬ (0 : Int) < (n9 : Int) := by omega
        go_wp2_with fail
        go_meet
        exact ⟨_, _, S3.mono (by omega)⟩
    by_cases h2 : k = 2
    · subst h2
      go_wp2_with fail
      refine (pick_dr _ 9 S0.D (by omega) (by unfold I64; omega)).mono ?_
      rintro e w4 ⟨r, rfl, hr, D4, E4⟩
      have S1 := S0.step hg0 E4
      have S2 := S1.setX hg0 (z := r - 4) (by unfold I64; omega)
      have fz := S1.B5.free 1
      have cz := S1.B5.cell (j := 1) rfl
      clear S0 D4 E4 c50
      go_wp2_with fail
      go_meet
      exact ⟨_, _, S2.mono (by omega)⟩
    by_cases h3 : k = 3
    · subst h3
      go_wp2_with fail
      refine (pick_dr _ 41 S0.D (by omega) (by unfold I64; omega)).mono ?_
      rintro e w4 ⟨r, rfl, hr, D4, E4⟩
      have S1 := S0.step hg0 E4
      have S2 := S1.setX hg0 (z := r - 20) (by unfold I64; omega)
      have fz := S1.B5.free 1
      have cz := S1.B5.cell (j := 1) rfl
      clear S0 D4 E4 c50
      go_wp2_with fail
      go_meet
      exact ⟨_, _, S2.mono (by omega)⟩
    by_cases h5 : k = 5
    · subst h5
      go_wp2_with fail
      refine (pick_dr _ N S0.D (by omega) (by unfold I64; omega)).mono ?_
      rintro e w4 ⟨r, rfl, hr, D4, E4⟩
      have S1 := S0.step hg0 E4
      have S2 := S1.setX hg0 (z := r) (by unfold I64; omega)
      have fz := S1.B5.free 1
      have cz := S1.B5.cell (j := 1) rfl
      clear S0 D4 E4 c50
      go_upto_region 15 with fail
      clear fz cz S1
      generalize w4.setCell ⟨b5, 1, none⟩ (.int .i64 r) = w5 at S2 ⊢
      go_wp2_with fail
      refine (pick_dr _ 31 S2.D (by omega) (by unfold I64; omega)).mono ?_
      rintro e w6 ⟨r2, rfl, hr2, D6, E6⟩
      have S3 := S2.step hg0 E6
      have S4 := S3.setY hg0 (z := r2 - 15) (by unfold I64; omega)
      have fz := S3.B5.free 2
      have cz := S3.B5.cell (j := 2) rfl
      clear S2 D6 E6
      go_wp2_with fail
      go_meet
      exact ⟨_, _, S4.mono (by omega)⟩
    by_cases h6 : k = 6
    · subst h6
      go_wp2_with fail
      refine (pick_dr _ N S0.D (by omega) (by unfold I64; omega)).mono ?_
      rintro e w4 ⟨r, rfl, hr, D4, E4⟩
      have S1 := S0.step hg0 E4
      have S2 := S1.setX hg0 (z := r) (by unfold I64; omega)
      have fz := S1.B5.free 1
      have cz := S1.B5.cell (j := 1) rfl
      clear S0 D4 E4 c50
      go_upto_region 18 with fail
      clear fz cz S1
      generalize w4.setCell ⟨b5, 1, none⟩ (.int .i64 r) = w5 at S2 ⊢
      go_wp2_with fail
      refine (pick_dr _ 6 S2.D (by omega) (by unfold I64; omega)).mono ?_
      rintro e w6 ⟨r2, rfl, hr2, D6, E6⟩
      have S3 := S2.step hg0 E6
      have S4 := S3.setY hg0 (z := 1 + r2) (by unfold I64; omega)
      have fz := S3.B5.free 2
      have cz := S3.B5.cell (j := 2) rfl
      clear S2 D6 E6
      go_wp2_with fail
      go_meet
      exact ⟨_, _, S4.mono (by omega)⟩
    have b1 : (k == 1) = false := by simp [h1]
    have b2 : (k == 2) = false := by simp [h2]
    have b3 : (k == 3) = false := by simp [h3]
    have b5x : (k == 5) = false := by simp [h5]
    have b6 : (k == 6) = false := by simp [h6]
    go_wp2_with fail
    go_meet
    exact ⟨_, _, S0.mono (by omega)⟩
  case rest =>
    obtain ⟨y, z, S1⟩ := hcut
    obtain ⟨w4, rfl⟩ : ∃ wz : World, wz = wc := ⟨_, rfl⟩
    clear S0 c50
    go_wp2_with fail
    refine (pick_dr _ 32 S1.D (by omega) (by unfold I64; omega)).mono ?_
    rintro e w5 ⟨r, rfl, hr, D5, E5⟩
    have S2 := S1.step hg0 E5
    clear S1 D5 E5
    go_upto_block 1 with fail
    go_cut [] from 80 to 97 (fun wx => ∃ k y z : Int, DlI w g (A + 30) b5 #[.slice p n c, .slice q m d, .slice a l b, .int .i64 (x : Int), .int .i64 s, .int .i64 u, .int .i64 v] k y z wx)
    case first =>
      by_cases h1 : r = 0
      · subst h1
        go_wp2_with fail
        refine (among_dr _ (-1000) 4611686018427387904 [-1, 24, 999, 1000, -1000, 4611686018427387904] _ _ _ _ S2.D (by omega) rfl rfl (by decide) (by decide) (by first | rfl | simp) (by decide)).mono ?_
        rintro e w6 ⟨r, rfl, hr, D6, E6⟩
        have S3 := S2.step hg0 E6
        have S4 := S3.setX hg0 (z := r) (by unfold I64; omega)
        have fz := S3.B5.free 1
        have cz := S3.B5.cell (j := 1) rfl
        clear S2 D6 E6
        go_wp2_with fail
        go_meet
        exact ⟨_, _, _, S4.mono (by omega)⟩
      by_cases h2 : r = 1
      · subst h2
        go_wp2_with fail
        refine (among_dr _ (-1000) 4611686018427387904 [-1, 1, 21, 999, 1000] _ _ _ _ S2.D (by omega) rfl rfl (by decide) (by decide) (by first | rfl | simp) (by decide)).mono ?_
        rintro e w6 ⟨r, rfl, hr, D6, E6⟩
        have S3 := S2.step hg0 E6
        have S4 := S3.setY hg0 (z := r) (by unfold I64; omega)
        have fz := S3.B5.free 2
        have cz := S3.B5.cell (j := 2) rfl
        clear S2 D6 E6
        go_wp2_with fail
        go_meet
        exact ⟨_, _, _, S4.mono (by omega)⟩
      by_cases h3 : r = 2
      · subst h3
        go_wp2_with fail
        refine (among_dr _ (-1000) 1000 [0, 7, -1] _ _ _ _ S2.D (by omega) rfl rfl (by decide) (by decide) (by first | rfl | simp) (by decide)).mono ?_
        rintro e w6 ⟨r, rfl, hr, D6, E6⟩
        have S3 := S2.step hg0 E6
        have S4 := S3.setK hg0 (z := r) (by unfold I64; omega)
        have fz := S3.B5.free 0
        have cz := S3.B5.cell (j := 0) rfl
        clear S2 D6 E6
        go_wp2_with fail
        go_meet
        exact ⟨_, _, _, S4.mono (by omega)⟩
      have b1 : (r == 0) = false := by simp [h1]
      have b2 : (r == 1) = false := by simp [h2]
      have b3 : (r == 2) = false := by simp [h3]
      go_wp2_with fail
      go_meet
      exact ⟨_, _, _, S2.mono (by omega)⟩
    case rest =>
      obtain ⟨k2, y2, z2, S3⟩ := hcut
      obtain ⟨w6, rfl⟩ : ∃ wz : World, wz = wc := ⟨_, rfl⟩
      clear S2
      have c0 := S3.B5.cell (j := 0) rfl; have c1 := S3.B5.cell (j := 1) rfl; have c2 := S3.B5.cell (j := 2) rfl
      have f0 := S3.B4.free 0; have f1 := S3.B4.free 1; have f2 := S3.B4.free 2
      have i0 := S3.B4.cell (j := 0) rfl; have i1 := S3.B4.cell (j := 1) rfl; have i2 := S3.B4.cell (j := 2) rfl
      have FIN := Lib.hid (S3.done hg0)
      clear S3
      go_wp2
      refine bodyPost_ret (results_D Try.results104 _ _ (w.heap.size + 1) _ _ _ rfl (FIN.out.1.cell rfl) (FIN.out.1.cell rfl) (FIN.out.1.cell rfl)) rfl ?_
      have D9 := FIN.out.2.1.mono (show A + 30 ≤ A + 50 by omega)
      exact ⟨_, _, _, rfl, FIN.out.2.2, h.trans D9, D9⟩
end Go.Proofs.Ytojipjjfndgbhaa
/- Structs that came in: their fields as lists and numbers. -/
set_option linter.unusedVariables false
namespace Go.Proofs.Ytojipjjfndgbhaa
open Go.ChangeShapes Go.WideShapes Go.ChangeAt Go.RowKit Go.Deep

section
variable {H : Type} {enc : TypeId × Value → H} {w : World} {base : Nat} {held : Bool}
theorem sl_of_trod {n : Nat} {c : Value} {y : DataW H × List MemPlace} (h : DataW.trod enc Try.prog w base (fun _ => true) held n 22 [c] = some y) : ∃ a len cap zs, c = .slice a len cap ∧ SL w a len cap zs := by
  rcases open_ints Try.underlying22 Try.underlying3 (by kernel_rfl) h with ⟨hcs, _⟩ | ⟨x, l, cp, zs, hcs, _, hl, hm, hz, _, hcell, hwz⟩
  · simp only [List.cons.injEq, and_true] at hcs
    exact ⟨none, 0, 0, [], hcs, SL.of_nil _⟩
  · simp only [List.cons.injEq, and_true] at hcs
    exact ⟨some x, l, cp, _, hcs, SL.of_open hl hm (by simpa using hz) hcell hwz⟩
theorem int_of_trod {n : Nat} {c : Value} {y : DataW H × List MemPlace} (h : DataW.trod enc Try.prog w base (fun _ => true) held n 3 [c] = some y) : ∃ k, c = .int .i64 k ∧ I64 k := by
  obtain ⟨k, hc, _, hw⟩ := DataW.trod_int Try.underlying3 h
  simp only [List.cons.injEq, and_true] at hc
  exact ⟨k, hc, I64.of_wf hw⟩
theorem some_of_len {α : Type} {xs : List α} {i n : Nat} (h : xs.length = n) (hi : i < n) : ∃ y, xs[i]? = some y := ⟨xs[i], List.getElem?_eq_getElem (by omega)⟩

set_option maxRecDepth 100000 in
theorem tree_of_trod {n : Nat} {c0 c1 : Value} {y : DataW H × List MemPlace} (h : DataW.trod enc Try.prog w base (fun _ => true) held n 24 [c0, c1] = some y) :
    ∃ p l c q m d P W, c0 = .slice p l c ∧ c1 = .slice q m d ∧ SL w p l c P ∧ SL w q m d W := by
  obtain ⟨xs, k, _, _, _, hlen, hg⟩ := DataW.trod_struct Try.underlying24 h
  obtain ⟨y0, hy0⟩ := some_of_len (i := 0) hlen (by decide)
  obtain ⟨y1, hy1⟩ := some_of_len (i := 1) hlen (by decide)
  have e0 : Try.prog.cellsOf 22 = 1 := by kernel_rfl
  have g0 : DataW.trod enc Try.prog w base (fun _ => true) held k 22 (([c0, c1].drop 0).take (Try.prog.cellsOf 22)) = xs[0]? := hg 0 _ rfl
  have g1 : DataW.trod enc Try.prog w base (fun _ => true) held k 22 (([c0, c1].drop 1).take (Try.prog.cellsOf 22)) = xs[1]? := hg 1 _ rfl
  rw [e0, hy0] at g0
  rw [e0, hy1] at g1
  obtain ⟨p, l, c, P, rfl, hP⟩ := sl_of_trod g0
  obtain ⟨q, m, d, W, rfl, hW⟩ := sl_of_trod g1
  exact ⟨p, l, c, q, m, d, P, W, rfl, rfl, hP, hW⟩

set_option maxRecDepth 100000 in
theorem open_tree {r : Reach} {b0 : Nat} {v : Value} {d : DataW H} {pl : List MemPlace} (hv : Value.okWide Try.prog w r b0 24 v) (h : DataW.Trod enc Try.prog w base (fun _ => true) held 24 v d pl) :
    ∃ p l c q m d P W, v = .agg #[.slice p l c, .slice q m d] ∧ SL w p l c P ∧ SL w q m d W := by
  obtain ⟨cs, rfl, hsz⟩ := okWide_struct Try.underlying24 hv
  have e : Try.prog.cellsOf 24 = 2 := by kernel_rfl
  rw [e] at hsz
  obtain ⟨l⟩ := cs
  match l, hsz with
  | [c0, c1], _ =>
    obtain ⟨fuel, hf⟩ := h
    obtain ⟨p, l, c, q, m, d, P, W, rfl, rfl, hP, hW⟩ := tree_of_trod (by simpa [Value.cells] using hf)
    exact ⟨p, l, c, q, m, d, P, W, rfl, hP, hW⟩

set_option maxRecDepth 100000 in
theorem open_house {r : Reach} {b0 : Nat} {v : Value} {d : DataW H} {pl : List MemPlace} (hv : Value.okWide Try.prog w r b0 26 v) (h : DataW.Trod enc Try.prog w base (fun _ => true) held 26 v d pl) :
    ∃ p l c P q m d W a k b X x s u z, v = .agg #[.slice p l c, .slice q m d, .slice a k b, .int .i64 x, .int .i64 s, .int .i64 u, .int .i64 z] ∧ SL w p l c P ∧ SL w q m d W ∧ SL w a k b X ∧ I64 x ∧ I64 s ∧ I64 u ∧ I64 z := by
  obtain ⟨cs, rfl, hsz⟩ := okWide_struct Try.underlying26 hv
  have e : Try.prog.cellsOf 26 = 7 := by kernel_rfl
  rw [e] at hsz
  obtain ⟨l⟩ := cs
  match l, hsz with
  | [c0, c1, c2, c3, c4, c5, c6], _ =>
    obtain ⟨fuel, hf⟩ := h
    obtain ⟨xs, k, _, _, _, hlen, hg⟩ := DataW.trod_struct Try.underlying26 hf
    obtain ⟨y0, hy0⟩ := some_of_len (i := 0) hlen (by decide)
    obtain ⟨y1, hy1⟩ := some_of_len (i := 1) hlen (by decide)
    obtain ⟨y2, hy2⟩ := some_of_len (i := 2) hlen (by decide)
    obtain ⟨y3, hy3⟩ := some_of_len (i := 3) hlen (by decide)
    obtain ⟨y4, hy4⟩ := some_of_len (i := 4) hlen (by decide)
    obtain ⟨y5, hy5⟩ := some_of_len (i := 5) hlen (by decide)
    have e0 : Try.prog.cellsOf 22 = 1 := by kernel_rfl
    have e1 : Try.prog.cellsOf 3 = 1 := by kernel_rfl
    have e2 : Try.prog.cellsOf 24 = 2 := by kernel_rfl
    have g0 : DataW.trod enc Try.prog w base (fun _ => true) held k 24 (([c0, c1, c2, c3, c4, c5, c6].drop 0).take (Try.prog.cellsOf 24)) = xs[0]? := hg 0 _ rfl
    have g1 : DataW.trod enc Try.prog w base (fun _ => true) held k 22 (([c0, c1, c2, c3, c4, c5, c6].drop 2).take (Try.prog.cellsOf 22)) = xs[1]? := hg 1 _ rfl
    have g2 : DataW.trod enc Try.prog w base (fun _ => true) held k 3 (([c0, c1, c2, c3, c4, c5, c6].drop 3).take (Try.prog.cellsOf 3)) = xs[2]? := hg 2 _ rfl
    have g3 : DataW.trod enc Try.prog w base (fun _ => true) held k 3 (([c0, c1, c2, c3, c4, c5, c6].drop 4).take (Try.prog.cellsOf 3)) = xs[3]? := hg 3 _ rfl
    have g4 : DataW.trod enc Try.prog w base (fun _ => true) held k 3 (([c0, c1, c2, c3, c4, c5, c6].drop 5).take (Try.prog.cellsOf 3)) = xs[4]? := hg 4 _ rfl
    have g5 : DataW.trod enc Try.prog w base (fun _ => true) held k 3 (([c0, c1, c2, c3, c4, c5, c6].drop 6).take (Try.prog.cellsOf 3)) = xs[5]? := hg 5 _ rfl
    rw [e2, hy0] at g0
    rw [e0, hy1] at g1
    rw [e1, hy2] at g2
    rw [e1, hy3] at g3
    rw [e1, hy4] at g4
    rw [e1, hy5] at g5
    obtain ⟨p, l, c, q, m, d, P, W, rfl, rfl, hP, hW⟩ := tree_of_trod g0
    obtain ⟨a, k, b, X, rfl, hX⟩ := sl_of_trod g1
    obtain ⟨x, rfl, ix⟩ := int_of_trod g2
    obtain ⟨s, rfl, is⟩ := int_of_trod g3
    obtain ⟨u, rfl, iu⟩ := int_of_trod g4
    obtain ⟨z, rfl, iz⟩ := int_of_trod g5
    exact ⟨p, l, c, P, q, m, d, W, a, k, b, X, x, s, u, z, rfl, hP, hW, hX, ix, is, iu, iz⟩

set_option maxRecDepth 100000 in
theorem open_deal {r : Reach} {b0 : Nat} {v : Value} {d : DataW H} {pl : List MemPlace} (hv : Value.okWide Try.prog w r b0 56 v) (h : DataW.Trod enc Try.prog w base (fun _ => true) held 56 v d pl) :
    ∃ x s u, v = .agg #[.int .i64 x, .int .i64 s, .int .i64 u] ∧ I64 x ∧ I64 s ∧ I64 u := by
  obtain ⟨cs, rfl, hsz⟩ := okWide_struct Try.underlying56 hv
  have e : Try.prog.cellsOf 56 = 3 := by kernel_rfl
  rw [e] at hsz
  obtain ⟨l⟩ := cs
  match l, hsz with
  | [c0, c1, c2], _ =>
    obtain ⟨fuel, hf⟩ := h
    obtain ⟨xs, k, _, _, _, hlen, hg⟩ := DataW.trod_struct Try.underlying56 hf
    obtain ⟨y0, hy0⟩ := some_of_len (i := 0) hlen (by decide)
    obtain ⟨y1, hy1⟩ := some_of_len (i := 1) hlen (by decide)
    obtain ⟨y2, hy2⟩ := some_of_len (i := 2) hlen (by decide)
    have e1 : Try.prog.cellsOf 3 = 1 := by kernel_rfl
    have g0 : DataW.trod enc Try.prog w base (fun _ => true) held k 3 (([c0, c1, c2].drop 0).take (Try.prog.cellsOf 3)) = xs[0]? := hg 0 _ rfl
    have g1 : DataW.trod enc Try.prog w base (fun _ => true) held k 3 (([c0, c1, c2].drop 1).take (Try.prog.cellsOf 3)) = xs[1]? := hg 1 _ rfl
    have g2 : DataW.trod enc Try.prog w base (fun _ => true) held k 3 (([c0, c1, c2].drop 2).take (Try.prog.cellsOf 3)) = xs[2]? := hg 2 _ rfl
    rw [e1, hy0] at g0
    rw [e1, hy1] at g1
    rw [e1, hy2] at g2
    obtain ⟨x, rfl, ix⟩ := int_of_trod g0
    obtain ⟨s, rfl, is⟩ := int_of_trod g1
    obtain ⟨u, rfl, iu⟩ := int_of_trod g2
    exact ⟨x, s, u, rfl, ix, is, iu⟩

end
end Go.Proofs.Ytojipjjfndgbhaa
/- Slices of deals. -/
set_option linter.unusedVariables false
namespace Go.Proofs.Ytojipjjfndgbhaa
open Go.ChangeShapes Go.WideShapes Go.ChangeAt Go.RowKit

abbrev D3 := Int × Int × Int
def dcells (xs : List D3) : List Value := xs.flatMap fun z => [.int .i64 z.1, .int .i64 z.2.1, .int .i64 z.2.2]
def nthD (xs : List D3) (i : Nat) : D3 := xs[i]?.getD (0, 0, 0)
def I64D (z : D3) : Prop := I64 z.1 ∧ I64 z.2.1 ∧ I64 z.2.2
theorem dcells_len (xs : List D3) : (dcells xs).length = xs.length * 3 := by
  induction xs with
  | nil => rfl
  | cons x r ih => simp only [dcells, List.flatMap_cons, List.length_append, List.length_cons, List.length_nil] at ih ⊢; omega
theorem dcells_at (xs : List D3) (i : Nat) (h : i < xs.length) : (dcells xs)[i * 3]? = some (.int .i64 (nthD xs i).1) ∧ (dcells xs)[i * 3 + 1]? = some (.int .i64 (nthD xs i).2.1) ∧ (dcells xs)[i * 3 + 2]? = some (.int .i64 (nthD xs i).2.2) := by
  induction xs generalizing i with
  | nil => simp at h
  | cons x r ih =>
    cases i with
    | zero => simp [dcells, nthD]
    | succ i =>
      have h2 := ih i (by simpa using h)
      have e1 : (i + 1) * 3 = i * 3 + 3 := by omega
      have e2 : i * 3 + 3 + 1 = i * 3 + 1 + 3 := by omega
      have e3 : i * 3 + 3 + 2 = i * 3 + 2 + 3 := by omega
      have h3 : nthD (x :: r) (i + 1) = nthD r i := by simp [nthD]
      rw [e1, e2, e3, h3]
      simpa [dcells] using h2
theorem dcells_set (xs : List D3) (i : Nat) (z : D3) (h : i < xs.length) : (((dcells xs).set (i * 3) (.int .i64 z.1)).set (i * 3 + 1) (.int .i64 z.2.1)).set (i * 3 + 2) (.int .i64 z.2.2) = dcells (xs.set i z) := by
  induction xs generalizing i with
  | nil => simp at h
  | cons x r ih =>
    cases i with
    | zero => simp [dcells]
    | succ i =>
      have h2 := ih i (by simpa using h)
      have e1 : (i + 1) * 3 = i * 3 + 3 := by omega
      have e2 : i * 3 + 3 + 1 = i * 3 + 1 + 3 := by omega
      have e3 : i * 3 + 3 + 2 = i * 3 + 2 + 3 := by omega
      rw [e1, e2, e3]
      simpa [dcells] using h2
/-- A slice of deals reads as a list. -/
structure SD (w : World) (a : Option Addr) (n cap : Nat) (xs : List D3) : Prop where
  len : xs.length = n
  le : n ≤ cap
  mx : cap ≤ 9223372036854775807
  rng : ∀ x ∈ xs, I64D x
  cells : n = 0 ∨ ∃ b off, a = some ⟨b, off, none⟩ ∧ ∀ i, i < n → w.cell? ⟨b, off + i * 3, none⟩ = some (.int .i64 (nthD xs i).1) ∧ w.cell? ⟨b, off + i * 3 + 1, none⟩ = some (.int .i64 (nthD xs i).2.1) ∧ w.cell? ⟨b, off + i * 3 + 2, none⟩ = some (.int .i64 (nthD xs i).2.2)
theorem SD.fr {w w' : World} {a : Option Addr} {n cap : Nat} {xs : List D3} (h : SD w a n cap xs) (f : Fr w w') : SD w' a n cap xs := by
  obtain ⟨h1, h2, h3, h4, h5⟩ := h
  refine ⟨h1, h2, h3, h4, ?_⟩
  rcases h5 with h5 | ⟨b, off, rfl, hc⟩
  · exact .inl h5
  · exact .inr ⟨b, off, rfl, fun i hi => ⟨f.keep (hc i hi).1, f.keep (hc i hi).2.1, f.keep (hc i hi).2.2⟩⟩
theorem SD.of_nil (w : World) : SD w none 0 0 [] := ⟨rfl, Nat.le_refl _, by omega, by simp, .inl rfl⟩
theorem nthD_mem {xs : List D3} {i : Nat} (h : i < xs.length) : nthD xs i ∈ xs := by simp [nthD, h]
/-- A slice of deals of the call's own. -/
structure OwnD (B : Nat) (w : World) (a : Option Addr) (n cap : Nat) (xs : List D3) : Prop where
  row : w.ownsRow B 58 3 (.slice a n cap) n (dcells xs)
  rng : ∀ x ∈ xs, I64D x
section
variable {B : Nat} {w w' : World} {a : Option Addr} {n cap : Nat} {xs : List D3}
theorem OwnD.len (h : OwnD B w a n cap xs) : xs.length = n := by have h1 := h.row.1; rw [dcells_len] at h1; omega
theorem OwnD.blk (h : OwnD B w a n cap xs) : ∀ k, blkOf a = some k → B ≤ k ∧ k < w.heap.size := by
  intro k hk
  refine h.row.lt k ?_
  cases a with
  | none => simp [blkOf] at hk
  | some x => simpa [blkOf, Value.ownBlock] using hk
theorem OwnD.op (h : OwnD B w a n cap xs) (hn : 0 < n) : ∃ g, a = some ⟨g, 0, none⟩ ∧ B ≤ g ∧ g < w.heap.size ∧ (∀ i, i < n → w.cell? ⟨g, i * 3, none⟩ = some (.int .i64 (nthD xs i).1) ∧ w.cell? ⟨g, i * 3 + 1, none⟩ = some (.int .i64 (nthD xs i).2.1) ∧ w.cell? ⟨g, i * 3 + 2, none⟩ = some (.int .i64 (nthD xs i).2.2)) ∧ ∀ i, w.frozen? ⟨g, i, none⟩ = false := by
  have hl := h.len
  have hb := h.blk
  rcases h.row.2 with ⟨h2, h3⟩ | ⟨g, cap', cur, h2, h3, h4, h5, h6, h7, h8⟩
  · omega
  · simp only [Value.slice.injEq] at h2
    obtain ⟨rfl, _, rfl⟩ := h2
    refine ⟨g, rfl, h3, (hb g rfl).2, fun i hi => ?_, fun i => by unfold World.frozen?; rw [h4]; rfl⟩
    obtain ⟨p1, p2, p3⟩ := dcells_at xs i (by omega)
    have e1 := h.row.cells (g := g) (by simp [Value.ownBlock]) (i * 3) _ p1
    have e2 := h.row.cells (g := g) (by simp [Value.ownBlock]) (i * 3 + 1) _ p2
    have e3 := h.row.cells (g := g) (by simp [Value.ownBlock]) (i * 3 + 2) _ p3
    rw [addr_add, Nat.zero_add] at e1 e2 e3
    exact ⟨e1, e2, e3⟩
theorem OwnD.sd (h : OwnD B w a n cap xs) : SD w a n cap xs := by
  have hl := h.len
  have hcap : n ≤ cap ∧ cap ≤ 9223372036854775807 := by
    rcases h.row.2 with ⟨h2, h3⟩ | ⟨g, cap', cur, h2, h3, h4, h5, h6, h7, h8⟩
    · simp only [Value.slice.injEq] at h2; omega
    · simp only [Value.slice.injEq] at h2; unfold maxLen at h6; omega
  refine ⟨hl, hcap.1, hcap.2, h.rng, ?_⟩
  rcases Nat.eq_zero_or_pos n with h0 | h0
  · exact .inl h0
  · obtain ⟨g, rfl, _, _, hc, _⟩ := h.op h0
    exact .inr ⟨g, 0, rfl, fun i hi => by simpa using hc i hi⟩
theorem OwnD.grown {row : Option Nat} (h : OwnD B w a n cap xs) (g : w.grownBy w' row) (hne : blkOf a = none ∨ blkOf a ≠ row) : OwnD B w' a n cap xs :=
  ⟨h.row.kept g (by cases a with | none => simp [Value.ownBlock] | some x => simpa [blkOf, Value.ownBlock] using hne), h.rng⟩
theorem OwnD.fr (h : OwnD B w a n cap xs) (f : Fr w w') : OwnD B w' a n cap xs := by
  refine ⟨⟨h.row.1, ?_⟩, h.rng⟩
  rcases h.row.2 with h2 | ⟨g, cap', cur, h2, h3, h4, h5⟩
  · exact .inl h2
  · refine .inr ⟨g, cap', cur, h2, h3, ?_, h5⟩
    rw [f.block g (Array.getElem?_eq_some_iff.1 h4).1]; exact h4
theorem OwnD.mono {B' : Nat} (h : OwnD B w a n cap xs) (hB : B' ≤ B) : OwnD B' w a n cap xs := by
  refine ⟨⟨h.row.1, ?_⟩, h.rng⟩
  rcases h.row.2 with h2 | ⟨g, cap', cur, h2, h3, h4, h5⟩
  · exact .inl h2
  · exact .inr ⟨g, cap', cur, h2, Nat.le_trans hB h3, h4, h5⟩
theorem OwnD.set {g : Nat} (h : OwnD B w (some ⟨g, 0, none⟩) n cap xs) {i : Nat} (hi : i < n) (z : D3) (hz : I64D z) :
    OwnD B (((w.setCell ⟨g, i * 3, none⟩ (.int .i64 z.1)).setCell ⟨g, i * 3 + 1, none⟩ (.int .i64 z.2.1)).setCell ⟨g, i * 3 + 2, none⟩ (.int .i64 z.2.2)) (some ⟨g, 0, none⟩) n cap (xs.set i z) := by
  have hl := h.len
  rcases h.row.2 with ⟨h2, _⟩ | ⟨g', cap', cur, h2, h3, h4, h5, h6, h7, h8⟩
  · cases h2
  · have h2' := h2
    simp only [Value.slice.injEq, Option.some.injEq, Addr.mk.injEq, and_true, true_and] at h2'
    obtain ⟨rfl, rfl⟩ := h2'
    refine ⟨⟨by rw [dcells_len, List.length_set, hl], .inr ⟨g, cap, ((cur.setIfInBounds (i * 3) (.int .i64 z.1)).setIfInBounds (i * 3 + 1) (.int .i64 z.2.1)).setIfInBounds (i * 3 + 2) (.int .i64 z.2.2), rfl, h3, ?_, h5, h6, by simpa using h7, ?_⟩⟩, ?_⟩
    · simp [World.setCell, Array.getElem?_modify, h4]
    · rw [Array.toList_setIfInBounds, Array.toList_setIfInBounds, Array.toList_setIfInBounds, ← dcells_set _ _ _ (by omega), ← h8, List.take_set, List.take_set, List.take_set]
    · intro x hx
      rcases List.mem_or_eq_of_mem_set hx with hx | rfl
      · exact h.rng x hx
      · exact hz
end
theorem infoDeal : (Try.prog.info? 58).map (fun i => (i.zero, i.size, i.bytes)) = some (some (.agg #[.int .i64 0, .int .i64 0, .int .i64 0]), 3, 24) := by kernel_rfl
theorem made3 (z : Value) (n : Nat) : (madeCells #[z, z, z] n).toList = List.replicate n z := by
  apply List.ext_getElem?
  intro j
  by_cases hj : j < n
  · have h3 : j % 3 = 0 ∨ j % 3 = 1 ∨ j % 3 = 2 := by omega
    rcases h3 with h | h | h <;> simp [madeCells, hj, h]
  · simp [madeCells, hj]
theorem dcells_zero (n : Nat) : dcells (List.replicate n (0, 0, 0)) = List.replicate (n * 3) (.int .i64 0) := by
  induction n with
  | zero => rfl
  | succ n ih =>
    have e : (n + 1) * 3 = n * 3 + 1 + 1 + 1 := by omega
    rw [List.replicate_succ, e, List.replicate_succ, List.replicate_succ, List.replicate_succ, ← ih]
    rfl
/-- A new slice of deals. -/
def RetD (xs : List D3) (w : World) (e : Ending) (w' : World) : Prop := ∃ a n cap, e = .returned (.slice a n cap) ∧ OwnD w.heap.size w' a n cap xs ∧ Fr w w' ∧ n ≤ 1048576
theorem copyD_step (xs : List D3) (n k : Nat) (hn : xs.length = n) (hk : k < n) : (xs.take k ++ List.replicate (n - k) ((0, 0, 0) : D3)).set k (nthD xs k) = xs.take (k + 1) ++ List.replicate (n - (k + 1)) (0, 0, 0) := by
  have hl : (xs.take k).length = k := by rw [List.length_take]; omega
  rw [List.set_append_right _ _ (by omega), hl, Nat.sub_self, show n - k = (n - (k + 1)) + 1 by omega, List.replicate_succ, List.set_cons_zero, List.take_succ_eq_append_getElem (by omega), List.append_assoc]
  congr 1
  have : k < xs.length := by omega
  simp [nthD, this]

theorem szDealS_any (w : World) (a : Option Addr) (n c : Nat) (l : Int) (hn : n ≤ 9223372036854775807) (h0 : 0 ≤ l) (h1 : l ≤ 1048576) :
    Calls Try.prog 45 #[.slice a n c, .int .i64 l] w fun e w' => e = .returned (.int .i64 (szI n l)) ∧ w = w' := by
  by_cases h : l - (n : Int) < 0
  · have HV : Hid (szI n l = -1) := Lib.hid (by rw [szI, if_pos h])
    go_enter Try.func45, Try.ntmps45
    go_wp2
    go_ret
    exact ⟨by rw [HV.out]; rfl, rfl⟩
  · have HV : Hid (szI n l = l - (n : Int)) := Lib.hid (by rw [szI, if_neg h])
    go_enter Try.func45, Try.ntmps45
    go_wp2
    go_ret
    exact ⟨by rw [HV.out]; rfl, rfl⟩

set_option maxRecDepth 100000 in
theorem toDealS_any (w : World) (a : Option Addr) (n cap : Nat) (xs : List D3) (h : SD w a n cap xs) (hm : n ≤ 1048576) :
    Calls Try.prog 47 #[.slice a n cap] w (RetD xs w) := by
  have H := Lib.hid h
  have Hlen := Lib.hid h.len
  have hrng := Lib.hid h.rng
  clear h
  obtain ⟨i0, hi, hz0, hz1, hz2⟩ := info_parts infoDeal
  obtain ⟨wm, hmk, hown, hg⟩ := run_make_full (P := Try.prog) w w.heap.size 65 58 i0 _ 3 Try.underlying65 hi hz0 hz1 .i64 .i64 n (by rw [hz2]; omega) (by unfold maxLen; omega) (Nat.le_refl _)
  have hfr : Fr w wm := (Fr.refl w).grown hg (fun k e => by cases e)
  have hnew : OwnD w.heap.size wm (some ⟨w.heap.size, 0, none⟩) n n (xs.take 0 ++ List.replicate (n - 0) (0, 0, 0)) := by
    refine ⟨?_, fun x hx => ?_⟩
    · rw [List.take_zero, List.nil_append, Nat.sub_zero, dcells_zero, ← made3]; exact hown
    · simp at hx; obtain ⟨_, rfl⟩ := hx; simp [I64D, I64]
  clear hown hg
  go_enter Try.func47, Try.ntmps47
  go_wp2
  clear hmk
  go_loopw [4] (fun i wr => ∃ k : Nat, k ≤ n ∧ i = .int .i64 k ∧ OwnD w.heap.size wr (some ⟨w.heap.size, 0, none⟩) n n (xs.take k ++ List.replicate (n - k) (0, 0, 0)) ∧ Fr w wr) (fun i _ => n - (intOf i).toNat)
  case atStart => exact ⟨0, Nat.zero_le _, rfl, hnew, hfr⟩
  case round =>
    clear hnew hfr
    obtain ⟨k, hk, rfl, ho, hf⟩ := hrel
    by_cases hlt : k < n
    · obtain ⟨b, off, rfl, hc⟩ := (H.out.fr hf).cells.resolve_left (by omega)
      obtain ⟨c0, c1, c2⟩ := hc k hlt
      have hI := hrng.out _ (nthD_mem (i := k) (by rw [Hlen.out]; exact hlt))
      have hst := Lib.hid (copyD_step xs n k Hlen.out hlt)
      have HO := Lib.hid ho
      have i0 : (0 : Int) ≤ (k : Int) := by omega
      have i1 : (k : Int) < (n : Int) := by omega
      clear hc ho
      generalize nthD xs k = z at c0 c1 c2 hI hst
      obtain ⟨z0, z1, z2⟩ := z
      dsimp only at c0 c1 c2
      go_wp2_with fail
      refine (toDeal_any _ z0 z1 z2).mono ?_
      rintro e w1 ⟨rfl, f1⟩
      have O1 := Lib.hid (HO.out.fr f1)
      obtain ⟨g, hg, hB, hlt2, hcell, hfro⟩ := O1.out.op (by omega)
      obtain ⟨rfl⟩ : w.heap.size = g := by simpa using hg
      obtain ⟨d0, d1, d2⟩ := hcell k hlt
      have e0 := hfro (k * 3); have e1 := hfro (k * 3 + 1); have e2 := hfro (k * 3 + 2)
      have F1 := hf.trans f1
      clear c0 c1 c2 hcell hfro f1 hg
      go_wp2
      go_roundw
      case rel =>
        refine ⟨k + 1, by omega, by go_num, ?_, ((F1.setCell (Nat.le_refl _) _).setCell (Nat.le_refl _) _).setCell (Nat.le_refl _) _⟩
        rw [← hst.out]
        exact O1.out.set hlt (z0, z1, z2) hI
      case measure => simp [intOf]; omega
    · go_wp2
      go_ret
      have : k = n := by omega
      subst this
      rw [Nat.sub_self, List.replicate_zero, List.append_nil, List.take_of_length_le (by rw [Hlen.out]; omega)] at ho
      exact ⟨_, _, _, rfl, ho, hf, hm⟩

set_option maxRecDepth 100000 in
theorem eqDeal_same (w : World) (x y z : Int) :
    Calls Try.prog 95 #[.agg #[.int .i64 x, .int .i64 y, .int .i64 z], .agg #[.int .i64 x, .int .i64 y, .int .i64 z]] w fun e w' => e = .returned (.bool true) ∧ Fr w w' := by
  have hfr : Fr w ((w.alloc (.cells #[.int .i64 x, .int .i64 y, .int .i64 z] 58)).alloc (.cells #[.int .i64 x, .int .i64 y, .int .i64 z] 58)) := ((Fr.refl w).alloc _).alloc _
  go_enter Try.func95, Try.ntmps95
  go_wp2
  go_ret
  exact ⟨rfl, hfr⟩

set_option maxRecDepth 100000 in
theorem eqDealS_same (w : World) (a b : Option Addr) (n c d : Nat) (xs : List D3) (h : SD w a n c xs) (k : SD w b n d xs) :
    Calls Try.prog 49 #[.slice a n c, .slice b n d] w fun e w' => e = .returned (.bool true) ∧ Fr w w' := by
  have hle := h.le; have hmx := h.mx
  have HA := Lib.hid h; have HB := Lib.hid k
  clear h k
  go_enter Try.func49, Try.ntmps49
  go_wp2
  go_loopw [5] (fun i wr => ∃ j : Nat, j ≤ n ∧ i = .int .i64 j ∧ Fr w wr) (fun i _ => n - (intOf i).toNat)
  case atStart => exact ⟨0, Nat.zero_le _, rfl, Fr.refl _⟩
  case round =>
    obtain ⟨j, hj, rfl, hF⟩ := hrel
    by_cases hlt : j < n
    · obtain ⟨b1, o1, rfl, hc⟩ := (HA.out.fr hF).cells.resolve_left (by omega)
      obtain ⟨b2, o2, rfl, hd⟩ := (HB.out.fr hF).cells.resolve_left (by omega)
      obtain ⟨c0, c1, c2⟩ := hc j hlt
      obtain ⟨d0, d1, d2⟩ := hd j hlt
      clear hc hd
      generalize nthD xs j = z at c0 c1 c2 d0 d1 d2
      obtain ⟨z0, z1, z2⟩ := z
      dsimp only at c0 c1 c2 d0 d1 d2
      have i1 : (j : Int) < (n : Int) := by omega
      have i0 : (0 : Int) ≤ (j : Int) := by omega
      go_upto_region 6 with fail
      refine wp_region_still_tail 8 (by kernel_rfl) (by kernel_rfl) ?_
      simp only [List.take_succ_cons, List.take_zero, List.drop_succ_cons, List.drop_zero]
      repeat still_step
      refine wpStill_nil ?_
      change wpList _ _ _ _ _ wr.drew
      have hF1 := hF.drew' 1
      clear c0 c1 c2 d0 d1 d2
      go_wp2_with fail
      refine (eqDeal_same _ z0 z1 z2).mono ?_
      rintro e w2 ⟨rfl, f2⟩
      go_wp2
      go_roundw
      case rel => exact ⟨j + 1, by omega, by go_num, hF1.trans f2⟩
      case measure => simp [intOf]; omega
    · go_wp2
      go_ret
      exact ⟨rfl, hF⟩

set_option maxRecDepth 100000 in
theorem markDealS_any (B : Nat) (w : World) (a : Option Addr) (n c : Nat) (xs : List D3) (k : Int) (ho : OwnD B w a n c xs) (h0 : 0 ≤ k) (h1 : k ≤ 1000000000000) (h2 : n ≤ 1048576) :
    Calls Try.prog 50 #[.slice a n c, .int .i64 k] w fun e w' => (∃ q : Int, e = .returned (.int .i64 q) ∧ 0 ≤ q) ∧ w.grownBy w' (blkOf a) := by
  go_enter Try.func50, Try.ntmps50
  go_wp2
  go_loopw [1, 5] (fun q i wr => ∃ (j : Nat) (ys : List D3), j ≤ n ∧ i = .int .i64 j ∧ q = .int .i64 (k + 3 * (j : Int)) ∧ OwnD B wr a n c ys ∧ w.grownBy wr (blkOf a)) (fun _ i _ => n - (intOf i).toNat)
  case atStart => exact ⟨0, xs, Nat.zero_le _, rfl, by simp, ho, grownBy_refl _ _⟩
  case round =>
    clear ho
    obtain ⟨j, ys, hj, rfl, rfl, ho, hg⟩ := hrel
    by_cases hlt : j < n
    · obtain ⟨g, rfl, hBg, hlt2, hc, hfro⟩ := ho.op (by omega)
      obtain ⟨c0, c1, c2⟩ := hc j hlt
      have e0 := hfro (j * 3); have e1 := hfro (j * 3 + 1); have e2 := hfro (j * 3 + 2)
      have HO := Lib.hid ho
      have i1 : (j : Int) < (n : Int) := by omega
      have i0 : (0 : Int) ≤ (j : Int) := by omega
      have HS := Lib.hid (HO.out.set hlt (k + 3 * (j : Int), k + 3 * (j : Int) + 1, k + 3 * (j : Int) + 1 + 1) ⟨by dsimp only; unfold I64; omega, by dsimp only; unfold I64; omega, by dsimp only; unfold I64; omega⟩)
      clear hc hfro ho HO
      go_wp2
      go_roundw
      case rel =>
        refine ⟨j + 1, ys.set j (k + 3 * (j : Int), k + 3 * (j : Int) + 1, k + 3 * (j : Int) + 1 + 1), by omega, by go_num, by go_num, ?_, grownBy_setCell (grownBy_setCell (grownBy_setCell hg (p := ⟨g, j * 3, none⟩) rfl _) (p := ⟨g, j * 3 + 1, none⟩) rfl _) (p := ⟨g, j * 3 + 2, none⟩) rfl _⟩
        exact HS.out
      case measure => simp [intOf]; omega
    · go_wp2
      go_ret
      exact ⟨⟨_, rfl, by omega⟩, hg⟩
end Go.Proofs.Ytojipjjfndgbhaa
