import Derived.Test.YtojipjjfndgbhaaZH07
import Derived.Test.YtojipjjfndgbhaaZH05
import Derived.Deep.RegionHeld3
import Derived.Deep.RegionLaw
import Derived.Deep.DeepCutAuto
import Derived.Deep.CutBlock
import Derived.Deep.LoopGhost
/- Draws of trees. -/
set_option linter.unusedVariables false
namespace Go.Proofs.Ytojipjjfndgbhaa
open Go.ChangeShapes Go.WideShapes Go.ChangeAt Go.RowKit
/-- A tree in a box, that is being drawn. -/
structure TrI (φ : List Int → Prop) (w : World) (g A gt : Nat) (p : Option Addr) (n c : Nat) (q : Option Addr) (m d : Nat) (wr : World) : Prop where
  B : Blk wr gt #[.slice p n c, .slice q m d] 29
  op : ∃ P, Own w.heap.size wr p n c P ∧ φ P
  oq : ∃ W, Own w.heap.size wr q m d W
  np : blkOf p ≠ some gt
  nq : blkOf q ≠ some gt
  ap : Apart p q
  D : Dr g A w wr
  lo : w.heap.size ≤ gt
section
variable {φ ψ : List Int → Prop} {w wr w' : World} {g A A' gt : Nat} {p : Option Addr} {n c : Nat} {q : Option Addr} {m d : Nat}
theorem TrI.mono (h : TrI φ w g A gt p n c q m d wr) (hA : A ≤ A') : TrI φ w g A' gt p n c q m d wr := ⟨h.B, h.op, h.oq, h.np, h.nq, h.ap, h.D.mono hA, h.lo⟩
theorem TrI.any (h : TrI φ w g A gt p n c q m d wr) : TrI (fun _ => True) w g A gt p n c q m d wr := by
  obtain ⟨h1, ⟨P, h2, _⟩, h3, h4, h5, h6, h7, h8⟩ := h
  exact ⟨h1, ⟨P, h2, trivial⟩, h3, h4, h5, h6, h7, h8⟩
theorem TrI.fr (h : TrI φ w g A gt p n c q m d wr) (f : Fr wr w') : TrI φ w g A gt p n c q m d w' := by
  obtain ⟨h1, ⟨P, h2, h2'⟩, ⟨W, h3⟩, h4, h5, h6, h7, h8⟩ := h
  exact ⟨h1.fr f, ⟨P, h2.fr f, h2'⟩, ⟨W, h3.fr f⟩, h4, h5, h6, h7.fr f, h8⟩
theorem TrI.step (h : TrI φ w g A gt p n c q m d wr) (hg : g < w.heap.size) (E : Dr g A' wr w') : TrI φ w g A' gt p n c q m d w' := by
  obtain ⟨h1, ⟨P, h2, h2'⟩, ⟨W, h3⟩, h4, h5, h6, h7, h8⟩ := h
  exact ⟨E.blk h1 (by omega), ⟨P, E.own h2 hg, h2'⟩, ⟨W, E.own h3 hg⟩, h4, h5, h6, h7.trans E, h8⟩
theorem own_row {B : Nat} {a b : Option Addr} {n c : Nat} {xs : List Int} (h : Own B wr a n c xs) (hgr : wr.grownBy w' (blkOf b)) (hab : Apart b a) : Own B w' a n c xs := h.grown hgr (by
  cases e : blkOf a with
  | none => exact .inl rfl
  | some z => exact .inr (fun e2 => hab z e2.symm e))
/-- The parents grow. -/
theorem TrI.appP (h : TrI φ w g A gt p n c q m d wr) (hg : g < w.heap.size) {g' n' c' : Nat} {P' : List Int} (ho : Own w.heap.size w' (some ⟨g', 0, none⟩) n' c' P') (hP : ψ P') (hgr : wr.grownBy w' (blkOf p)) (hnew : blkOf p = some g' ∨ wr.heap.size ≤ g') :
    TrI ψ w g A gt (some ⟨g', 0, none⟩) n' c' q m d (w'.setCell ⟨gt, 0, none⟩ (.slice (some ⟨g', 0, none⟩) n' c')) := by
  obtain ⟨h1, ⟨P, h2, h2'⟩, ⟨W, h3⟩, h4, h5, h6, h7, h8⟩ := h
  have hlt := h1.lt
  have hne : g' ≠ gt := by
    rintro rfl
    rcases hnew with e | e
    · exact h4 e
    · omega
  have hB := h1.grown hgr h4
  have E := hB.set 0 (.slice (some ⟨g', 0, none⟩) n' c')
  simp only [List.setIfInBounds_toArray, List.set_cons_zero] at E
  refine ⟨E, ⟨P', ho.setOther (p := ⟨gt, 0, none⟩) (fun e => hne (by injection e)) _, hP⟩, ⟨W, (own_row h3 hgr h6).setOther (p := ⟨gt, 0, none⟩) h5 _⟩, fun e => hne (by injection e), h5, fun z e1 e2 => ?_, (h7.app hgr (fun z e => (h2.blk z e).1) hg).set (q := ⟨gt, 0, none⟩) h8 hg _, h8⟩
  obtain rfl : g' = z := by simpa [blkOf] using e1
  rcases hnew with e | e
  · exact h6 g' e e2
  · have := h3.blk g' e2; omega
/-- The weights grow. -/
theorem TrI.appW (h : TrI φ w g A gt p n c q m d wr) (hg : g < w.heap.size) {g' m' d' : Nat} {W' : List Int} (ho : Own w.heap.size w' (some ⟨g', 0, none⟩) m' d' W') (hgr : wr.grownBy w' (blkOf q)) (hnew : blkOf q = some g' ∨ wr.heap.size ≤ g') :
    TrI φ w g A gt p n c (some ⟨g', 0, none⟩) m' d' (w'.setCell ⟨gt, 1, none⟩ (.slice (some ⟨g', 0, none⟩) m' d')) := by
  obtain ⟨h1, ⟨P, h2, h2'⟩, ⟨W, h3⟩, h4, h5, h6, h7, h8⟩ := h
  have hlt := h1.lt
  have hne : g' ≠ gt := by
    rintro rfl
    rcases hnew with e | e
    · exact h5 e
    · omega
  have hB := h1.grown hgr h5
  have E := hB.set 1 (.slice (some ⟨g', 0, none⟩) m' d')
  simp only [List.setIfInBounds_toArray, List.set_cons_zero, List.set_cons_succ] at E
  refine ⟨E, ⟨P, (own_row h2 hgr (fun z e1 e2 => h6 z e2 e1)).setOther (p := ⟨gt, 1, none⟩) h4 _, h2'⟩, ⟨W', ho.setOther (p := ⟨gt, 1, none⟩) (fun e => hne (by injection e)) _⟩, h4, fun e => hne (by injection e), fun z e1 e2 => ?_, (h7.app hgr (fun z e => (h3.blk z e).1) hg).set (q := ⟨gt, 1, none⟩) h8 hg _, h8⟩
  obtain rfl : g' = z := by simpa [blkOf] using e2
  rcases hnew with e | e
  · exact h6 g' e1 e
  · have := h2.blk g' e1; omega
/-- A parent is set. -/
theorem TrI.setP {gp k : Nat} (h : TrI φ w g A gt (some ⟨gp, 0, none⟩) n c q m d wr) (hg : g < w.heap.size) (hk : k < n) {v : Int} (hv : I64 v) : TrI (fun _ => True) w g A gt (some ⟨gp, 0, none⟩) n c q m d (wr.setCell ⟨gp, k, none⟩ (.int .i64 v)) := by
  obtain ⟨h1, ⟨P, h2, h2'⟩, ⟨W, h3⟩, h4, h5, h6, h7, h8⟩ := h
  have hlo := (h2.blk gp rfl).1
  exact ⟨h1.other (p := ⟨gp, k, none⟩) (fun e => h4 (by rw [← e]; rfl)) _, ⟨_, h2.set rfl hk hv, trivial⟩, ⟨W, h3.setOther (p := ⟨gp, k, none⟩) (fun e => h6 gp rfl e) _⟩, h4, h5, h6, h7.set (q := ⟨gp, k, none⟩) hlo hg _, h8⟩
/-- A weight is set. -/
theorem TrI.setW {gq k : Nat} (h : TrI φ w g A gt p n c (some ⟨gq, 0, none⟩) m d wr) (hg : g < w.heap.size) (hk : k < m) {v : Int} (hv : I64 v) : TrI φ w g A gt p n c (some ⟨gq, 0, none⟩) m d (wr.setCell ⟨gq, k, none⟩ (.int .i64 v)) := by
  obtain ⟨h1, ⟨P, h2, h2'⟩, ⟨W, h3⟩, h4, h5, h6, h7, h8⟩ := h
  have hlo := (h3.blk gq rfl).1
  exact ⟨h1.other (p := ⟨gq, k, none⟩) (fun e => h5 (by rw [← e]; rfl)) _, ⟨P, h2.setOther (p := ⟨gq, k, none⟩) (fun e => h6 gq e rfl) _, h2'⟩, ⟨_, h3.set rfl hk hv⟩, h4, h5, h6, h7.set (q := ⟨gq, k, none⟩) hlo hg _, h8⟩
end
theorem parB_one : parB [-1] = true := parB_iff.2 ⟨rfl, fun x hx h1 => by simp at hx; omega⟩
theorem parB_snoc {P : List Int} {z : Int} (h : parB P = true) (hn : 1 ≤ P.length) (hz : 0 ≤ z ∧ z ≤ (P.length : Int) - 1) : parB (P ++ [z]) = true := by
  obtain ⟨h0, h1⟩ := parB_iff.1 h
  refine parB_iff.2 ⟨?_, fun x hx hx1 => ?_⟩
  · rw [← h0]; unfold nth; rw [List.getElem?_append_left (by omega)]
  · simp only [List.length_append, List.length_singleton] at hx
    by_cases e : x < P.length
    · have := h1 x e hx1
      unfold nth at this ⊢
      rw [List.getElem?_append_left e]; exact this
    · obtain rfl : x = P.length := by omega
      have e2 : nth (P ++ [z]) P.length = z := by simp [nth]
      rw [e2]; exact hz
theorem own_nil (B : Nat) (w : World) : Own B w none 0 0 [] := ⟨World.ownsRow_nil _ _ _ _, by simp⟩
theorem lit4k (V : World) (k : Nat) (hk : k ≤ 100) : ∀ i, i < 4 → ∃ x, (V.alloc (.cells #[.int .i64 (-1), .int .i64 (k : Int), .int .i64 (-2), .int .i64 4611686018427387904] 3)).cell? ⟨V.heap.size, i, none⟩ = some (.int .i64 x) ∧ (-2 ≤ x ∧ x ≤ 4611686018427387904) := fun i hi => by
  have h : i = 0 ∨ i = 1 ∨ i = 2 ∨ i = 3 := by omega
  rcases h with rfl | rfl | rfl | rfl
  all_goals exact ⟨_, by rw [cell_of_row _ _ _ _ _ _ (heap_alloc_new _ _)]; rfl, by omega⟩
theorem lit4w (V : World) : ∀ i, i < 4 → ∃ x, (V.alloc (.cells #[.int .i64 0, .int .i64 1, .int .i64 21, .int .i64 (-1)] 3)).cell? ⟨V.heap.size, i, none⟩ = some (.int .i64 x) ∧ (-1 ≤ x ∧ x ≤ 21) := fun i hi => by
  have h : i = 0 ∨ i = 1 ∨ i = 2 ∨ i = 3 := by omega
  rcases h with rfl | rfl | rfl | rfl
  all_goals exact ⟨_, by rw [cell_of_row _ _ _ _ _ _ (heap_alloc_new _ _)]; rfl, by omega⟩
set_option maxRecDepth 100000 in
set_option maxHeartbeats 2000000 in
theorem someTree_dr {g A : Nat} {w0 : World} (w : World) (most : Nat) (h : Dr g A w0 w) (hA : A ≤ 1000000000) (hm : 1 ≤ most ∧ most ≤ 24) :
    Calls Try.prog 134 #[.pointer (some ⟨g, 0, none⟩), .int .i64 most] w fun e w' => ∃ (p : Option Addr) (n c : Nat) (q : Option Addr) (m d : Nat), e = .returned (.agg #[.slice p n c, .slice q m d]) ∧ (∃ P, Own w.heap.size w' p n c P) ∧ (∃ W, Own w.heap.size w' q m d W) ∧ (n ≤ 25 ∧ m ≤ 50) ∧ Dr g (A + 500) w0 w' ∧ Dr g (A + 500) w w' := by
  have hg0 := h.cur.lt
  have hself := Dr.refl h.cur
  have HD0 := Lib.hid (hself.alloc (.cells #[.slice none 0 0, .slice none 0 0] 29))
  have H4 := Lib.hid (Blk.new w #[.slice none 0 0, .slice none 0 0] 29)
  clear hself
  go_enter Try.func134, Try.ntmps134
  go_upto_region 1 with fail
  generalize hw1 : w.alloc (.cells #[.slice none 0 0, .slice none 0 0] 29) = w1 at HD0 H4 ⊢
  have z1 : w1.heap.size = w.heap.size + 1 := by rw [← hw1]; simp
  clear hw1
  have hg : g < w1.heap.size := by omega
  have zlt : w.heap.size < w1.heap.size := by omega
  clear z1
  have oP := Own.lit1 (B := w1.heap.size) (w := w1) (z := -1) (Nat.le_refl _) (by unfold I64; omega)
  have oW := Own.made0 (B := w1.heap.size) (w1.alloc (.cells #[.int .i64 (-1)] 3)) (by simp)
  have fa := (Fr.refl w1).alloc (.cells #[.int .i64 (-1)] 3)
  have fb := (Fr.refl (w1.alloc (.cells #[.int .i64 (-1)] 3))).alloc (.cells #[] 3)
  have D1 := (Dr.refl HD0.out.cur).fr (fa.trans fb)
  rw [World.size_alloc] at oW
  go_wp2_with fail
  refine (among_dr _ 1 24 [5, 7, 4, 10, 3, 2, 1, 15, 24] _ _ _ _ D1 (by omega) rfl rfl (by decide) (by decide) (by first | rfl | simp) (by decide)).mono ?_
  rintro e w2 ⟨x0, rfl, hx0, D2, E2⟩
  have oP2 := E2.own (oP.fr fb) hg
  have oW2 := E2.own oW hg
  have s2 := E2.size
  simp only [World.size_alloc] at s2
  clear oP oW fa fb D1 E2
  go_wp2_with fail
  refine (l1Least_any _ _ _).mono ?_
  rintro e w' ⟨rfl, rfl⟩
  obtain ⟨N, hN⟩ := Int.eq_ofNat_of_zero_le (show 0 ≤ min x0 (most : Int) by omega)
  have hN1 : 1 ≤ N ∧ N ≤ 24 := by omega
  rw [hN]
  clear hN hx0
  go_wp2_with fail
  refine (one_dr _ 2 D2 (by omega) (by unfold I64; omega)).mono ?_
  rintro e w3 ⟨wide, rfl, D3, E3⟩
  have oP3 := E3.own oP2 hg
  have oW3 := E3.own oW2 hg
  have s3 := E3.size
  clear oP2 oW2 D2 E3
  have fc := (Fr.refl w3).alloc (.cells #[.slice (some ⟨w1.heap.size, 0, none⟩) 1 1, .slice (some ⟨w1.heap.size + 1, 0, none⟩) 0 0] 29)
  have S0 : TrI (fun P => parB P = true) w1 g (A + 10) w3.heap.size (some ⟨w1.heap.size, 0, none⟩) 1 1 (some ⟨w1.heap.size + 1, 0, none⟩) 0 0 (w3.alloc (.cells #[.slice (some ⟨w1.heap.size, 0, none⟩) 1 1, .slice (some ⟨w1.heap.size + 1, 0, none⟩) 0 0] 29)) :=
    ⟨Blk.new _ _ _, ⟨_, oP3.fr fc, parB_one⟩, ⟨_, oW3.fr fc⟩, fun e => by injection e with e; simp only at e; omega, fun e => by injection e with e; simp only at e; omega, fun z e1 e2 => by simp [blkOf] at e1 e2; omega, (D3.fr fc).mono (by omega), by omega⟩
  generalize hgt : w3.heap.size = gt at S0
  clear oP3 oW3 D3 fc
  go_wp2
  clear hgt
  go_loopw [8] (fun i wr => ∃ (x c : Nat) (p : Option Addr), (1 ≤ x ∧ x ≤ N) ∧ i = .int .i64 x ∧ TrI (fun P => parB P = true) w1 g (A + 10 + 2 * x) gt p x c (some ⟨w1.heap.size + 1, 0, none⟩) 0 0 wr) (fun i _ => N - (intOf i).toNat)
  case atStart => exact ⟨1, 1, _, by omega, rfl, S0.mono (show A + 10 ≤ A + 10 + 2 * 1 by omega)⟩
  case round =>
    clear S0
    obtain ⟨x, c, p, hx, rfl, S⟩ := hrel
    obtain ⟨wo, rfl⟩ : ∃ wo : World, wo = wr := ⟨_, rfl⟩
    by_cases hlt : x < N
    · have vx : (x : Int) < (N : Int) := by omega
      go_wp2_with fail
      refine (pick_dr _ x S.D (by omega) (by unfold I64; omega)).mono ?_
      rintro e w4 ⟨y, rfl, hy, D4, E4⟩
      have S4 := S.step hg E4
      clear S D4 E4
      go_upto_if 31 with fail
      go_cut [9] from 32 to 38 (fun s wx => ∃ y : Int, s = .int .i64 y ∧ (0 ≤ y ∧ y ≤ 24) ∧ wx = w4)
      case first =>
        cases wide
        · go_wp2_with fail
          go_meet
          exact ⟨y, rfl, by omega, rfl⟩
        · have hq : 0 ≤ ((x : Int) - 1) / 2 ∧ ((x : Int) - 1) / 2 ≤ 24 := by omega
          go_wp2_with fail
          refine (l1Most_any _ _ _).mono ?_
          rintro e w' ⟨rfl, rfl⟩
          go_wp2_with fail
          refine (l1Most_any _ _ _).mono ?_
          rintro e w' ⟨rfl, rfl⟩
          go_wp2_with fail
          go_meet
          exact ⟨_, rfl, by omega, rfl⟩
      case rest =>
        obtain ⟨y, rfl, hy, rfl⟩ := hcut
        obtain ⟨w5, rfl⟩ : ∃ wz : World, wz = wc := ⟨_, rfl⟩
        obtain ⟨P, oP, hP⟩ := S4.op
        have HPL := Lib.hid oP.len
        have HPB := Lib.hid hP
        have hzb : 0 ≤ min y ((x : Int) - 1) ∧ min y ((x : Int) - 1) ≤ (x : Int) - 1 := by omega
        have hsz := S4.D.size
        have c0 := S4.B.cell (j := 0) rfl
        have d0 := (S4.B.fr (Fr.drewN w5 1)).cell (j := 0) rfl
        have f0 := (S4.B.fr (Fr.drewN w5 1)).free 0
        have x0 := (S4.B.alloc (.cells #[.int .i64 (min y ((x : Int) - 1))] 3)).cell (j := 0) rfl
        have e1 : IntKind.i64.wrap ((x : Int) - 1) = (x : Int) - 1 := IntWalk.i64_in _ (by omega)
        go_upto_region 8 with fail
        go_region_law (first
          | (refine step_ap_int _ rfl _ _ rfl w1.heap.size p x c P (min y ((x : Int) - 1)) w5.heap.size (by rfl) (by rfl) (oP.fr (((Fr.refl _).alloc _).drew' 1)) (by simp; omega) (cell_of_row _ w5.heap.size 0 _ 3 (0, 0) (heap_alloc_new w5 _)) (by unfold I64; omega) (by omega) (w5.heap.size + 1) (by simp) ?_; intro g' c' w' q1 q2 q3; have B2 := (S4.B.fr (((Fr.refl w5).alloc _).drew' 1)).grown q2 S4.np; have m0 := B2.cell (j := 0) rfl; have m1 := B2.free 0)
          | (go_simp; go_at_call 99; refine (l1Least_any _ _ _).mono ?_; rintro e w' ⟨rfl, rfl⟩))
        all_goals
          have SV := S4.fr (((Fr.refl w5).alloc (.cells #[.int .i64 (min y ((x : Int) - 1))] 3)).drew' 1)
          have S5 := SV.appP hg q1 (ψ := fun P => parB P = true) (parB_snoc HPB.out (by rw [HPL.out]; omega) (by rw [HPL.out]; exact hzb)) q2 (by
            rcases q3 with h | h
            · exact .inl h
            · right; simp; omega)
          clear SV S4 oP q1 q2 B2 m0 m1 c0 d0 f0 e1 x0
          go_wp2
          go_roundw
          case rel => exact ⟨x + 1, _, _, by omega, by go_num, S5.mono (by omega)⟩
          case measure => simp [intOf]; omega
    · obtain rfl : N = x := by omega
      have S1 := S.mono (show A + 10 + 2 * N ≤ A + 60 by omega)
      clear S
      go_wp2
      go_loopw [10] (fun i wr => ∃ (x d : Nat) (q : Option Addr), x ≤ N ∧ i = .int .i64 x ∧ TrI (fun P => parB P = true) w1 g (A + 60 + 2 * x) gt p N c q x d wr) (fun i _ => N - (intOf i).toNat)
      case atStart => exact ⟨0, 0, _, Nat.zero_le _, rfl, S1⟩
      case round =>
        clear S1
        obtain ⟨x, d, q, hx, rfl, S⟩ := hrel
        obtain ⟨wo, rfl⟩ : ∃ wo : World, wo = wr := ⟨_, rfl⟩
        by_cases hlt : x < N
        · have vx : (x : Int) < (N : Int) := by omega
          have vx0 : (0 : Int) ≤ (x : Int) := by omega
          obtain ⟨P, oP, hP⟩ := S.op
          have c0 := S.B.cell (j := 0) rfl; have c1 := S.B.cell (j := 1) rfl
          go_wp2_with fail
          clear c0 c1
          refine (l2Kids_any _ _ _ _ _ _ _ x _ oP.sl hP (by omega) hlt).mono ?_
          rintro e w4 ⟨a4, n4, k4, rfl, o4, f4, _⟩
          have S4 := S.fr f4
          clear S o4 f4 oP hP
          go_upto_if 57 with fail
          go_cut [11] from 58 to 60 (fun s wx => ∃ z : Int, s = .int .i64 z ∧ (0 ≤ z ∧ z ≤ 20) ∧ TrI (fun P => parB P = true) w1 g (A + 60 + 2 * x + 2) gt p N c q x d wx)
          case first =>
            by_cases h4 : n4 = 0
            · subst h4
              go_wp2_with fail
              refine (among_dr _ 1 20 [1, 1, 2, 3, 5, 20] _ _ _ _ S4.D (by omega) rfl rfl (by decide) (by decide) (by first | rfl | simp) (by decide)).mono ?_
              rintro e w5 ⟨z, rfl, hz, D5, E5⟩
              have S5 := S4.step hg E5
              clear S4 D5 E5
              go_wp2_with fail
              go_meet
              exact ⟨z, rfl, by omega, S5⟩
            · have hb : ((n4 : Int) == 0) = false := by simp; omega
              go_wp2_with fail
              go_meet
              exact ⟨0, rfl, by omega, S4.mono (by omega)⟩
          case rest =>
            obtain ⟨z, rfl, hz, S5⟩ := hcut
            obtain ⟨w5, rfl⟩ : ∃ wz : World, wz = wc := ⟨_, rfl⟩
            clear S4
            obtain ⟨W, oW⟩ := S5.oq
            have hsz := S5.D.size
            have c1 := S5.B.cell (j := 1) rfl
            have f1 := S5.B.free 1
            go_wp2_with (at_builtin; refine ap_int _ rfl _ _ rfl w1.heap.size q x d W _ rfl rfl oW hsz (by unfold I64; omega) (by omega) ?_)
            intro g' c' w' q1 q2 q3
            have B2 := S5.B.grown q2 S5.nq
            have m0 := B2.cell (j := 1) rfl
            have m1 := B2.free 1
            have S6 := S5.appW hg q1 q2 q3
            clear S5 oW q1 q2 B2
            go_wp2
            go_roundw
            case rel => exact ⟨x + 1, _, _, by omega, by go_num, S6.mono (by omega)⟩
            case measure => simp [intOf]; omega
        · obtain rfl : N = x := by omega
          have S1 := S.mono (show A + 60 + 2 * N ≤ A + 110 by omega)
          clear S
          go_wp2_with fail
          refine (pick_dr _ N S1.D (by omega) (by unfold I64; omega)).mono ?_
          rintro e w4 ⟨k, rfl, hk, D4, E4⟩
          have S4 := S1.step hg E4
          obtain ⟨k, rfl⟩ := Int.eq_ofNat_of_zero_le hk.1
          have hkN : k < N := by omega
          have vk0 : (0 : Int) ≤ (k : Int) := by omega
          have vk : (k : Int) < (N : Int) := by omega
          clear S1 D4 E4 hk
          go_wp2_with fail
          refine (pick_dr _ 50 S4.D (by omega) (by unfold I64; omega)).mono ?_
          rintro e w5 ⟨s, rfl, hs, D5, E5⟩
          have S5 := (S4.step hg E5).any
          clear S4 D5 E5
          have hlt5 := S5.D.cur.lt
          have s4 := S5.D.size
          have HG4 : Hid (g ≠ w.heap.size) := Lib.hid (by omega)
          go_upto_block 4 with fail
          go_cut [] from 73 to 115 (fun wx => ∃ (p' : Option Addr) (n' c' : Nat) (q' : Option Addr) (m' d' : Nat), TrI (fun _ => True) w1 g (A + 300) gt p' n' c' q' m' d' wx ∧ n' ≤ 25 ∧ m' ≤ 50)
          case first =>
            by_cases h0 : s = 0
            · subst h0
              obtain ⟨P, oP, _⟩ := S5.op
              obtain ⟨gp, rfl, hgp, _, _, _⟩ := oP.op (by omega)
              have c0 : w5.cell? ⟨gt, 0, none⟩ = some (.slice (some ⟨gp, 0, none⟩) N c) := S5.B.cell (j := 0) rfl
              have CA := S5.fr ((Fr.refl w5).alloc (.cells #[.int .i64 (-1), .int .i64 (k : Int), .int .i64 (-2), .int .i64 4611686018427387904] 3))
              have CB : TrI (fun _ => True) w1 g _ gt (some ⟨gp, 0, none⟩) N c q N d (w5.alloc (.cells #[.int .i64 (-1), .int .i64 (k : Int), .int .i64 (-2), .int .i64 4611686018427387904] 3)).drew := S5.fr (((Fr.refl w5).alloc (.cells #[.int .i64 (-1), .int .i64 (k : Int), .int .i64 (-2), .int .i64 4611686018427387904] 3)).drew' 1)
              have sA : (w5.alloc (.cells #[.int .i64 (-1), .int .i64 (k : Int), .int .i64 (-2), .int .i64 4611686018427387904] 3)).cell? ⟨gt, 0, none⟩ = some (.slice (some ⟨gp, 0, none⟩) N c) := CA.B.cell (j := 0) rfl
              have sB : (w5.alloc (.cells #[.int .i64 (-1), .int .i64 (k : Int), .int .i64 (-2), .int .i64 4611686018427387904] 3)).drew.cell? ⟨gt, 0, none⟩ = some (.slice (some ⟨gp, 0, none⟩) N c) := CB.B.cell (j := 0) rfl
              have LA := lit4k w5 k (by omega)
              have LB : ∀ i, i < 4 → ∃ x, (w5.alloc (.cells #[.int .i64 (-1), .int .i64 (k : Int), .int .i64 (-2), .int .i64 4611686018427387904] 3)).drew.cell? ⟨w5.heap.size, i, none⟩ = some (.int .i64 x) ∧ (-2 ≤ x ∧ x ≤ 4611686018427387904) := LA
              clear oP
              go_upto_region 19 with fail
              go_region_held3 (fun w' => w'.cell? ⟨gt, 0, none⟩ = some (.slice (some ⟨gp, 0, none⟩) N c))
                (first | (with_reducible exact sD) | (with_reducible exact sC) | (with_reducible exact sB) | (with_reducible exact sA) | (with_reducible exact c0) | go_keep)
                (first | (go_at_call 96; refine (among_any g _ _ 4 4 (fun x => -2 ≤ x ∧ x ≤ 4611686018427387904) _ (by first | with_reducible exact CB.D.cur | with_reducible exact CA.D.cur) (by omega) (by omega) (by omega) (by omega) (by first | with_reducible exact LB | with_reducible exact LA)).mono ?_; rintro e wb ⟨z, rfl, hz, Cb, gB⟩; have EB : Dr g _ _ wb := ⟨Cb, gB⟩; have PB : TrI (fun _ => True) w1 g _ gt (some ⟨gp, 0, none⟩) N c q N d wb := (by first | with_reducible exact CB.step hg EB | with_reducible exact CA.step hg EB); have sC : wb.cell? ⟨gt, 0, none⟩ = some (.slice (some ⟨gp, 0, none⟩) N c) := PB.B.cell (j := 0) rfl; obtain ⟨Pb, oPb, _⟩ := PB.op; have q5 := oPb.cellAt rfl hkN; have z5 := oPb.frz k; have IZ : I64 z := (by unfold I64; omega); have FIN := Lib.hid (PB.setP hg hkN IZ); have sD : (wb.setCell ⟨gp, k, none⟩ (.int .i64 z)).cell? ⟨gt, 0, none⟩ = some (.slice (some ⟨gp, 0, none⟩) N c) := FIN.out.B.cell (j := 0) rfl; clear oPb))
              all_goals
                have FN := Lib.hid (TrI.mono FIN.out (show _ ≤ A + 300 by omega))
                clear FIN
                go_wp2_with fail
                go_meet
                exact ⟨_, _, _, _, _, _, FN.out, by omega, by omega⟩
            by_cases h1 : s = 1
            · subst h1
              obtain ⟨W, oW⟩ := S5.oq
              obtain ⟨gq, rfl, hgq, _, _, _⟩ := oW.op (by omega)
              have c1 : w5.cell? ⟨gt, 1, none⟩ = some (.slice (some ⟨gq, 0, none⟩) N d) := S5.B.cell (j := 1) rfl
              have CA := S5.fr ((Fr.refl w5).alloc (.cells #[.int .i64 0, .int .i64 1, .int .i64 21, .int .i64 (-1)] 3))
              have CB : TrI (fun _ => True) w1 g _ gt p N c (some ⟨gq, 0, none⟩) N d (w5.alloc (.cells #[.int .i64 0, .int .i64 1, .int .i64 21, .int .i64 (-1)] 3)).drew := S5.fr (((Fr.refl w5).alloc (.cells #[.int .i64 0, .int .i64 1, .int .i64 21, .int .i64 (-1)] 3)).drew' 1)
              have sA : (w5.alloc (.cells #[.int .i64 0, .int .i64 1, .int .i64 21, .int .i64 (-1)] 3)).cell? ⟨gt, 1, none⟩ = some (.slice (some ⟨gq, 0, none⟩) N d) := CA.B.cell (j := 1) rfl
              have sB : (w5.alloc (.cells #[.int .i64 0, .int .i64 1, .int .i64 21, .int .i64 (-1)] 3)).drew.cell? ⟨gt, 1, none⟩ = some (.slice (some ⟨gq, 0, none⟩) N d) := CB.B.cell (j := 1) rfl
              have LA := lit4w w5
              have LB : ∀ i, i < 4 → ∃ x, (w5.alloc (.cells #[.int .i64 0, .int .i64 1, .int .i64 21, .int .i64 (-1)] 3)).drew.cell? ⟨w5.heap.size, i, none⟩ = some (.int .i64 x) ∧ (-1 ≤ x ∧ x ≤ 21) := LA
              clear oW
              go_upto_region 21 with fail
              go_region_held3 (fun w' => w'.cell? ⟨gt, 1, none⟩ = some (.slice (some ⟨gq, 0, none⟩) N d))
                (first | (with_reducible exact sD) | (with_reducible exact sC) | (with_reducible exact sB) | (with_reducible exact sA) | (with_reducible exact c1) | go_keep)
                (first | (go_at_call 96; refine (among_any g _ _ 4 4 (fun x => -1 ≤ x ∧ x ≤ 21) _ (by first | with_reducible exact CB.D.cur | with_reducible exact CA.D.cur) (by omega) (by omega) (by omega) (by omega) (by first | with_reducible exact LB | with_reducible exact LA)).mono ?_; rintro e wb ⟨z, rfl, hz, Cb, gB⟩; have EB : Dr g _ _ wb := ⟨Cb, gB⟩; have PB : TrI (fun _ => True) w1 g _ gt p N c (some ⟨gq, 0, none⟩) N d wb := (by first | with_reducible exact CB.step hg EB | with_reducible exact CA.step hg EB); have sC : wb.cell? ⟨gt, 1, none⟩ = some (.slice (some ⟨gq, 0, none⟩) N d) := PB.B.cell (j := 1) rfl; obtain ⟨Wb, oWb⟩ := PB.oq; have q5 := oWb.cellAt rfl hkN; have z5 := oWb.frz k; have IZ : I64 z := (by unfold I64; omega); have FIN := Lib.hid (PB.setW hg hkN IZ); have sD : (wb.setCell ⟨gq, k, none⟩ (.int .i64 z)).cell? ⟨gt, 1, none⟩ = some (.slice (some ⟨gq, 0, none⟩) N d) := FIN.out.B.cell (j := 1) rfl; clear oWb))
              all_goals
                have FN := Lib.hid (TrI.mono FIN.out (show _ ≤ A + 300 by omega))
                clear FIN
                go_wp2_with fail
                go_meet
                exact ⟨_, _, _, _, _, _, FN.out, by omega, by omega⟩
            have b0 : (s == 0) = false := by simp [h0]
            have b1 : (s == 1) = false := by simp [h1]
            by_cases h2 : s = 2
            · subst h2
              obtain ⟨W, oW⟩ := S5.oq
              have c1 := S5.B.cell (j := 1) rfl
              have f1 := S5.B.free 1
              go_wp2_with (at_builtin; refine ap_int _ rfl _ _ rfl w1.heap.size q N d W _ rfl rfl oW s4 (by unfold I64; omega) (by omega) ?_)
              intro g' c' w' q1 q2 q3
              have B2 := S5.B.grown q2 S5.nq
              have m0 := B2.cell (j := 1) rfl
              have m1 := B2.free 1
              have S6 := S5.appW hg q1 q2 q3
              clear S5 oW q1 q2 B2
              go_wp2_with fail
              go_meet
              exact ⟨_, _, _, _, _, _, S6.mono (by omega), by omega, by omega⟩
            have b2 : (s == 2) = false := by simp [h2]
            by_cases h3 : s = 3
            · subst h3
              go_wp2_with fail
              go_loopg [] 25 (fun gk wr => ∃ (p' : Option Addr) (n' c' : Nat) (q' : Option Addr) (d' : Nat), n' ≤ 25 ∧ 25 - n' ≤ gk ∧ TrI (fun _ => True) w1 g (A + 110 + 2 + 2) gt p' n' c' q' n' d' wr)
              case atStart => exact ⟨_, _, _, _, _, by omega, by omega, S5⟩
              case round =>
                clear S5
                obtain ⟨p', n', c', q', d', hn', hgk, S⟩ := hrel
                obtain ⟨wo, rfl⟩ : ∃ wo : World, wo = wr := ⟨_, rfl⟩
                have c0 := S.B.cell (j := 0) rfl
                have f0 := S.B.free 0
                by_cases hlt : n' < 25
                · have vn : (n' : Int) < 25 := by omega
                  obtain ⟨P, oP, _⟩ := S.op
                  have hsz := S.D.size
                  go_wp2_with (at_builtin; refine ap_int _ rfl _ _ rfl w1.heap.size p' n' c' P _ rfl rfl oP hsz (by unfold I64; omega) (by omega) ?_)
                  intro g1 c1 w7 q1 q2 q3
                  have B2 := S.B.grown q2 S.np
                  have m0 := B2.cell (j := 0) rfl
                  have m1 := B2.free 0
                  have S7 := S.appP hg q1 (ψ := fun _ => True) trivial q2 q3
                  clear S oP q1 q2 B2 c0 f0
                  go_upto_region 27 with fail
                  clear m0 m1
                  generalize w7.setCell ⟨gt, 0, none⟩ (.slice (some ⟨g1, 0, none⟩) (n' + 1) c1) = w9 at S7 ⊢
                  have k1 := S7.B.cell (j := 1) rfl
                  have k2 := S7.B.free 1
                  obtain ⟨W, oW⟩ := S7.oq
                  have hsz7 := S7.D.size
                  go_wp2_with (at_builtin; refine ap_int _ rfl _ _ rfl w1.heap.size q' n' d' W _ rfl rfl oW hsz7 (by unfold I64; omega) (by omega) ?_)
                  intro g2 c2 w8 q1 q2 q3
                  have B2 := S7.B.grown q2 S7.nq
                  have r0 := B2.cell (j := 1) rfl
                  have r1 := B2.free 1
                  have S8 := S7.appW hg q1 q2 q3
                  clear S7 oW q1 q2 B2
                  go_wp2
                  go_roundg (gk - 1)
                  case rel => exact ⟨_, n' + 1, _, _, _, by omega, by omega, S8⟩
                  case measure => omega
                · obtain rfl : n' = 25 := by omega
                  go_wp2_with fail
                  go_meet
                  exact ⟨_, _, _, _, _, _, S.mono (by omega), by omega, by omega⟩
            have b3 : (s == 3) = false := by simp [h3]
            by_cases h4 : s = 4
            · subst h4
              obtain ⟨B6, _, _, _, _, _, D6, _⟩ := S5
              have HB4 := D6.blk H4.out HG4.out
              have j0 := HB4.cell (j := 0) rfl; have j1 := HB4.cell (j := 1) rfl
              have i0 := HB4.free 0; have i1 := HB4.free 1
              have E := (HB4.set 0 (.slice none 0 0)).set 1 (.slice none 0 0)
              simp only [List.setIfInBounds_toArray, List.set_cons_zero, List.set_cons_succ] at E
              have D7 := ((HD0.out.trans D6).set (q := ⟨w.heap.size, 0, none⟩) (Nat.le_refl _) hg0 (.slice none 0 0)).set (q := ⟨w.heap.size, 1, none⟩) (Nat.le_refl _) hg0 (.slice none 0 0)
              have HF := Lib.hid (D7.mono (show _ ≤ A + 500 by omega))
              clear D7 D6 B6
              go_wp2
              refine bodyPost_ret (results_T Try.results134 _ _ w.heap.size (.slice none 0 0) (.slice none 0 0) rfl (E.cell rfl) (E.cell rfl)) rfl ?_
              exact ⟨_, _, _, _, _, _, rfl, ⟨[], own_nil _ _⟩, ⟨[], own_nil _ _⟩, by omega, h.trans HF.out, HF.out⟩
            have b4 : (s == 4) = false := by simp [h4]
            go_wp2_with fail
            go_meet
            exact ⟨_, _, _, _, _, _, S5.mono (by omega), by omega, by omega⟩
          case rest =>
            obtain ⟨p', n', c', q', m', d', S6, hn', hm'⟩ := hcut
            obtain ⟨w6, rfl⟩ : ∃ wz : World, wz = wc := ⟨_, rfl⟩
            clear S5
            obtain ⟨B6, ⟨P, oP, _⟩, ⟨W, oW⟩, _, _, _, D6, _⟩ := S6
            have c0 := B6.cell (j := 0) rfl; have c1 := B6.cell (j := 1) rfl
            have HB4 := D6.blk H4.out HG4.out
            have j0 := HB4.cell (j := 0) rfl; have j1 := HB4.cell (j := 1) rfl
            have i0 := HB4.free 0; have i1 := HB4.free 1
            have E := (HB4.set 0 (.slice p' n' c')).set 1 (.slice q' m' d')
            simp only [List.setIfInBounds_toArray, List.set_cons_zero, List.set_cons_succ] at E
            have oP2 := (oP.setOther (p := ⟨w.heap.size, 0, none⟩) (fun e => by have := (oP.blk w.heap.size e).1; omega) (.slice p' n' c'))
            have oP3 := oP2.setOther (p := ⟨w.heap.size, 1, none⟩) (fun e => by have := (oP.blk w.heap.size e).1; omega) (.slice q' m' d')
            have oW2 := (oW.setOther (p := ⟨w.heap.size, 0, none⟩) (fun e => by have := (oW.blk w.heap.size e).1; omega) (.slice p' n' c'))
            have oW3 := oW2.setOther (p := ⟨w.heap.size, 1, none⟩) (fun e => by have := (oW.blk w.heap.size e).1; omega) (.slice q' m' d')
            have D7 := ((HD0.out.trans D6).set (q := ⟨w.heap.size, 0, none⟩) (Nat.le_refl _) hg0 (.slice p' n' c')).set (q := ⟨w.heap.size, 1, none⟩) (Nat.le_refl _) hg0 (.slice q' m' d')
            have HF := Lib.hid (And.intro (oP3.mono (Nat.le_of_lt zlt)) (And.intro (oW3.mono (Nat.le_of_lt zlt)) (D7.mono (show A + 300 ≤ A + 500 by omega))))
            clear oP oP2 oP3 oW oW2 oW3 D7 D6 B6
            go_wp2
            refine bodyPost_ret (results_T Try.results134 _ _ w.heap.size (.slice p' n' c') (.slice q' m' d') rfl (E.cell rfl) (E.cell rfl)) rfl ?_
            exact ⟨_, _, _, _, _, _, rfl, ⟨_, HF.out.1⟩, ⟨_, HF.out.2.1⟩, by omega, h.trans HF.out.2.2, HF.out.2.2⟩
end Go.Proofs.Ytojipjjfndgbhaa
