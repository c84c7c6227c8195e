import Derived.Test.YtojipjjfndgbhaaZH22
import Derived.Test.YtojipjjfndgbhaaZH07
import Derived.Test.YtojipjjfndgbhaaZH17
import Derived.Deep.DeepMust
import Derived.BigRegion
import Derived.Deep.QuietTactic
/- Draws of fair processes. -/
set_option linter.unusedVariables false
namespace Go.Proofs.Ytojipjjfndgbhaa
open Go.ChangeShapes Go.WideShapes Go.ChangeAt Go.RowKit
theorem LsI.set {w : World} {g A gp m c k : Nat} {wr : World} (h : LsI w g A (some ⟨gp, 0, none⟩) m c wr) (hg : g < w.heap.size) (hk : k < m) {v : Int} (hv : I64 v) : LsI w g A (some ⟨gp, 0, none⟩) m c (wr.setCell ⟨gp, k, none⟩ (.int .i64 v)) := by
  obtain ⟨⟨xs, h1⟩, D⟩ := h
  exact ⟨⟨_, h1.set rfl hk hv⟩, D.set (q := ⟨gp, k, none⟩) (h1.blk gp rfl).1 hg _⟩
theorem LsI.fr {w : World} {g A : Nat} {p : Option Addr} {m c : Nat} {wr w' : World} (h : LsI w g A p m c wr) (f : Fr wr w') : LsI w g A p m c w' := by
  obtain ⟨⟨xs, h1⟩, D⟩ := h
  exact ⟨⟨xs, h1.fr f⟩, D.fr f⟩
theorem LsI.ptr {w : World} {g A : Nat} {p : Option Addr} {m c : Nat} {wr : World} (h : LsI w g A p m c wr) (hm : 0 < m) : ∃ ga, p = some ⟨ga, 0, none⟩ := by
  obtain ⟨⟨xs, h1⟩, D⟩ := h
  obtain ⟨ga, h2, _⟩ := h1.op hm
  exact ⟨ga, h2⟩
theorem LsI.at {w : World} {g A ga m c k : Nat} {wr : World} (h : LsI w g A (some ⟨ga, 0, none⟩) m c wr) (hk : k < m) : ∃ t, wr.cell? ⟨ga, k, none⟩ = some (.int .i64 t) ∧ I64 t := by
  obtain ⟨⟨xs, h1⟩, D⟩ := h
  exact ⟨_, h1.cellAt rfl hk, h1.sl.rngAt k⟩
theorem LsI.frz {w : World} {g A ga m c : Nat} {wr : World} (h : LsI w g A (some ⟨ga, 0, none⟩) m c wr) (k : Nat) : wr.frozen? ⟨ga, k, none⟩ = false := by
  obtain ⟨⟨xs, h1⟩, D⟩ := h
  exact h1.frz k
theorem LsI.blt {w : World} {g A ga m c : Nat} {wr : World} (h : LsI w g A (some ⟨ga, 0, none⟩) m c wr) : w.heap.size ≤ ga ∧ ga < wr.heap.size := by
  obtain ⟨⟨xs, h1⟩, D⟩ := h
  exact h1.blk ga rfl
theorem i64_wrap64 (x : Int) : I64 (wrap64 x) := by unfold I64 wrap64; omega
theorem i64_most64 (x : Int) : I64 (max (-999) (wrap64 x)) := by have := i64_wrap64 x; unfold I64 at *; omega
theorem LsI.fin {w w4 wr : World} {g A A0 A2 : Nat} {p : Option Addr} {m c : Nat} (h : LsI w4 g A p m c wr) (D : Dr g A0 w w4) (hA : A ≤ A2) : (∃ X, Own w.heap.size wr p m c X) ∧ Dr g A2 w wr := by
  obtain ⟨⟨X, oX⟩, E⟩ := h
  exact ⟨⟨X, oX.mono D.size⟩, (D.trans E).mono hA⟩
theorem i64_wrap (x : Int) : I64 (IntKind.i64.wrap x) := by have := bounds_i64 (wf_wrap .i64 x); unfold I64; omega
theorem i64_most (x : Int) : I64 (max (-999) (IntKind.i64.wrap x)) := by have := i64_wrap x; unfold I64 at *; omega
set_option maxRecDepth 100000 in
set_option maxHeartbeats 4000000 in
theorem fair3_dr {g A : Nat} {w0 : World} (w : World) (p q : Option Addr) (n c m d : Nat) (P W : List Int) (h : Dr g A w0 w) (hA : A ≤ 900000000) (hP : SL w p n c P) (hW : SL w q m d W) (hp : ∀ k, blkOf p = some k → k ≠ g) (hq : ∀ k, blkOf q = some k → k ≠ g) (hn : n ≤ 1000000) :
    Calls Try.prog 102 #[.pointer (some ⟨g, 0, none⟩), .agg #[.slice p n c, .slice q m d]] w fun e w' => ∃ (a : Option Addr) (l j : Nat), e = .returned (.slice a l j) ∧ (∃ xs, Own w.heap.size w' a l j xs) ∧ l ≤ 25 ∧ Dr g (A + 1000) w0 w' ∧ Dr g (A + 1000) w w' := by
  have HP := Lib.hid hP.len; have HW := Lib.hid hW.len
  have hg0 := h.cur.lt
  have fb := (Fr.refl w).alloc (.cells #[.slice p n c, .slice q m d] 29)
  have D0 := (Dr.refl h.cur).fr fb
  have B0 := Blk.new w #[.slice p n c, .slice q m d] 29
  have P0 := hP.fr fb; have W0 := hW.fr fb
  have zlt : w.heap.size < (w.alloc (.cells #[.slice p n c, .slice q m d] 29)).heap.size := by simp
  go_enter Try.func102, Try.ntmps102
  clear hP hW
  go_upto_region 1 with fail
  generalize hb3 : w.heap.size = b3 at B0 zlt
  generalize w.alloc (.cells #[.slice p n c, .slice q m d] 29) = w1 at D0 B0 P0 W0 zlt ⊢
  have c0 := B0.cell (j := 0) rfl; have c1 := B0.cell (j := 1) rfl
  go_wp2_with fail
  refine (l2Good_any _ _ _ _ _ _ _ _ _ P0 W0).mono ?_
  rintro e w2 ⟨rfl, f⟩
  have D2 := D0.fr f
  have B2 := B0.fr f
  have P2 := P0.fr f; have W2 := W0.fr f
  have zlt2 : b3 < w2.heap.size := Nat.lt_of_lt_of_le zlt f.size
  clear f c0 c1 P0 W0 B0 D0 zlt
  have c0 := B2.cell (j := 0) rfl; have c1 := B2.cell (j := 1) rfl
  rcases Bool.eq_false_or_eq_true (treeB P W) with ht | ht
  rotate_left
  · rw [ht]
    clear P2 W2 B2
    go_wp2_with fail
    refine (pays_dr _ p q n c m d D2 (by omega) (by omega)).mono ?_
    rintro e w3 ⟨a, l, j, rfl, ⟨X, oX⟩, hl, D3, E3⟩
    have hsz := D2.size
    clear D2
    go_wp2
    go_ret
    exact ⟨_, _, _, rfl, ⟨X, oX.mono hsz⟩, hl, h.trans (D3.mono (by omega)), D3.mono (by omega)⟩
  · rw [ht]
    have Ht := Lib.hid ht
    clear ht
    go_wp2_with fail
    refine (one_dr _ 4 D2 (by omega) (by unfold I64; omega)).mono ?_
    rintro e w3 ⟨b, rfl, D3, E3⟩
    have hsz := D2.size
    have B3 := E3.blk B2 (by omega)
    have P3 := E3.sl P2 hp; have W3 := E3.sl W2 hq
    have hsz3 := D3.size
    have zlt3 : b3 < w3.heap.size := Nat.lt_of_lt_of_le zlt2 E3.size
    clear c0 c1 B2 P2 W2 D2 E3 zlt2
    have c0 := B3.cell (j := 0) rfl; have c1 := B3.cell (j := 1) rfl
    cases b
    rotate_left
    · clear P3 W3 B3
      go_wp2_with fail
      refine (pays_dr _ p q n c m d D3 (by omega) (by omega)).mono ?_
      rintro e w4 ⟨a, l, j, rfl, ⟨X, oX⟩, hl, D4, E4⟩
      clear D3
      go_wp2
      go_ret
      exact ⟨_, _, _, rfl, ⟨X, oX.mono hsz3⟩, hl, h.trans (D4.mono (by omega)), D4.mono (by omega)⟩
    · obtain ⟨t1, t2, t3, t4⟩ := treeB_iff.1 Ht.out
      have hnm : m = n := by rw [← HW.out, ← HP.out]; exact t2
      subst hnm
      have hn24 : 1 ≤ m ∧ m ≤ 24 := by rw [← HP.out]; exact t1
      have T3 := Lib.hid t3
      clear t1 t2 t3 t4
      go_wp2_with fail
      refine (l2Sums_any _ _ _ _ _ _ _ _ _ P3 W3 Ht.out).mono ?_
      rintro e w4 ⟨a5, n5, c5, rfl, o5, f, hn5⟩
      have h5 : n5 = m := by rw [← o5.len, gathM, gathTo_len, HW.out]
      subst h5
      have D4 := D3.fr f
      have B4 := B3.fr f
      have P4 := P3.fr f; have W4 := W3.fr f
      have hsz4 := D4.size
      have hs5 := o5.sl
      have HQ : Hid (∀ k, blkOf a5 = some k → k ≠ g) := Lib.hid fun k hk => by have := (o5.blk k hk).1; omega
      have zlt4 : b3 < w4.heap.size := Nat.lt_of_lt_of_le zlt3 f.size
      have hg4 : g < w4.heap.size := by omega
      have HG : Hid (g ≠ b3) := Lib.hid (by omega)
      clear c0 c1 P3 W3 B3 D3 f o5 zlt3
      go_wp2_with fail
      refine (pick_dr _ 21 (Dr.refl D4.cur) (by omega) (by unfold I64; omega)).mono ?_
      rintro e w5 ⟨r, rfl, hr, D5, E5⟩
      have oX := Own.lit1 (B := w4.heap.size) (w := w5) (z := r - 5) E5.size (by unfold I64; omega)
      have L5 : LsI w4 g (A + 10) (some ⟨w5.heap.size, 0, none⟩) 1 1 (w5.alloc (.cells #[.int .i64 (r - 5)] 3)) := ⟨⟨_, oX⟩, (E5.alloc _).mono (by omega)⟩
      clear D5 E5 oX
      go_upto_region 5 with fail
      clear hr
      generalize w5.heap.size = g5 at L5 ⊢
      generalize w5.alloc _ = w6 at L5 ⊢
      go_wp2
      go_loopw [6, 7] (fun s i wr => ∃ (x : Nat) (a : Option Addr) (j : Nat), (1 ≤ x ∧ x ≤ n5) ∧ i = .int .i64 x ∧ s = .slice a x j ∧ LsI w4 g (A + 10) a x j wr) (fun _ i _ => n5 - (intOf i).toNat)
      case atStart => exact ⟨1, _, _, by omega, rfl, rfl, L5⟩
      case round =>
        clear L5
        obtain ⟨x, a, j, hx, rfl, rfl, L⟩ := hrel
        obtain ⟨wo, rfl⟩ : ∃ wo : World, wo = wr := ⟨_, rfl⟩
        have vx0 : (0 : Int) ≤ (x : Int) := by omega
        have BW := L.D.blk B4 HG.out
        have c0 := BW.cell (j := 0) rfl
        by_cases hlt : x < n5
        · have vx : (x : Int) < (n5 : Int) := by omega
          obtain ⟨bp, op, rfl, qP⟩ := (L.D.sl P4 hp).cells.resolve_left (by omega)
          replace qP := qP x hlt
          obtain ⟨hv1, hv2⟩ := par_of T3.out (by rw [HP.out]; exact hlt) hx.1
          rw [hv1] at qP
          generalize par P x = v at qP hv2
          have vv0 : (0 : Int) ≤ (v : Int) := by omega
          have vv : (v : Int) < (x : Int) := by omega
          obtain ⟨X, oX⟩ := L.op
          obtain ⟨ga, rfl, _, _, qX, _⟩ := oX.op (by omega)
          replace qX := qX v hv2
          have hI := oX.sl.rngAt v
          generalize nth X v = t at qX hI
          have hsz := L.D.size
          clear BW hv1
          go_wp2_with (at_builtin; refine ap_int _ rfl _ _ rfl w4.heap.size (some ⟨ga, 0, none⟩) x j X _ rfl rfl oX hsz hI (by omega) ?_)
          intro g' c' w' q1 q2 _
          have L2 := L.app hg4 q1 q2
          clear L oX q1 q2 c0 qX qP
          go_wp2
          go_roundw
          case rel => exact ⟨x + 1, _, _, by omega, by go_num, rfl, L2⟩
          case measure => simp [intOf]; omega
        · have hxn : n5 = x := by omega
          have vx : ¬ (x : Int) < (n5 : Int) := by omega
          subst hxn
          obtain ⟨wq, rfl⟩ : ∃ wz : World, wz = wo := ⟨_, rfl⟩
          clear BW
          have L6 := L
          clear L
          obtain ⟨ga, rfl⟩ := L6.ptr (by omega)
          go_wp2
          clear c0
          go_loopw [8] (fun i wr => ∃ (x : Nat), x ≤ n5 ∧ i = .int .i64 x ∧ LsI w4 g (A + 10 + 2 * x) (some ⟨ga, 0, none⟩) n5 j wr) (fun i _ => n5 - (intOf i).toNat)
          case atStart => exact ⟨0, Nat.zero_le _, rfl, L6⟩
          case round =>
            clear L6
            obtain ⟨x, hx, rfl, L⟩ := hrel
            obtain ⟨wo, rfl⟩ : ∃ wo : World, wo = wr := ⟨_, rfl⟩
            have vx0 : (0 : Int) ≤ (x : Int) := by omega
            by_cases hlt : x < n5
            · have vx : (x : Int) < (n5 : Int) := by omega
              have BW := L.D.blk B4 HG.out
              have c0 := BW.cell (j := 0) rfl; have c1 := BW.cell (j := 1) rfl
              go_wp2_with fail
              refine (l2Kids_any _ _ _ _ _ _ _ x _ (L.D.sl P4 hp) T3.out (by omega) hlt).mono ?_
              rintro e w8 ⟨a9, n9, c9, rfl, o9, f, hn9⟩
              have L8 := L.fr f
              have hga := L.blt.2
              clear L f c0 c1 BW
              go_wp2_with fail
              go_loopw [10] (fun i wr => ∃ (y : Nat), y ≤ n9 ∧ i = .int .i64 y ∧ LsI w4 g (A + 10 + 2 * x) (some ⟨ga, 0, none⟩) n5 j wr ∧ Own wo.heap.size wr a9 n9 c9 (kidsTo P x n5)) (fun i _ => n9 - (intOf i).toNat)
              case atStart => exact ⟨0, Nat.zero_le _, rfl, L8, o9⟩
              case round =>
                clear L8 o9
                obtain ⟨y, hy, rfl, L, o9⟩ := hrel
                obtain ⟨wi, rfl⟩ : ∃ wz : World, wz = wr := ⟨_, rfl⟩
                have vy0 : (0 : Int) ≤ (y : Int) := by omega
                by_cases hyl : y < n9
                · have vy : (y : Int) < (n9 : Int) := by omega
                  obtain ⟨z, hz, hzn, _⟩ := kids_nth (P := P) (x := x) (k := n5) (i := y) (by rw [o9.len]; exact hyl)
                  have vz0 : (0 : Int) ≤ (z : Int) := by omega
                  have vz : (z : Int) < (n5 : Int) := by omega
                  have qk := o9.op (by omega)
                  obtain ⟨g9, rfl, hg9, _, qk, _⟩ := qk
                  replace qk := qk y hyl
                  rw [hz] at qk
                  obtain ⟨t, qx, hI⟩ := L.at hlt
                  obtain ⟨_, qz, _⟩ := L.at hzn
                  have fz := L.frz z
                  clear hz
                  have L2 := L.set hg4 hzn hI
                  have o2 := o9.setOther (p := ⟨ga, z, none⟩) (fun e => by injection e with e; simp only at e; omega) (.int .i64 t)
                  clear L o9
                  go_upto_region 16 with fail
                  go_region
                  have L3 := L2.fr ((Fr.refl _).drew' 1)
                  have o3 := o2.fr ((Fr.refl _).drew' 1)
                  clear L2 o2 qk qx qz fz
                  go_wp2
                  go_roundw
                  case rel => exact ⟨y + 1, by omega, by go_num, L3, o3⟩
                  case measure => simp [intOf]; omega
                · obtain rfl : n9 = y := by omega
                  obtain ⟨wj, rfl⟩ : ∃ wz : World, wz = wi := ⟨_, rfl⟩
                  by_cases h9 : 1 < n9
                  rotate_left
                  · have v9 : ¬ (1 : Int) < (n9 : Int) := by omega
                    have L3 := L.mono (show A + 10 + 2 * x ≤ A + 10 + 2 * (x + 1) by omega)
                    clear L o9
                    go_wp2
                    go_roundw
                    case rel => exact ⟨x + 1, by omega, by go_num, L3⟩
                    case measure => simp [intOf]; omega
                  · have v9 : (1 : Int) < (n9 : Int) := by omega
                    have v9a : (0 : Int) < (n9 : Int) := by omega
                    have v9b : (0 : Int) ≤ (n9 : Int) - 1 := by omega
                    have v9c : (n9 : Int) - 1 < (n9 : Int) := by omega
                    obtain ⟨z0, hz0, hn0, _⟩ := kids_nth (P := P) (x := x) (k := n5) (i := 0) (by rw [o9.len]; omega)
                    obtain ⟨z1, hz1, hn1, _⟩ := kids_nth (P := P) (x := x) (k := n5) (i := n9 - 1) (by rw [o9.len]; omega)
                    have qk := o9.op (by omega)
                    obtain ⟨g9, rfl, hg9, _, qk, _⟩ := qk
                    have qk0 := qk 0 (by omega)
                    have qk1 := qk (n9 - 1) (by omega)
                    rw [hz0] at qk0
                    rw [hz1] at qk1
                    have e91 : ((n9 : Int) - 1).toNat = n9 - 1 := by omega
                    clear qk hz0 hz1 o9
                    go_upto_region 18 with fail
                    have hs1 := sums_pos Ht.out z1 (by rw [HP.out]; exact hn1)
                    have hs1b := sums_le Ht.out z1
                    obtain ⟨s0, hs0⟩ : ∃ s0, s0 = nth (gathM P W) z0 := ⟨_, rfl⟩
                    obtain ⟨s1, hse1⟩ : ∃ s1, s1 = nth (gathM P W) z1 := ⟨_, rfl⟩
                    rw [← hse1] at hs1 hs1b
                    go_quiet (fail)
                    go_upto_region 19 with fail
                    clear qk0 qk1
                    generalize hwk : wj.drewN _ = wk
                    have L9 : LsI w4 g (A + 10 + 2 * x) (some ⟨ga, 0, none⟩) n5 j wk := by rw [← hwk]; exact L.fr (Fr.drewN _ _)
                    clear L hwk
                    have v00 : (0 : Int) ≤ (z0 : Int) := by omega
                    have v01 : (z0 : Int) < (n5 : Int) := by omega
                    have v10 : (0 : Int) ≤ (z1 : Int) := by omega
                    have v11 : (z1 : Int) < (n5 : Int) := by omega
                    obtain ⟨t, qt, hI⟩ := L9.at hlt
                    have L9d : LsI w4 g (A + 10 + 2 * x) (some ⟨ga, 0, none⟩) n5 j wk.drew := L9.fr ((Fr.refl wk).drew' 1)
                    have qtd : wk.drew.cell? ⟨ga, x, none⟩ = some (.int .i64 t) := qt
                    obtain ⟨b5, o5, rfl, _⟩ := hs5.cells.resolve_left (by omega)
                    have HS : Hid (∀ (A' : Nat) (V : World), Dr g A' w4 V → V.cell? ⟨b5, o5 + z1, none⟩ = some (.int .i64 s1) ∧ V.cell? ⟨b5, o5 + z0, none⟩ = some (.int .i64 s0)) := Lib.hid fun A' V D => by
                      obtain ⟨b', o', e, hc⟩ := (D.sl hs5 HQ.out).cells.resolve_left (by omega)
                      simp only [Option.some.injEq, Addr.mk.injEq, and_true] at e
                      obtain ⟨rfl, rfl⟩ := e
                      rw [hse1, hs0]
                      exact ⟨hc z1 hn1, hc z0 hn0⟩
                    have qs1 := (HS.out _ _ L9.D).1
                    have qs1d : wk.drew.cell? ⟨b5, o5 + z1, none⟩ = some (.int .i64 s1) := qs1
                    have hgne : g ≠ ga := by have := L9.blt.1; omega
                    have EI0 : ∀ z : Int, I64 z → True := fun _ _ => trivial
                    go_cut [] from 86 to 101 (fun wx => LsI w4 g (A + 10 + 2 * x + 2) (some ⟨ga, 0, none⟩) n5 j wx)
                    case first =>
                      go_region_with (go_at_call 105; go_must (refine (pick_any g (A + 10 + 2 * x) 3 _ (by first | with_reducible exact L9d.D.cur | with_reducible exact L9.D.cur) (by omega) (by unfold I64; omega)).mono ?_; rintro e wb ⟨r2, rfl, hr2a, hr2b, Cb, gB⟩; have Eb : Dr g (A + 10 + 2 * x + 2) _ wb := ⟨Cb, gB⟩; have PB : LsI w4 g (A + 10 + 2 * x + 2) (some ⟨ga, 0, none⟩) n5 j wb := (by first | with_reducible exact L9d.step hg4 Eb | with_reducible exact L9.step hg4 Eb); have qtb : wb.cell? ⟨ga, x, none⟩ = some (.int .i64 t) := Eb.grow.cell (by first | with_reducible exact qtd | with_reducible exact qt) (fun e => hgne (by injection e with e; simp only at e; omega)); have qsb := (HS.out _ _ PB.D).1; have fz := PB.frz z0; obtain ⟨_, qz, _⟩ := PB.at hn0; have FIN := Lib.hid (fun (v : Int) (hv : I64 v) => PB.set hg4 hn0 hv)))
                      all_goals
                        have HFI := Lib.hid FIN
                        clear FIN PB L9 L9d
                        go_wp2_with fail
                        go_meet
                        exact HFI.out.out _ (i64_wrap _)
                    case rest =>
                      obtain ⟨wm, rfl⟩ : ∃ wz : World, wz = wc := ⟨_, rfl⟩
                      have L10 := hcut
                      clear hcut L9 L9d qt qtd qs1 qs1d
                      obtain ⟨t1, qt1, hI1⟩ := L10.at hlt
                      obtain ⟨t2, qt2, hI2⟩ := L10.at hn0
                      obtain ⟨t3, qt3, hI3⟩ := L10.at hn1
                      have qs1 := (HS.out _ _ L10.D).1
                      have qs0 := (HS.out _ _ L10.D).2
                      have fz := L10.frz z1
                      have FIN := Lib.hid (fun (v : Int) (hv : I64 v) => ((L10.set hg4 hn1 hv).fr ((Fr.refl _).drew' 1)).mono (show A + 10 + 2 * x + 2 ≤ A + 10 + 2 * (x + 1) by omega))
                      clear L10 HS
                      have hs1n : s1 ≠ 0 := by omega
                      go_upto_region 20 with fail
                      go_region
                      all_goals
                        go_wp2
                        go_roundw
                        case rel => exact ⟨x + 1, by omega, by go_num, FIN.out _ (by first | exact i64_wrap64 _ | exact i64_wrap _)⟩
                        case measure => simp [intOf]; omega
            · obtain rfl : n5 = x := by omega
              obtain ⟨wq, rfl⟩ : ∃ wz : World, wz = wo := ⟨_, rfl⟩
              have L7 := L
              clear L
              go_wp2
              go_loopw [13] (fun i wr => ∃ (x : Nat), x ≤ n5 ∧ i = .int .i64 x ∧ LsI w4 g (A + 10 + 2 * n5) (some ⟨ga, 0, none⟩) n5 j wr) (fun i _ => n5 - (intOf i).toNat)
              case atStart => exact ⟨0, Nat.zero_le _, rfl, L7⟩
              case round =>
                clear L7
                obtain ⟨x, hx, rfl, L⟩ := hrel
                obtain ⟨wo, rfl⟩ : ∃ wz : World, wz = wr := ⟨_, rfl⟩
                have vx0 : (0 : Int) ≤ (x : Int) := by omega
                by_cases hlt : x < n5
                · have vx : (x : Int) < (n5 : Int) := by omega
                  obtain ⟨t1, qt1, hI1⟩ := L.at hlt
                  go_wp2_with fail
                  refine (l1Least_any _ _ _).mono ?_
                  rintro e w' ⟨rfl, rfl⟩
                  go_wp2_with fail
                  refine (l1Most_any _ _ _).mono ?_
                  rintro e w' ⟨rfl, rfl⟩
                  have L2 := L.set hg4 hlt (v := max (-999) (min 999 t1)) (by unfold I64; omega)
                  have fz := L.frz x
                  clear L
                  go_wp2
                  go_roundw
                  case rel => exact ⟨x + 1, by omega, by go_num, L2⟩
                  case measure => simp [intOf]; omega
                · obtain rfl : n5 = x := by omega
                  obtain ⟨wq, rfl⟩ : ∃ wz : World, wz = wo := ⟨_, rfl⟩
                  have L8 := L.mono (show A + 10 + 2 * n5 ≤ A + 60 by omega)
                  clear L
                  have HFR := Lib.hid D4
                  go_wp2_with fail
                  refine (one_dr _ 3 L8.D (by omega) (by unfold I64; omega)).mono ?_
                  rintro e w8 ⟨b, rfl, D8, E8⟩
                  have L9 := L8.step hg4 E8
                  clear L8 D8 E8
                  cases b
                  · have DF := HFR.out.trans L9.D
                    obtain ⟨X, oX⟩ := L9.op
                    go_wp2
                    go_ret
                    exact ⟨_, _, _, rfl, ⟨X, oX.mono hsz4⟩, by omega, h.trans (DF.mono (by omega)), DF.mono (by omega)⟩
                  · go_wp2_with fail
                    refine (pick_dr _ n5 L9.D (by omega) (by unfold I64; omega)).mono ?_
                    rintro e w9 ⟨y, rfl, hy, D9, E9⟩
                    have L10 := L9.step hg4 E9
                    clear L9 D9 E9
                    obtain ⟨y, rfl⟩ := Int.eq_ofNat_of_zero_le hy.1
                    have hyn : y < n5 := by omega
                    clear hy
                    have vy0 : (0 : Int) ≤ (y : Int) := by omega
                    have vy : (y : Int) < (n5 : Int) := by omega
                    have c1 := (L10.D.blk B4 HG.out).cell (j := 1) rfl
                    obtain ⟨bq, oq, rfl, qW⟩ := (L10.D.sl W4 hq).cells.resolve_left (by omega)
                    replace qW := qW y hyn
                    generalize nth W y = wy at qW
                    by_cases hwy : 0 < wy
                    rotate_left
                    · have DF := HFR.out.trans L10.D
                      obtain ⟨X, oX⟩ := L10.op
                      go_wp2
                      go_ret
                      exact ⟨_, _, _, rfl, ⟨X, oX.mono hsz4⟩, by omega, h.trans (DF.mono (by omega)), DF.mono (by omega)⟩
                    · obtain ⟨t1, qt1, hI1⟩ := L10.at hyn
                      have L10d : LsI w4 g (A + 60 + 2 + 2) (some ⟨ga, 0, none⟩) n5 j w9.drew := L10.fr ((Fr.refl w9).drew' 1)
                      have qt1d : w9.drew.cell? ⟨ga, y, none⟩ = some (.int .i64 t1) := qt1
                      have hgne : g ≠ ga := by have := L10.blt.1; omega
                      go_upto_region 28 with fail
                      clear c1 qW
                      go_region_with (first | (go_at_call 105; go_must (refine (pick_any g (A + 60 + 2 + 2) 4 _ (by first | with_reducible exact L10d.D.cur | with_reducible exact L10.D.cur) (by omega) (by unfold I64; omega)).mono ?_; rintro e wb ⟨r2, rfl, hr2a, hr2b, Cb, gB⟩; have Eb : Dr g (A + 60 + 2 + 2 + 2) _ wb := ⟨Cb, gB⟩; have PB : LsI w4 g (A + 60 + 2 + 2 + 2) (some ⟨ga, 0, none⟩) n5 j wb := (by first | with_reducible exact L10d.step hg4 Eb | with_reducible exact L10.step hg4 Eb); have qtb : wb.cell? ⟨ga, y, none⟩ = some (.int .i64 t1) := Eb.grow.cell (by first | with_reducible exact qt1d | with_reducible exact qt1) (fun e => hgne (by injection e with e; simp only at e; omega)); have fz := PB.frz y; have FIN := Lib.hid (fun (v : Int) (hv : I64 v) => LsI.fin (A2 := A + 1000) (PB.set hg4 hyn hv) D4 (by omega)))) | (go_at_call 128; refine (l1Most_any _ _ _).mono ?_; rintro e w' ⟨rfl, rfl⟩))
                      all_goals
                        clear L10 L10d PB Eb Cb gB
                        go_wp2
                        go_ret
                        exact ⟨_, _, _, rfl, (FIN.out _ (by first | exact i64_most64 _ | exact i64_most _)).1, by omega, h.trans (FIN.out _ (by first | exact i64_most64 _ | exact i64_most _)).2, (FIN.out _ (by first | exact i64_most64 _ | exact i64_most _)).2⟩
end Go.Proofs.Ytojipjjfndgbhaa
