import Derived.Test.YtojipjjfndgbhaaZH27
import Derived.Test.YtojipjjfndgbhaaZH12
import Derived.Test.YtojipjjfndgbhaaZH03
import Derived.Test.YtojipjjfndgbhaaZH11
/- Draws of a house and a list of deals. -/
set_option linter.unusedVariables false
namespace Go.Proofs.Ytojipjjfndgbhaa
open Go.ChangeShapes Go.WideShapes Go.ChangeAt Go.RowKit
theorem ap_deal (V : World) {ops : Array Oper} {rest : List Oper} {o : Oper} {act : Act} {Q : Exit → Act → World → Prop} (hgd : o.guard = none) (s x : Operand)
    (ho : o.op = .call { callee := .builtin .append, args := #[s, x], argTypes := #[65, 65] }) (B : Nat) (p : Option Addr) (n c : Nat) (xs : List D3) (z : D3)
    (hs : act.eval s = .slice p n c) (hx : act.eval x = .slice (some ⟨V.heap.size, 0, none⟩) 1 1) (hown : OwnD B V p n c xs) (hB : B ≤ V.heap.size) (hz : I64D z) (hn : n ≤ 1048576)
    (h : ∀ g c' w', OwnD B w' (some ⟨g, 0, none⟩) (n + 1) c' (xs ++ [z]) → V.grownBy w' (blkOf p) → (blkOf p = some g ∨ V.heap.size ≤ g) → wpList Try.prog ops Q rest (act.put o.dst (.slice (some ⟨g, 0, none⟩) (n + 1) c')) w') :
    wpList Try.prog ops Q (o :: rest) act (V.alloc (.cells #[.int .i64 z.1, .int .i64 z.2.1, .int .i64 z.2.2] 58)) := by
  obtain ⟨i0, hi, hz0, hz1, hz2⟩ := info_parts infoDeal
  have hb : (Value.slice p n c).ownBlock = blkOf p := by cases p <;> rfl
  have f := (Fr.refl V).alloc (.cells #[.int .i64 z.1, .int .i64 z.2.1, .int .i64 z.2.2] 58)
  have hsz := World.size_alloc V (.cells #[.int .i64 z.1, .int .i64 z.2.1, .int .i64 z.2.2] 58)
  refine wpList_append_lies _ hgd s x 65 ho B 58 i0 (.agg #[.int .i64 0, .int .i64 0, .int .i64 0]) 3 24 Try.underlying65 hi hz0 hz1 hz2 rfl (by omega) (.slice p n c) n _ hs (hown.fr f).row ⟨V.heap.size, 0, none⟩ 1 1 [.int .i64 z.1, .int .i64 z.2.1, .int .i64 z.2.2] hx rfl ?_ ?_ (by omega) (by unfold maxLen; omega) (by omega) (by omega) (V.heap.size + 1) hsz ?_
  · intro j u hu
    rw [addr_add, Nat.zero_add]
    rcases j with _ | _ | _ | j
    · rw [cell_of_row _ _ _ _ _ (0, 0) (heap_alloc_new V _)]; simpa using hu
    · rw [cell_of_row _ _ _ _ _ (0, 0) (heap_alloc_new V _)]; simpa using hu
    · rw [cell_of_row _ _ _ _ _ (0, 0) (heap_alloc_new V _)]; simpa using hu
    · simp at hu
  · intro u hu; simp at hu; rcases hu with rfl | rfl | rfl <;> rfl
  · intro g c' w' h1 h2 h3 _
    rw [hb] at h2 h3
    refine h g c' w' ⟨by simpa [dcells] using h1, ?_⟩ (grownBy_trans (World.grownBy_alloc V _ _) h2) (h3.imp id (fun e => by omega))
    intro y hy
    rcases List.mem_append.1 hy with hy | hy
    · exact hown.rng y hy
    · simp at hy; subst hy; exact hz
theorem OwnD.made0 {B : Nat} (w : World) (hB : B ≤ w.heap.size) : OwnD B (w.alloc (.cells #[] 58)) (some ⟨w.heap.size, 0, none⟩) 0 0 [] :=
  ⟨⟨by simp [dcells], .inr ⟨w.heap.size, 0, #[], rfl, hB, heap_alloc_new w _, Nat.le_refl _, by unfold maxLen; omega, by simp, by simp [dcells]⟩⟩, by simp⟩
theorem OwnD.low {B k n c : Nat} {w : World} {y : Option Addr} {ds : List D3} (O : OwnD B w y n c ds) (hk : k < B) : blkOf y = none ∨ blkOf y ≠ some k := .inr fun e => by have := (O.blk k e).1; omega
theorem grown7 (w : World) (r : Nat) (u0 u1 u2 u3 u4 u5 u6 : Value) : w.grownBy (((((((w.setCell ⟨r, 0, none⟩ u0).setCell ⟨r, 1, none⟩ u1).setCell ⟨r, 2, none⟩ u2).setCell ⟨r, 3, none⟩ u3).setCell ⟨r, 4, none⟩ u4).setCell ⟨r, 5, none⟩ u5).setCell ⟨r, 6, none⟩ u6) (some r) :=
  grownBy_setCell (grownBy_setCell (grownBy_setCell (grownBy_setCell (grownBy_setCell (grownBy_setCell (grownBy_setCell (grownBy_refl w (some r)) (p := ⟨r, 0, none⟩) rfl u0) (p := ⟨r, 1, none⟩) rfl u1) (p := ⟨r, 2, none⟩) rfl u2) (p := ⟨r, 3, none⟩) rfl u3) (p := ⟨r, 4, none⟩) rfl u4) (p := ⟨r, 5, none⟩) rfl u5) (p := ⟨r, 6, none⟩) rfl u6
/-- A list lies apart from a house and its box. -/
structure AwI (y p q a : Option Addr) (k : Nat) : Prop where
  k : blkOf y ≠ some k
  p : Apart p y
  q : Apart q y
  a : Apart a y
theorem apart_row {B : Nat} {w w' : World} {a b : Option Addr} {n c : Nat} {xs : List Int} (h : Own B w a n c xs) (hgr : w.grownBy w' (blkOf b)) (hab : Apart a b) : Own B w' a n c xs := own_row h hgr (fun z e1 e2 => hab z e2 e1)
theorem HoI.grown {L g A k : Nat} {w wr w' : World} {p q a y : Option Addr} {n c m d l b : Nat} {h : HSt} (H : HoI L w g A k p q a n c m d l b h wr) (hg : g < w.heap.size) (hgr : wr.grownBy w' (blkOf y)) (W : AwI y p q a k) (hy : ∀ z, blkOf y = some z → w.heap.size ≤ z) : HoI L w g A k p q a n c m d l b h w' :=
  ⟨H.B.grown hgr W.k, ⟨apart_row H.N.op hgr W.p, apart_row H.N.oq hgr W.q, apart_row H.N.ox hgr W.a, H.N.ap, H.N.aq, H.N.I, H.N.le⟩, H.ne, H.D.app hgr hy hg, H.lo⟩
/-- A list that grew: its block is the old one or new. -/
theorem AwI.next {L g A k g' : Nat} {w wr : World} {p q a y : Option Addr} {n c m d l b : Nat} {h : HSt} (W : AwI y p q a k) (H : HoI L w g A k p q a n c m d l b h wr) (hnew : blkOf y = some g' ∨ wr.heap.size ≤ g') : AwI (some ⟨g', 0, none⟩) p q a k := by
  have hlt := H.B.lt
  refine ⟨fun e => ?_, fun z e1 e2 => ?_, fun z e1 e2 => ?_, fun z e1 e2 => ?_⟩
  · obtain rfl : g' = k := by simpa [blkOf] using e
    rcases hnew with e | e
    · exact W.k e
    · omega
  all_goals obtain rfl : g' = z := by simpa [blkOf] using e2
  all_goals rcases hnew with e | e
  · exact W.p g' e1 e
  · have := (H.N.op.blk g' e1).2; omega
  · exact W.q g' e1 e
  · have := (H.N.oq.blk g' e1).2; omega
  · exact W.a g' e1 e
  · have := (H.N.ox.blk g' e1).2; omega
set_option maxRecDepth 100000 in
set_option maxHeartbeats 2000000 in
theorem DrawDealAll_any (w : World) (a : Option Addr) (n cap : Nat) (zs : List Int) (h : SLB w a n cap zs) :
    Calls Try.prog 59 #[.slice a n cap] w fun e w' => ∃ (hh : HSt) (p q a : Option Addr) (n c m d l b : Nat) (y : Option Addr) (k e' : Nat) (ds : List D3), e = .returned (.tuple #[.agg #[.slice p n c, .slice q m d, .slice a l b, .int .i64 hh.t, .int .i64 hh.s, .int .i64 hh.u, .int .i64 hh.v], .slice y k e']) ∧ HsN 51 w.heap.size w' p q a n c m d l b hh ∧ SD w' y k e' ds ∧ k ≤ 5 ∧ Fr w w' := by
  have f0 := (Fr.refl w).alloc (.cells #[.slice none 0 0, .slice none 0 0, .slice none 0 0, .int .i64 0, .int .i64 0, .int .i64 0, .int .i64 0] 31)
  have D0 := Dr.start (h.fr f0)
  have HB := (Blk.new w #[.slice none 0 0, .slice none 0 0, .slice none 0 0, .int .i64 0, .int .i64 0, .int .i64 0, .int .i64 0] 31).alloc (.cells #[.slice a n cap, .int .i64 0, .int .u64 0] 110)
  have HE : Hid (∀ (A : Nat) (w' : World), Dr (w.alloc (.cells #[.slice none 0 0, .slice none 0 0, .slice none 0 0, .int .i64 0, .int .i64 0, .int .i64 0, .int .i64 0] 31)).heap.size A ((w.alloc (.cells #[.slice none 0 0, .slice none 0 0, .slice none 0 0, .int .i64 0, .int .i64 0, .int .i64 0, .int .i64 0] 31)).alloc (.cells #[.slice a n cap, .int .i64 0, .int .u64 0] 110)) w' → Fr w w') := Lib.hid fun A w' h => f0.trans (h.ends rfl)
  have hg : w.heap.size + 1 < ((w.alloc (.cells #[.slice none 0 0, .slice none 0 0, .slice none 0 0, .int .i64 0, .int .i64 0, .int .i64 0, .int .i64 0] 31)).alloc (.cells #[.slice a n cap, .int .i64 0, .int .u64 0] 110)).heap.size := by simp
  clear h f0
  rw [World.size_alloc] at D0 HE
  go_enter Try.func59, Try.ntmps59
  go_upto_region 2 with fail
  generalize (w.alloc (.cells #[.slice none 0 0, .slice none 0 0, .slice none 0 0, .int .i64 0, .int .i64 0, .int .i64 0, .int .i64 0] 31)).alloc (.cells #[.slice a n cap, .int .i64 0, .int .u64 0] 110) = v0 at D0 HB HE hg ⊢
  go_wp2_with fail
  refine (house_dr _ D0 (by omega)).mono ?_
  rintro e w1 ⟨hh, p, q, a, n, c, m, d, l, b, rfl, N1, D1, -⟩
  have S5 := HoI.made N1 (Nat.le_refl _) D1
  have HD := Lib.hid (fun (A : Nat) (V : World) (E : Dr (w.heap.size + 1) A v0 V) => And.intro (E.blk HB (show w.heap.size + 1 ≠ w.heap.size by omega)) (HE.out _ _ E))
  have hs1 := D1.size
  have hn5 := N1.high (Nat.le_refl _)
  clear N1 D1 D0 HB
  go_upto_region 3 with fail
  have hz2 : w1.heap.size < (w1.alloc (.cells #[.slice p n c, .slice q m d, .slice a l b, .int .i64 hh.t, .int .i64 hh.s, .int .i64 hh.u, .int .i64 hh.v] 31)).heap.size := by rw [World.size_alloc]; exact Nat.lt_succ_self _
  generalize hk5 : w1.heap.size = b5 at S5 hs1 hn5 hz2
  clear hk5
  generalize w1.alloc _ = w2 at S5 hz2 ⊢
  have O2 := OwnD.made0 (B := v0.heap.size) w2 (by omega)
  have f3 := (Fr.refl w2).alloc (.cells #[] 58)
  have hn6 := S5.N.high (Nat.le_refl _)
  replace S5 := S5.fr f3
  have hz3 : w2.heap.size < (w2.alloc (.cells #[] 58)).heap.size := by rw [World.size_alloc]; exact Nat.lt_succ_self _
  clear f3
  go_upto_region 4 with fail
  generalize hk6 : w2.heap.size = b6 at O2 hz2 hz3 hn6 ⊢
  clear hk6
  generalize w2.alloc _ = w3 at S5 O2 hz3 ⊢
  have k0 := S5.c0; have k1 := S5.c1; have k2 := S5.c2; have k3 := S5.c3; have k4 := S5.c4; have k5 := S5.c5; have k6 := S5.c6
  have S7 := HoI.made S5.N (Nat.le_refl _) S5.D
  have f4 := (Fr.refl w3).alloc (.cells #[.slice p n c, .slice q m d, .slice a l b, .int .i64 hh.t, .int .i64 hh.s, .int .i64 hh.u, .int .i64 hh.v] 31)
  have HN7 : Hid (blkOf p ≠ some w3.heap.size ∧ blkOf q ≠ some w3.heap.size ∧ blkOf a ≠ some w3.heap.size) := Lib.hid (S5.N.high (Nat.le_refl _))
  have ha : Apart p (some ⟨b6, 0, none⟩) ∧ Apart q (some ⟨b6, 0, none⟩) ∧ Apart a (some ⟨b6, 0, none⟩) := ⟨fun z e1 e2 => hn6.1 (e1.trans e2.symm), fun z e1 e2 => hn6.2.1 (e1.trans e2.symm), fun z e1 e2 => hn6.2.2 (e1.trans e2.symm)⟩
  have W5 : AwI (some ⟨b6, 0, none⟩) p q a b5 := ⟨fun e => by injection e with e; simp only at e; omega, ha.1, ha.2.1, ha.2.2⟩
  have W7 : AwI (some ⟨b6, 0, none⟩) p q a w3.heap.size := ⟨fun e => by injection e with e; simp only at e; omega, ha.1, ha.2.1, ha.2.2⟩
  replace S5 := S5.fr f4
  replace O2 := O2.fr f4
  have hb57 : w3.heap.size ≠ b5 := by omega
  clear ha hn6 f4 hn5
  go_upto_region 5 with fail
  generalize hk7 : w3.heap.size = b7 at S7 HN7 W7 hb57 ⊢
  clear hk7 k0 k1 k2 k3 k4 k5 k6 hz3
  generalize w3.alloc _ = w4 at S5 S7 O2 ⊢
  have HB57 := Lib.hid hb57
  clear hb57 hz2 hs1
  go_wp2_with fail
  refine (pick_dr _ 6 S5.D (by omega) (by unfold I64; omega)).mono ?_
  rintro e w5 ⟨r, rfl, hr, D5, E5⟩
  replace S5 := (S5.step hg E5).mono (show 0 + 3000 + 2 ≤ 3100 by omega)
  replace S7 := (S7.step hg E5).mono (show 0 + 3000 + 2 ≤ 3100 by omega)
  replace O2 := O2.grown E5.grow (O2.low hg)
  clear D5 E5
  obtain ⟨r, rfl⟩ := Int.eq_ofNat_of_zero_le hr.1
  have hr5 : r ≤ 5 := by omega
  clear hr
  go_wp2
  go_loopw [6, 8] (fun s i wr => ∃ (x j cy A : Nat) (y : Option Addr) (ds : List D3) (h7 : HSt) (p7 q7 a7 : Option Addr) (n7 c7 m7 d7 l7 e7 : Nat), i = .int .i64 x ∧ s = .slice y j cy ∧ x + j ≤ 5 ∧ A + 100 * x ≤ 10000 ∧ HoI 51 v0 (w.heap.size + 1) A b5 p q a n c m d l b hh wr ∧ HoI 51 v0 (w.heap.size + 1) A b7 p7 q7 a7 n7 c7 m7 d7 l7 e7 h7 wr ∧ OwnD v0.heap.size wr y j cy ds ∧ AwI y p q a b5 ∧ AwI y p7 q7 a7 b7) (fun _ i _ => (intOf i).toNat)
  case atStart => exact ⟨r, 0, 0, 3100, _, [], hh, _, _, _, _, _, _, _, _, _, rfl, rfl, by omega, by omega, S5, S7, O2, W5, W7⟩
  case round =>
    clear S5 S7 O2 W5 W7
    obtain ⟨x, j, cy, A, y, ds, h7, p7, q7, a7, n7, c7, m7, d7, l7, e7, rfl, rfl, hxj, hA, S5, S7, O, W5, W7⟩ := hrel
    obtain ⟨wo, rfl⟩ : ∃ wz : World, wz = wr := ⟨_, rfl⟩
    by_cases h0 : 0 < x
    rotate_left
    · obtain rfl : x = 0 := by omega
      clear S7 W5 W7
      obtain ⟨R, F⟩ := HD.out _ _ S5.D
      have k0 := S5.c0; have k1 := S5.c1; have k2 := S5.c2; have k3 := S5.c3; have k4 := S5.c4; have k5 := S5.c5; have k6 := S5.c6
      have u0 := R.cell (j := 0) rfl; have u1 := R.cell (j := 1) rfl; have u2 := R.cell (j := 2) rfl; have u3 := R.cell (j := 3) rfl; have u4 := R.cell (j := 4) rfl; have u5 := R.cell (j := 5) rfl; have u6 := R.cell (j := 6) rfl
      have i0 := R.free 0; have i1 := R.free 1; have i2 := R.free 2; have i3 := R.free 3; have i4 := R.free 4; have i5 := R.free 5; have i6 := R.free 6
      have FIN := Lib.hid (And.intro (R.set7 (.slice p n c) (.slice q m d) (.slice a l b) (.int .i64 hh.t) (.int .i64 hh.s) (.int .i64 hh.u) (.int .i64 hh.v)) (And.intro ((S5.N.set7 (S5.N.low (show w.heap.size < v0.heap.size by omega)) (.slice p n c) (.slice q m d) (.slice a l b) (.int .i64 hh.t) (.int .i64 hh.s) (.int .i64 hh.u) (.int .i64 hh.v)).mono (show w.heap.size ≤ v0.heap.size by omega) (Nat.le_refl _)) (And.intro (O.grown (grown7 wo w.heap.size (.slice p n c) (.slice q m d) (.slice a l b) (.int .i64 hh.t) (.int .i64 hh.s) (.int .i64 hh.u) (.int .i64 hh.v)) (OwnD.low O (show w.heap.size < v0.heap.size by omega))).sd (F.set7 (g := w.heap.size) (Nat.le_refl _) (.slice p n c) (.slice q m d) (.slice a l b) (.int .i64 hh.t) (.int .i64 hh.s) (.int .i64 hh.u) (.int .i64 hh.v)))))
      clear S5 R F O HD
      go_wp2
      refine bodyPost_ret (results_HB Try.results59 _ _ w.heap.size _ _ _ _ _ _ _ _ rfl rfl (FIN.out.1.cell rfl) (FIN.out.1.cell rfl) (FIN.out.1.cell rfl) (FIN.out.1.cell rfl) (FIN.out.1.cell rfl) (FIN.out.1.cell rfl) (FIN.out.1.cell rfl)) rfl ?_
      exact ⟨hh, _, _, _, _, _, _, _, _, _, _, _, _, ds, rfl, FIN.out.2.1, FIN.out.2.2.1, by omega, FIN.out.2.2.2⟩
    · have vx : (0 : Int) < (x : Int) := by omega
      have k0 := S7.c0; have k1 := S7.c1; have k2 := S7.c2; have k3 := S7.c3; have k4 := S7.c4; have k5 := S7.c5; have k6 := S7.c6
      go_wp2_with fail
      refine (l12Good_any _ _ _ _ _ _ _ _ _ _ _ _ _ S7.N.op.sl S7.N.oq.sl S7.N.ox.sl _ _ _ _).mono ?_
      rintro e w6 ⟨rfl, f⟩
      replace S5 := S5.fr f
      replace S7 := S7.fr f
      replace O := O.fr f
      clear k0 k1 k2 k3 k4 k5 k6 f
      cases hok : houseB h7.P h7.W h7.X h7.t h7.s h7.u h7.v
      · clear hok S7 W5 W7
        obtain ⟨wo, rfl⟩ : ∃ wz : World, wz = w6 := ⟨_, rfl⟩
        obtain ⟨R, F⟩ := HD.out _ _ S5.D
        have k0 := S5.c0; have k1 := S5.c1; have k2 := S5.c2; have k3 := S5.c3; have k4 := S5.c4; have k5 := S5.c5; have k6 := S5.c6
        have u0 := R.cell (j := 0) rfl; have u1 := R.cell (j := 1) rfl; have u2 := R.cell (j := 2) rfl; have u3 := R.cell (j := 3) rfl; have u4 := R.cell (j := 4) rfl; have u5 := R.cell (j := 5) rfl; have u6 := R.cell (j := 6) rfl
        have i0 := R.free 0; have i1 := R.free 1; have i2 := R.free 2; have i3 := R.free 3; have i4 := R.free 4; have i5 := R.free 5; have i6 := R.free 6
        have FIN := Lib.hid (And.intro (R.set7 (.slice p n c) (.slice q m d) (.slice a l b) (.int .i64 hh.t) (.int .i64 hh.s) (.int .i64 hh.u) (.int .i64 hh.v)) (And.intro ((S5.N.set7 (S5.N.low (show w.heap.size < v0.heap.size by omega)) (.slice p n c) (.slice q m d) (.slice a l b) (.int .i64 hh.t) (.int .i64 hh.s) (.int .i64 hh.u) (.int .i64 hh.v)).mono (show w.heap.size ≤ v0.heap.size by omega) (Nat.le_refl _)) (And.intro (O.grown (grown7 wo w.heap.size (.slice p n c) (.slice q m d) (.slice a l b) (.int .i64 hh.t) (.int .i64 hh.s) (.int .i64 hh.u) (.int .i64 hh.v)) (OwnD.low O (show w.heap.size < v0.heap.size by omega))).sd (F.set7 (g := w.heap.size) (Nat.le_refl _) (.slice p n c) (.slice q m d) (.slice a l b) (.int .i64 hh.t) (.int .i64 hh.s) (.int .i64 hh.u) (.int .i64 hh.v)))))
        clear S5 R F O HD
        go_wp2
        refine bodyPost_ret (results_HB Try.results59 _ _ w.heap.size _ _ _ _ _ _ _ _ rfl rfl (FIN.out.1.cell rfl) (FIN.out.1.cell rfl) (FIN.out.1.cell rfl) (FIN.out.1.cell rfl) (FIN.out.1.cell rfl) (FIN.out.1.cell rfl) (FIN.out.1.cell rfl)) rfl ?_
        exact ⟨hh, _, _, _, _, _, _, _, _, _, _, _, _, ds, rfl, FIN.out.2.1, FIN.out.2.2.1, by omega, FIN.out.2.2.2⟩
      · have HOB := Lib.hid hok
        have HOK : Hid (hOk h7 = true) := Lib.hid hok
        clear hok
        have k0 := S7.c0; have k1 := S7.c1; have k2 := S7.c2; have k3 := S7.c3; have k4 := S7.c4; have k5 := S7.c5; have k6 := S7.c6
        have hl4 : l7 ≤ 1000000 := by have := S7.N.le; omega
        have HPG : Hid (∀ z, blkOf p7 = some z → z ≠ w.heap.size + 1) := Lib.hid fun z e => by have := (S7.N.op.blk z e).1; omega
        go_wp2_with fail
        refine (deal12_dr _ p7 q7 a7 n7 c7 m7 d7 l7 e7 h7.P h7.W h7.X h7.t h7.s h7.u h7.v S7.D (by omega) S7.N.op.sl HOB.out hl4 HPG.out).mono ?_
        rintro e w8 ⟨kd, da, db, rfl, hI, D8, E8⟩
        replace S5 := S5.step hg E8
        replace S7 := S7.step hg E8
        replace O := O.grown E8.grow (O.low hg)
        have f9 := (Fr.refl w8).alloc (.cells #[.int .i64 kd, .int .i64 da, .int .i64 db] 58)
        have B9 := Blk.new w8 #[.int .i64 kd, .int .i64 da, .int .i64 db] 58
        have h9 : blkOf y ≠ some w8.heap.size := fun e => by have := (O.blk _ e).2; omega
        replace S5 := S5.fr f9
        replace S7 := S7.fr f9
        replace O := O.fr f9
        clear D8 E8 k0 k1 k2 k3 k4 k5 k6 f9
        go_upto_region 9 with fail
        generalize w8.heap.size = b9 at B9 h9 ⊢
        generalize w8.alloc _ = w9 at S5 S7 O B9 ⊢
        have y0 := B9.cell (j := 0) (v := .int .i64 kd) rfl; have y1 := B9.cell (j := 1) (v := .int .i64 da) rfl; have y2 := B9.cell (j := 2) (v := .int .i64 db) rfl
        have hsz := S5.D.size
        go_wp2_with (at_builtin; refine ap_deal w9 rfl _ _ rfl v0.heap.size y j cy ds (kd, da, db) rfl rfl O hsz hI (by omega) ?_)
        intro g' cy' w10 q1 q2 q3
        have hy := fun z e => (O.blk z e).1
        have W5n := W5.next S5 q3
        have W7n := W7.next S7 q3
        replace S5 := S5.grown hg q2 W5 hy
        replace S7 := S7.grown hg q2 W7 hy
        replace B9 := B9.grown q2 h9
        have O := q1
        clear W5 W7 q2 q3 hy h9 y0 y1 y2 q1
        go_upto_region 10 with fail
        have k0 := S7.c0; have k1 := S7.c1; have k2 := S7.c2; have k3 := S7.c3; have k4 := S7.c4; have k5 := S7.c5; have k6 := S7.c6
        have y0 := B9.cell (j := 0) (v := .int .i64 kd) rfl; have y1 := B9.cell (j := 1) (v := .int .i64 da) rfl; have y2 := B9.cell (j := 2) (v := .int .i64 db) rfl
        go_wp2_with fail
        refine (l12Do_st _ p7 q7 a7 n7 c7 m7 d7 l7 e7 h7 kd da db S7.N.op.sl S7.N.oq.sl S7.N.ox.sl HOK.out hI).mono ?_
        rintro e w11 ⟨h2, bb, p2, q2, a2, n2, c2, m2, d2, l2, e2, rfl, hok2, N2, f⟩
        have hv10 := S7.D.size
        have hb10 := S7.B.lt
        have hg10 := (O.blk g' rfl).2
        have fa := f.alloc (.cells #[.slice p2 n2 c2, .slice q2 m2 d2, .slice a2 l2 e2, .int .i64 h2.t, .int .i64 h2.s, .int .i64 h2.u, .int .i64 h2.v] 31)
        have N3 := N2.fr ((Fr.refl w11).alloc (.cells #[.slice p2 n2 c2, .slice q2 m2 d2, .slice a2 l2 e2, .int .i64 h2.t, .int .i64 h2.s, .int .i64 h2.u, .int .i64 h2.v] 31))
        have B10 := Blk.new w11 #[.slice p2 n2 c2, .slice q2 m2 d2, .slice a2 l2 e2, .int .i64 h2.t, .int .i64 h2.s, .int .i64 h2.u, .int .i64 h2.v] 31
        replace S5 := S5.fr fa
        replace S7 := S7.fr fa
        replace O := O.fr fa
        clear k0 k1 k2 k3 k4 k5 k6 y0 y1 y2 B9 f fa hok2 HOK HOB N2
        go_upto_region 11 with fail
        generalize w11.heap.size = b10 at B10 ⊢
        generalize w11.alloc _ = w12 at S5 S7 O B10 N3 ⊢
        cases bb
        · go_wp2
          go_roundw
          case rel => exact ⟨x - 1, j + 1, _, A + 50, _, _, h7, _, _, _, _, _, _, _, _, _, by go_num, rfl, by omega, by omega, S5, S7, O, W5n, W7n⟩
          case measure => simp [intOf]; omega
        · have y0 := B10.cell (j := 0) (v := .slice p2 n2 c2) rfl; have y1 := B10.cell (j := 1) (v := .slice q2 m2 d2) rfl; have y2 := B10.cell (j := 2) (v := .slice a2 l2 e2) rfl; have y3 := B10.cell (j := 3) (v := .int .i64 h2.t) rfl; have y4 := B10.cell (j := 4) (v := .int .i64 h2.s) rfl; have y5 := B10.cell (j := 5) (v := .int .i64 h2.u) rfl; have y6 := B10.cell (j := 6) (v := .int .i64 h2.v) rfl
          have k0 := S7.c0; have k1 := S7.c1; have k2 := S7.c2; have k3 := S7.c3; have k4 := S7.c4; have k5 := S7.c5; have k6 := S7.c6
          have i0 := S7.B.free 0; have i1 := S7.B.free 1; have i2 := S7.B.free 2; have i3 := S7.B.free 3; have i4 := S7.B.free 4; have i5 := S7.B.free 5; have i6 := S7.B.free 6
          have hlow := N3.low hb10
          have S7n := Lib.hid ((S7.put hg N3 hv10 hlow).wide (show 50 ≤ 51 by omega))
          have S5n := Lib.hid (S5.set7 hg S7.lo HB57.out HN7.out (.slice p2 n2 c2) (.slice q2 m2 d2) (.slice a2 l2 e2) (.int .i64 h2.t) (.int .i64 h2.s) (.int .i64 h2.u) (.int .i64 h2.v))
          have On := Lib.hid (O.grown (grown7 w12 b7 (.slice p2 n2 c2) (.slice q2 m2 d2) (.slice a2 l2 e2) (.int .i64 h2.t) (.int .i64 h2.s) (.int .i64 h2.u) (.int .i64 h2.v)) (.inr W7n.k))
          have hlg := N3.low hg10
          have W7m : Hid (AwI (some ⟨g', 0, none⟩) p2 q2 a2 b7) := Lib.hid ⟨W7n.k, fun z e1 e2 => hlg.1 (e1.trans e2.symm), fun z e1 e2 => hlg.2.1 (e1.trans e2.symm), fun z e1 e2 => hlg.2.2 (e1.trans e2.symm)⟩
          have W5m := Lib.hid W5n
          clear S5 S7 O B10 N3 W5n W7n hlow hlg
          go_wp2
          go_roundw
          case rel => exact ⟨x - 1, j + 1, _, A + 50, _, _, h2, _, _, _, _, _, _, _, _, _, by go_num, rfl, by omega, by omega, S5n.out, S7n.out, On.out, W5m.out, W7m.out⟩
          case measure => simp [intOf]; omega
end Go.Proofs.Ytojipjjfndgbhaa
/- Walks from the root change the purse by the gains of a stake. Plain part. -/
set_option linter.unusedVariables false
namespace Go.Proofs.Ytojipjjfndgbhaa
open Go.ChangeShapes Go.WideShapes Go.ChangeAt Go.RowKit
theorem nth_app_l {xs ys : List Int} {i : Nat} (h : i < xs.length) : nth (xs ++ ys) i = nth xs i := by
  unfold nth; rw [List.getElem?_append_left h]
theorem way_ends {P : List Int} (h : parB P = true) : ∀ (f x : Nat), x ≤ f → x < P.length → nth (wayM P x) 0 = 0 ∧ nth (wayM P x) ((wayM P x).length - 1) = (x : Int)
  | 0, x, hf, hx => by
    obtain rfl : x = 0 := by omega
    rw [wayM_zero]; exact ⟨rfl, rfl⟩
  | f + 1, x, hf, hx => by
    by_cases h0 : x = 0
    · subst h0; rw [wayM_zero]; exact ⟨rfl, rfl⟩
    · have hp := (par_of h hx (by omega)).2
      have ih := way_ends h f _ (show par P x ≤ f by omega) (by omega)
      have hl := wayM_len h (show par P x < P.length by omega)
      rw [wayM_succ h hx (by omega)]
      refine ⟨by rw [nth_app_l (by omega)]; exact ih.1, ?_⟩
      simp [nth]
theorem way_next {P : List Int} (h : parB P = true) : ∀ (f x : Nat), x ≤ f → x < P.length → ∀ k, k + 1 < (wayM P x).length → ∃ y z : Nat, nth (wayM P x) k = (z : Int) ∧ nth (wayM P x) (k + 1) = (y : Int) ∧ nth P y = (z : Int) ∧ y < P.length ∧ z < P.length
  | 0, x, hf, hx, k, hk => by
    obtain rfl : x = 0 := by omega
    rw [wayM_zero] at hk; simp at hk
  | f + 1, x, hf, hx, k, hk => by
    by_cases h0 : x = 0
    · subst h0; rw [wayM_zero] at hk; simp at hk
    · have hp := par_of h hx (by omega)
      have hl := wayM_len h (show par P x < P.length by omega)
      have ih := way_next h f _ (show par P x ≤ f by omega) (by omega) k
      have he := (way_ends h f _ (show par P x ≤ f by omega) (by omega)).2
      rw [wayM_succ h hx (by omega)] at hk ⊢
      rw [List.length_append, List.length_singleton] at hk
      by_cases hk2 : k + 1 < (wayM P (par P x)).length
      · obtain ⟨y, z, h1, h2, h3, h4, h5⟩ := ih hk2
        exact ⟨y, z, by rw [nth_app_l (by omega)]; exact h1, by rw [nth_app_l hk2]; exact h2, h3, h4, h5⟩
      · have e : k = (wayM P (par P x)).length - 1 := by omega
        refine ⟨x, par P x, ?_, ?_, hp.1, hx, by omega⟩
        · rw [nth_app_l (by omega), e]; exact he
        · have e2 : k + 1 = (wayM P (par P x)).length := by omega
          rw [e2]; simp [nth]
theorem l3_house {P W X : List Int} {x s u v : Int} (h : l3B P W X = true) (hx : 0 ≤ x ∧ x < P.length) (hs : -20 ≤ s ∧ s ≤ 20) (hu : -1000000 ≤ u ∧ u ≤ 1000000) (hv : 0 ≤ v ∧ v ≤ 1000) : houseB P W X x s u v = true := by
  rw [houseB, h, inB_iff.2 (show 0 ≤ x ∧ x ≤ (P.length : Int) - 1 by omega), inB_iff.2 hs, inB_iff.2 hu, inB_iff.2 hv]; rfl
theorem l3_X {P W X : List Int} (h : l3B P W X = true) (i : Nat) : -999 ≤ nth X i ∧ nth X i ≤ 999 :=
  nth_bd (procB_iff.1 (l3B_iff.1 h).2).2 (by omega) (by omega) i
/-- The stake of 3 is possible. -/
theorem stake_go {P W X : List Int} (h : l3B P W X = true) : dealB P W X 0 0 0 0 2 3 0 = true := by
  have hl := l3B_len h
  have h1 : houseB P W X 0 0 0 0 = true := by rw [houseB_zero]; exact h
  have h2 : houseB P W X 0 3 0 1 = true := l3_house h (by omega) (by omega) (by omega) (by omega)
  rw [dealB, h1, goB, doneB]
  simp [mayB, dW, dX, dAt, dSt, dPu, h2]
/-- A walk to a child is possible. -/
theorem walkYes {P W X : List Int} (h : l3B P W X = true) {z y : Nat} {k : Int} (hz : z < P.length) (hy : y < P.length) (e : nth P y = (z : Int)) (hk : 0 ≤ k ∧ k ≤ 999) : dealB P W X z 3 (3 * (nth X z - nth X 0)) k 1 y 0 = true := by
  have x0 := l3_X h 0; have xz := l3_X h z; have xy := l3_X h y
  have h1 : houseB P W X z 3 (3 * (nth X z - nth X 0)) k = true := l3_house h (by omega) (by omega) (by omega) (by omega)
  have h2 : houseB P W X y 3 (3 * (nth X z - nth X 0) + 3 * (nth X y - nth X z)) (k + 1) = true := l3_house h (by omega) (by omega) (by omega) (by omega)
  have h3 : (y : Int) ∈ kidsTo P z P.length := kids_mem.2 ⟨y, rfl, hy, e⟩
  rw [dealB, h1, goB, doneB]
  simp [mayB, dW, dX, dAt, dSt, dPu, h2, h3]
theorem walk_purse (X : List Int) (z y : Nat) : dPu X z 3 (3 * (nth X z - nth X 0)) 1 y = 3 * (nth X y - nth X 0) := by
  simp [dPu]; omega
end Go.Proofs.Ytojipjjfndgbhaa
