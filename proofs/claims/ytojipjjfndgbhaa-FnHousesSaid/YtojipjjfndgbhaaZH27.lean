import Derived.Test.YtojipjjfndgbhaaZH26
/- Draws of a tree with prices, and of a house with a deal. -/
set_option linter.unusedVariables false
namespace Go.Proofs.Ytojipjjfndgbhaa
open Go.ChangeShapes Go.WideShapes Go.ChangeAt Go.RowKit
set_option maxRecDepth 100000 in
theorem tree_dr {g A : Nat} {w0 : World} (w : World) (h : Dr g A w0 w) (hA : A ≤ 900000000) :
    Calls Try.prog 101 #[.pointer (some ⟨g, 0, none⟩)] w fun e w' => ∃ (p : Option Addr) (n c : Nat) (q : Option Addr) (m d : Nat), e = .returned (.agg #[.slice p n c, .slice q m d]) ∧ (∃ P, Own w.heap.size w' p n c P) ∧ (∃ W, Own w.heap.size w' q m d W) ∧ (n ≤ 25 ∧ m ≤ 50) ∧ Dr g (A + 500) w0 w' ∧ Dr g (A + 500) w w' := by
  have hg0 := h.cur.lt
  have D0 := (Dr.refl h.cur).alloc (.cells #[.slice none 0 0, .slice none 0 0] 29)
  have HB := Blk.new w #[.slice none 0 0, .slice none 0 0] 29
  have hz : (w.alloc (.cells #[.slice none 0 0, .slice none 0 0] 29)).heap.size = w.heap.size + 1 := World.size_alloc _ _
  go_enter Try.func101, Try.ntmps101
  go_upto_region 1 with fail
  generalize w.alloc (.cells #[.slice none 0 0, .slice none 0 0] 29) = v0 at D0 HB hz ⊢
  have hlt : w.heap.size < v0.heap.size := by omega
  clear hz
  go_wp2_with fail
  refine (someTree_dr _ 24 D0 (by omega) (by omega)).mono ?_
  rintro e w1 ⟨p, n, c, q, m, d, rfl, ⟨P, oP⟩, ⟨W, oW⟩, hle, D1, E1⟩
  have R := E1.blk HB (by omega)
  have E := (R.set 0 (.slice p n c)).set 1 (.slice q m d)
  simp only [List.setIfInBounds_toArray, List.set_cons_zero, List.set_cons_succ] at E
  have n1 : blkOf p ≠ some w.heap.size := fun e => by have := (oP.blk _ e).1; omega
  have n2 : blkOf q ≠ some w.heap.size := fun e => by have := (oW.blk _ e).1; omega
  have o1 := ((oP.setOther (p := ⟨w.heap.size, 0, none⟩) n1 (.slice p n c)).setOther (p := ⟨w.heap.size, 1, none⟩) n1 (.slice q m d)).mono (Nat.le_of_lt hlt)
  have o2 := ((oW.setOther (p := ⟨w.heap.size, 0, none⟩) n2 (.slice p n c)).setOther (p := ⟨w.heap.size, 1, none⟩) n2 (.slice q m d)).mono (Nat.le_of_lt hlt)
  have D2 := (D1.set (q := ⟨w.heap.size, 0, none⟩) (Nat.le_refl _) hg0 (.slice p n c)).set (q := ⟨w.heap.size, 1, none⟩) (Nat.le_refl _) hg0 (.slice q m d)
  have FIN := Lib.hid (And.intro E (And.intro o1 (And.intro o2 D2)))
  have u0 := R.cell (j := 0) rfl; have u1 := R.cell (j := 1) rfl
  have i0 := R.free 0; have i1 := R.free 1
  clear o1 o2 D2 E R oP oW D0 D1 E1 HB
  go_wp2
  refine bodyPost_ret (results_T Try.results101 _ _ w.heap.size (.slice p n c) (.slice q m d) rfl (FIN.out.1.cell rfl) (FIN.out.1.cell rfl)) rfl ?_
  exact ⟨_, _, _, _, _, _, rfl, ⟨P, FIN.out.2.1⟩, ⟨W, FIN.out.2.2.1⟩, hle, h.trans FIN.out.2.2.2, FIN.out.2.2.2⟩
theorem cell2 {w : World} {g b j : Nat} (v0 v1 : Value) (hne : g ≠ b) : ((w.setCell ⟨g, 0, none⟩ v0).setCell ⟨g, 1, none⟩ v1).cell? ⟨b, j, none⟩ = w.cell? ⟨b, j, none⟩ := by
  have e : ∀ (x : World) (i : Nat) (v : Value), (x.setCell ⟨g, i, none⟩ v).cell? ⟨b, j, none⟩ = x.cell? ⟨b, j, none⟩ := fun x i v => by
    apply World.cell?_setCell_other; intro h; simp only [Addr.mk.injEq] at h; exact hne h.1
  rw [e, e]
set_option maxRecDepth 100000 in
set_option maxHeartbeats 1000000 in
theorem DrawNewHouse_any (w : World) (a : Option Addr) (n cap : Nat) (zs : List Int) (h : SLB w a n cap zs) :
    Calls Try.prog 56 #[.slice a n cap] w fun e w' => ∃ (p : Option Addr) (n c : Nat) (q : Option Addr) (m d : Nat) (a : Option Addr) (k j : Nat), e = .returned (.tuple #[.agg #[.slice p n c, .slice q m d], .slice a k j]) ∧ TrR w.heap.size w' p n c q m d a k j ∧ Fr w w' := by
  have f0 := (Fr.refl w).alloc (.cells #[.slice none 0 0, .slice none 0 0] 29)
  have D0 := Dr.start (h.fr f0)
  have HB := (Blk.new w #[.slice none 0 0, .slice none 0 0] 29).alloc (.cells #[.slice a n cap, .int .i64 0, .int .u64 0] 110)
  have HE : Hid (∀ (A : Nat) (w' : World), Dr (w.alloc (.cells #[.slice none 0 0, .slice none 0 0] 29)).heap.size A ((w.alloc (.cells #[.slice none 0 0, .slice none 0 0] 29)).alloc (.cells #[.slice a n cap, .int .i64 0, .int .u64 0] 110)) w' → Fr w w') := Lib.hid fun A w' h => f0.trans (h.ends rfl)
  have hg : w.heap.size + 1 < ((w.alloc (.cells #[.slice none 0 0, .slice none 0 0] 29)).alloc (.cells #[.slice a n cap, .int .i64 0, .int .u64 0] 110)).heap.size := by simp
  clear h f0
  rw [World.size_alloc] at D0 HE
  go_enter Try.func56, Try.ntmps56
  go_upto_region 2 with fail
  generalize (w.alloc (.cells #[.slice none 0 0, .slice none 0 0] 29)).alloc (.cells #[.slice a n cap, .int .i64 0, .int .u64 0] 110) = v0 at D0 HB HE hg ⊢
  go_wp2_with fail
  refine (tree_dr _ D0 (by omega)).mono ?_
  rintro e w1 ⟨p, n, c, q, m, d, rfl, ⟨P, oP⟩, ⟨W, oW⟩, hle, D1, -⟩
  have f1 := (Fr.refl w1).alloc (.cells #[.slice p n c, .slice q m d] 29)
  have BT := Blk.new w1 #[.slice p n c, .slice q m d] 29
  have hs1 := D1.size
  have D2 := D1.fr f1
  have oP2 := oP.fr f1; have oW2 := oW.fr f1
  have HP := Lib.hid (fun z e => (oP.blk z e)); have HW := Lib.hid (fun z e => (oW.blk z e))
  generalize hb : w1.heap.size = b5 at BT hs1 HP HW
  go_upto_region 3 with fail
  clear hb D1 oP oW
  generalize w1.alloc _ = w2 at BT D2 oP2 oW2 ⊢
  have fd : Fr w2 w2.drew := (Fr.refl w2).drew' 1
  have c0 := BT.cell (j := 0) rfl; have c1 := BT.cell (j := 1) rfl
  have D3 := D2.fr fd
  have HBT := Lib.hid (BT.fr fd)
  have HO := Lib.hid (And.intro (oP2.fr fd) (oW2.fr fd))
  have hbl := BT.lt
  have hpg : Hid (∀ z, blkOf p = some z → z ≠ w.heap.size + 1) := Lib.hid fun z e => by have := (HP.out z e).1; omega
  have hqg : Hid (∀ z, blkOf q = some z → z ≠ w.heap.size + 1) := Lib.hid fun z e => by have := (HW.out z e).1; omega
  have HN : Hid (w.heap.size + 1 ≠ b5) := Lib.hid (by omega)
  have HD := Lib.hid (fun (V : World) (E : Dr (w.heap.size + 1) (0 + 500 + 1000) v0 V) => And.intro (E.blk HB (show w.heap.size + 1 ≠ w.heap.size by omega)) (HE.out _ _ E))
  have hnb : w.heap.size ≠ b5 := by omega
  clear BT D2 oP2 oW2 D0 HB
  go_region_held3 (fun w' => w'.cell? ⟨b5, 0, none⟩ = some (.slice p n c) ∧ w'.cell? ⟨b5, 1, none⟩ = some (.slice q m d))
    (first | (with_reducible exact ⟨(cell2 _ _ hnb).trans ky0, (cell2 _ _ hnb).trans ky1⟩) | (with_reducible exact ⟨ky0, ky1⟩) | (with_reducible exact ⟨c0, c1⟩) | go_keep)
    (first
      | (go_at_call 102; (with_reducible refine (fair3_dr _ p q n c m d P W D3 (by omega) HO.out.1.sl HO.out.2.sl hpg.out hqg.out (by omega)).mono ?_); rintro e wb ⟨a, l, j, rfl, ⟨X, oX⟩, hl, D5, E5⟩; have BB := E5.blk HBT.out HN.out; have ky0 : wb.cell? ⟨b5, 0, none⟩ = some (.slice p n c) := BB.cell rfl; have ky1 : wb.cell? ⟨b5, 1, none⟩ = some (.slice q m d) := BB.cell rfl; have HR := HD.out _ D5; have ZC := HR.1; have u0 := ZC.cell (j := 0) rfl; have u1 := ZC.cell (j := 1) rfl; have i0 := ZC.free 0; have i1 := ZC.free 1))
  have P5 := E5.own HO.out.1 hg; have W5 := E5.own HO.out.2 hg
  have sd : w2.drew.heap.size = w2.heap.size := rfl
  have T5 : TrR v0.heap.size wb p n c q m d a l j := ⟨⟨P, P5⟩, ⟨W, W5⟩, ⟨X, oX.mono (by omega)⟩, fun z e1 e2 => by have := (HP.out z e1).2; have := (oX.blk z e2).1; omega, fun z e1 e2 => by have := (HW.out z e1).2; have := (oX.blk z e2).1; omega, by omega⟩
  have FIN := Lib.hid (And.intro (T5.done ZC (show w.heap.size < v0.heap.size by omega) (show w.heap.size ≤ v0.heap.size by omega)) ((HR.2.setCell (p := ⟨w.heap.size, 0, none⟩) (Nat.le_refl _) (.slice p n c)).setCell (p := ⟨w.heap.size, 1, none⟩) (Nat.le_refl _) (.slice q m d)))
  clear P5 W5 T5 HR ZC oX BB D5 E5
  go_wp2
  refine bodyPost_ret (results_TS Try.results56 _ _ w.heap.size (.slice p n c) (.slice q m d) _ rfl rfl (FIN.out.1.1.cell rfl) (FIN.out.1.1.cell rfl)) rfl ?_
  exact ⟨_, _, _, _, _, _, _, _, _, rfl, FIN.out.1.2, FIN.out.2⟩
end Go.Proofs.Ytojipjjfndgbhaa
/- Draws of a house and a deal. -/
set_option linter.unusedVariables false
namespace Go.Proofs.Ytojipjjfndgbhaa
open Go.ChangeShapes Go.WideShapes Go.ChangeAt Go.RowKit
theorem Blk.set3 {w : World} {g : Nat} {T : TypeId} {z0 z1 z2 : Value} (h : Blk w g #[z0, z1, z2] T) (v0 v1 v2 : Value) : Blk (((w.setCell ⟨g, 0, none⟩ v0).setCell ⟨g, 1, none⟩ v1).setCell ⟨g, 2, none⟩ v2) g #[v0, v1, v2] T := by
  have E := ((h.set 0 v0).set 1 v1).set 2 v2
  simpa only [List.setIfInBounds_toArray, List.set_cons_zero, List.set_cons_succ] using E
theorem Blk.other3 {w : World} {g g' : Nat} {cs : Array Value} {T : TypeId} (h : Blk w g' cs T) (hne : g ≠ g') (v0 v1 v2 : Value) : Blk (((w.setCell ⟨g, 0, none⟩ v0).setCell ⟨g, 1, none⟩ v1).setCell ⟨g, 2, none⟩ v2) g' cs T :=
  ((h.other (p := ⟨g, 0, none⟩) hne v0).other (p := ⟨g, 1, none⟩) hne v1).other (p := ⟨g, 2, none⟩) hne v2
theorem Fr.set3 {w0 w : World} {g : Nat} (h : Fr w0 w) (hg : w0.heap.size ≤ g) (v0 v1 v2 : Value) : Fr w0 (((w.setCell ⟨g, 0, none⟩ v0).setCell ⟨g, 1, none⟩ v1).setCell ⟨g, 2, none⟩ v2) :=
  ((h.setCell (p := ⟨g, 0, none⟩) hg v0).setCell (p := ⟨g, 1, none⟩) hg v1).setCell (p := ⟨g, 2, none⟩) hg v2
theorem cell3 {w : World} {g b j : Nat} (v0 v1 v2 : Value) (hne : g ≠ b) : (((w.setCell ⟨g, 0, none⟩ v0).setCell ⟨g, 1, none⟩ v1).setCell ⟨g, 2, none⟩ v2).cell? ⟨b, j, none⟩ = w.cell? ⟨b, j, none⟩ := by
  have e : ∀ (x : World) (i : Nat) (v : Value), (x.setCell ⟨g, i, none⟩ v).cell? ⟨b, j, none⟩ = x.cell? ⟨b, j, none⟩ := fun x i v => by
    apply World.cell?_setCell_other; intro h; simp only [Addr.mk.injEq] at h; exact hne h.1
  rw [e, e, e]
theorem HsN.set3 {L B : Nat} {w : World} {p q a : Option Addr} {n c m d l b : Nat} {h : HSt} (H : HsN L B w p q a n c m d l b h) {k : Nat} (hk : blkOf p ≠ some k ∧ blkOf q ≠ some k ∧ blkOf a ≠ some k) (v0 v1 v2 : Value) :
    HsN L B (((w.setCell ⟨k, 0, none⟩ v0).setCell ⟨k, 1, none⟩ v1).setCell ⟨k, 2, none⟩ v2) p q a n c m d l b h := by
  obtain ⟨h1, h2, h3⟩ := hk
  exact ((H.other (k := ⟨k, 0, none⟩) h1 h2 h3 v0).other (k := ⟨k, 1, none⟩) h1 h2 h3 v1).other (k := ⟨k, 2, none⟩) h1 h2 h3 v2
theorem HoI.all10 {L g A k : Nat} {w wr : World} {p q a : Option Addr} {n c m d l b : Nat} {h : HSt} (H : HoI L w g A k p q a n c m d l b h wr) {i j : Nat} (hi : i ≠ k) (hj : j ≠ k) (u0 u1 u2 u3 u4 u5 u6 v0 v1 v2 : Value) :
    ((((((((((wr.setCell ⟨i, 0, none⟩ u0).setCell ⟨i, 1, none⟩ u1).setCell ⟨i, 2, none⟩ u2).setCell ⟨i, 3, none⟩ u3).setCell ⟨i, 4, none⟩ u4).setCell ⟨i, 5, none⟩ u5).setCell ⟨i, 6, none⟩ u6).setCell ⟨j, 0, none⟩ v0).setCell ⟨j, 1, none⟩ v1).setCell ⟨j, 2, none⟩ v2).cell? ⟨k, 0, none⟩ = some (.slice p n c) ∧
    ((((((((((wr.setCell ⟨i, 0, none⟩ u0).setCell ⟨i, 1, none⟩ u1).setCell ⟨i, 2, none⟩ u2).setCell ⟨i, 3, none⟩ u3).setCell ⟨i, 4, none⟩ u4).setCell ⟨i, 5, none⟩ u5).setCell ⟨i, 6, none⟩ u6).setCell ⟨j, 0, none⟩ v0).setCell ⟨j, 1, none⟩ v1).setCell ⟨j, 2, none⟩ v2).cell? ⟨k, 1, none⟩ = some (.slice q m d) ∧
    ((((((((((wr.setCell ⟨i, 0, none⟩ u0).setCell ⟨i, 1, none⟩ u1).setCell ⟨i, 2, none⟩ u2).setCell ⟨i, 3, none⟩ u3).setCell ⟨i, 4, none⟩ u4).setCell ⟨i, 5, none⟩ u5).setCell ⟨i, 6, none⟩ u6).setCell ⟨j, 0, none⟩ v0).setCell ⟨j, 1, none⟩ v1).setCell ⟨j, 2, none⟩ v2).cell? ⟨k, 2, none⟩ = some (.slice a l b) ∧
    ((((((((((wr.setCell ⟨i, 0, none⟩ u0).setCell ⟨i, 1, none⟩ u1).setCell ⟨i, 2, none⟩ u2).setCell ⟨i, 3, none⟩ u3).setCell ⟨i, 4, none⟩ u4).setCell ⟨i, 5, none⟩ u5).setCell ⟨i, 6, none⟩ u6).setCell ⟨j, 0, none⟩ v0).setCell ⟨j, 1, none⟩ v1).setCell ⟨j, 2, none⟩ v2).cell? ⟨k, 3, none⟩ = some (.int .i64 h.t) ∧
    ((((((((((wr.setCell ⟨i, 0, none⟩ u0).setCell ⟨i, 1, none⟩ u1).setCell ⟨i, 2, none⟩ u2).setCell ⟨i, 3, none⟩ u3).setCell ⟨i, 4, none⟩ u4).setCell ⟨i, 5, none⟩ u5).setCell ⟨i, 6, none⟩ u6).setCell ⟨j, 0, none⟩ v0).setCell ⟨j, 1, none⟩ v1).setCell ⟨j, 2, none⟩ v2).cell? ⟨k, 4, none⟩ = some (.int .i64 h.s) ∧
    ((((((((((wr.setCell ⟨i, 0, none⟩ u0).setCell ⟨i, 1, none⟩ u1).setCell ⟨i, 2, none⟩ u2).setCell ⟨i, 3, none⟩ u3).setCell ⟨i, 4, none⟩ u4).setCell ⟨i, 5, none⟩ u5).setCell ⟨i, 6, none⟩ u6).setCell ⟨j, 0, none⟩ v0).setCell ⟨j, 1, none⟩ v1).setCell ⟨j, 2, none⟩ v2).cell? ⟨k, 5, none⟩ = some (.int .i64 h.u) ∧
    ((((((((((wr.setCell ⟨i, 0, none⟩ u0).setCell ⟨i, 1, none⟩ u1).setCell ⟨i, 2, none⟩ u2).setCell ⟨i, 3, none⟩ u3).setCell ⟨i, 4, none⟩ u4).setCell ⟨i, 5, none⟩ u5).setCell ⟨i, 6, none⟩ u6).setCell ⟨j, 0, none⟩ v0).setCell ⟨j, 1, none⟩ v1).setCell ⟨j, 2, none⟩ v2).cell? ⟨k, 6, none⟩ = some (.int .i64 h.v) :=
  ⟨(cell3 _ _ _ hj).trans ((cell7 _ _ _ _ _ _ _ hi).trans H.c0), (cell3 _ _ _ hj).trans ((cell7 _ _ _ _ _ _ _ hi).trans H.c1), (cell3 _ _ _ hj).trans ((cell7 _ _ _ _ _ _ _ hi).trans H.c2), (cell3 _ _ _ hj).trans ((cell7 _ _ _ _ _ _ _ hi).trans H.c3), (cell3 _ _ _ hj).trans ((cell7 _ _ _ _ _ _ _ hi).trans H.c4), (cell3 _ _ _ hj).trans ((cell7 _ _ _ _ _ _ _ hi).trans H.c5), (cell3 _ _ _ hj).trans ((cell7 _ _ _ _ _ _ _ hi).trans H.c6)⟩
theorem results_HD {fn : Func} {k j : Nat} (hr : fn.results = #[.cell k 31, .cell j 58]) (tmps : Array Value) (w : World) (g g' : Nat) (v0 v1 v2 v3 v4 v5 v6 z0 z1 z2 : Value) (h : tmps[k]?.getD undef = .pointer (some ⟨g, 0, none⟩)) (h' : tmps[j]?.getD undef = .pointer (some ⟨g', 0, none⟩))
    (B : Blk w g #[v0, v1, v2, v3, v4, v5, v6] 31) (B' : Blk w g' #[z0, z1, z2] 58) : (results fn tmps).run Try.prog w = .ok (.tuple #[.agg #[v0, v1, v2, v3, v4, v5, v6], .agg #[z0, z1, z2]]) w := by
  have h0 := B.cell (j := 0) (v := v0) rfl; have h1 := B.cell (j := 1) (v := v1) rfl; have h2 := B.cell (j := 2) (v := v2) rfl; have h3 := B.cell (j := 3) (v := v3) rfl; have h4 := B.cell (j := 4) (v := v4) rfl; have h5 := B.cell (j := 5) (v := v5) rfl; have h6 := B.cell (j := 6) (v := v6) rfl
  have k0 := B'.cell (j := 0) (v := z0) rfl; have k1 := B'.cell (j := 1) (v := z1) rfl; have k2 := B'.cell (j := 2) (v := z2) rfl
  simp [results, hr, go_sem, h, h', h0, h1, h2, h3, h4, h5, h6, k0, k1, k2]
/-- The results of a drawn house and a drawn deal are stored. -/
theorem hd_done {L B r : Nat} {w wr : World} {p q a : Option Addr} {n c m d l b : Nat} {h : HSt} {z0 z1 z2 z3 z4 z5 z6 y0 y1 y2 : Value} (N : HsN L B wr p q a n c m d l b h) (F : Fr w wr) (R : Blk wr r #[z0, z1, z2, z3, z4, z5, z6] 31) (R' : Blk wr (r + 1) #[y0, y1, y2] 58) (hr : r + 1 < B) (hw : r = w.heap.size) (v0 v1 v2 : Value) :
    let V := ((((((((((wr.setCell ⟨r, 0, none⟩ (.slice p n c)).setCell ⟨r, 1, none⟩ (.slice q m d)).setCell ⟨r, 2, none⟩ (.slice a l b)).setCell ⟨r, 3, none⟩ (.int .i64 h.t)).setCell ⟨r, 4, none⟩ (.int .i64 h.s)).setCell ⟨r, 5, none⟩ (.int .i64 h.u)).setCell ⟨r, 6, none⟩ (.int .i64 h.v)).setCell ⟨r + 1, 0, none⟩ v0).setCell ⟨r + 1, 1, none⟩ v1).setCell ⟨r + 1, 2, none⟩ v2)
    Blk V r #[.slice p n c, .slice q m d, .slice a l b, .int .i64 h.t, .int .i64 h.s, .int .i64 h.u, .int .i64 h.v] 31 ∧ Blk V (r + 1) #[v0, v1, v2] 58 ∧ HsN L w.heap.size V p q a n c m d l b h ∧ Fr w V := by
  subst hw
  refine ⟨(R.set7 _ _ _ _ _ _ _).other3 (by omega) _ _ _, (R'.other7 (by omega) _ _ _ _ _ _ _).set3 _ _ _, ((N.set7 (N.low (by omega)) _ _ _ _ _ _ _).set3 ?_ _ _ _).mono (by omega) (Nat.le_refl _), (F.set7 (Nat.le_refl _) _ _ _ _ _ _ _).set3 (by omega) _ _ _⟩
  exact N.low hr
set_option maxRecDepth 100000 in
set_option maxHeartbeats 1000000 in
theorem DrawDealHouse_any (w : World) (a : Option Addr) (n cap : Nat) (zs : List Int) (h : SLB w a n cap zs) :
    Calls Try.prog 57 #[.slice a n cap] w fun e w' => ∃ (hh : HSt) (kd A B : Int) (p q a : Option Addr) (n c m d l b : Nat), e = .returned (.tuple #[.agg #[.slice p n c, .slice q m d, .slice a l b, .int .i64 hh.t, .int .i64 hh.s, .int .i64 hh.u, .int .i64 hh.v], .agg #[.int .i64 kd, .int .i64 A, .int .i64 B]]) ∧ HsN 51 w.heap.size w' p q a n c m d l b hh ∧ (I64 kd ∧ I64 A ∧ I64 B) ∧ Fr w w' := by
  have f0 := ((Fr.refl w).alloc (.cells #[.slice none 0 0, .slice none 0 0, .slice none 0 0, .int .i64 0, .int .i64 0, .int .i64 0, .int .i64 0] 31)).alloc (.cells #[.int .i64 0, .int .i64 0, .int .i64 0] 58)
  have D0 := Dr.start (h.fr f0)
  have HB := ((Blk.new w #[.slice none 0 0, .slice none 0 0, .slice none 0 0, .int .i64 0, .int .i64 0, .int .i64 0, .int .i64 0] 31).alloc (.cells #[.int .i64 0, .int .i64 0, .int .i64 0] 58)).alloc (.cells #[.slice a n cap, .int .i64 0, .int .u64 0] 110)
  have HB2 := (Blk.new (w.alloc (.cells #[.slice none 0 0, .slice none 0 0, .slice none 0 0, .int .i64 0, .int .i64 0, .int .i64 0, .int .i64 0] 31)) #[.int .i64 0, .int .i64 0, .int .i64 0] 58).alloc (.cells #[.slice a n cap, .int .i64 0, .int .u64 0] 110)
  have HE : Hid (∀ (A : Nat) (w' : World), Dr ((w.alloc (.cells #[.slice none 0 0, .slice none 0 0, .slice none 0 0, .int .i64 0, .int .i64 0, .int .i64 0, .int .i64 0] 31)).alloc (.cells #[.int .i64 0, .int .i64 0, .int .i64 0] 58)).heap.size A (((w.alloc (.cells #[.slice none 0 0, .slice none 0 0, .slice none 0 0, .int .i64 0, .int .i64 0, .int .i64 0, .int .i64 0] 31)).alloc (.cells #[.int .i64 0, .int .i64 0, .int .i64 0] 58)).alloc (.cells #[.slice a n cap, .int .i64 0, .int .u64 0] 110)) w' → Fr w w') := Lib.hid fun A w' h => f0.trans (h.ends rfl)
  have hg : w.heap.size + 1 + 1 < (((w.alloc (.cells #[.slice none 0 0, .slice none 0 0, .slice none 0 0, .int .i64 0, .int .i64 0, .int .i64 0, .int .i64 0] 31)).alloc (.cells #[.int .i64 0, .int .i64 0, .int .i64 0] 58)).alloc (.cells #[.slice a n cap, .int .i64 0, .int .u64 0] 110)).heap.size := by simp
  clear h f0
  simp only [World.size_alloc] at D0 HE HB2
  go_enter Try.func57, Try.ntmps57
  go_upto_region 2 with fail
  generalize ((w.alloc (.cells #[.slice none 0 0, .slice none 0 0, .slice none 0 0, .int .i64 0, .int .i64 0, .int .i64 0, .int .i64 0] 31)).alloc (.cells #[.int .i64 0, .int .i64 0, .int .i64 0] 58)).alloc (.cells #[.slice a n cap, .int .i64 0, .int .u64 0] 110) = v0 at D0 HB HB2 HE hg ⊢
  go_wp2_with fail
  refine (house_dr _ D0 (by omega)).mono ?_
  rintro e w1 ⟨hh, p, q, a, n, c, m, d, l, b, rfl, N1, D1, -⟩
  have S0 := HoI.made N1 (Nat.le_refl _) D1
  have HD := Lib.hid (fun (A : Nat) (V : World) (E : Dr (w.heap.size + 1 + 1) A v0 V) => And.intro (E.blk HB (show w.heap.size + 1 + 1 ≠ w.heap.size by omega)) (And.intro (E.blk HB2 (show w.heap.size + 1 + 1 ≠ w.heap.size + 1 by omega)) (HE.out _ _ E)))
  clear N1 D1 D0 HB HB2
  generalize hk : w1.heap.size = k at S0
  go_upto_region 3 with fail
  clear hk
  generalize w1.alloc _ = w2 at S0 ⊢
  have k0 := S0.c0; have k1 := S0.c1; have k2 := S0.c2; have k3 := S0.c3; have k4 := S0.c4; have k5 := S0.c5; have k6 := S0.c6
  go_wp2_with fail
  refine (l12Good_any _ _ _ _ _ _ _ _ _ _ _ _ _ S0.N.op.sl S0.N.oq.sl S0.N.ox.sl _ _ _ _).mono ?_
  rintro e w3 ⟨rfl, f⟩
  have S := S0.fr f
  clear S0 f k0 k1 k2 k3 k4 k5 k6
  cases hok : houseB hh.P hh.W hh.X hh.t hh.s hh.u hh.v
  · clear hok
    obtain ⟨R, R2, F⟩ := HD.out _ _ S.D
    have k0 := S.c0; have k1 := S.c1; have k2 := S.c2; have k3 := S.c3; have k4 := S.c4; have k5 := S.c5; have k6 := S.c6
    have u0 := R.cell (j := 0) rfl; have u1 := R.cell (j := 1) rfl; have u2 := R.cell (j := 2) rfl; have u3 := R.cell (j := 3) rfl; have u4 := R.cell (j := 4) rfl; have u5 := R.cell (j := 5) rfl; have u6 := R.cell (j := 6) rfl
    have i0 := R.free 0; have i1 := R.free 1; have i2 := R.free 2; have i3 := R.free 3; have i4 := R.free 4; have i5 := R.free 5; have i6 := R.free 6
    have y0 := R2.cell (j := 0) rfl; have y1 := R2.cell (j := 1) rfl; have y2 := R2.cell (j := 2) rfl
    have j0 := R2.free 0; have j1 := R2.free 1; have j2 := R2.free 2
    have FIN := Lib.hid (hd_done S.N F R R2 (show w.heap.size + 1 < v0.heap.size by omega) rfl (.int .i64 4) (.int .i64 0) (.int .i64 0))
    clear S R R2 F HD
    go_wp2
    refine bodyPost_ret (results_HD Try.results57 _ _ w.heap.size (w.heap.size + 1) _ _ _ _ _ _ _ _ _ _ rfl rfl FIN.out.1 FIN.out.2.1) rfl ?_
    exact ⟨hh, _, _, _, _, _, _, _, _, _, _, _, _, rfl, FIN.out.2.2.1, ⟨by unfold I64; omega, by unfold I64; omega, by unfold I64; omega⟩, FIN.out.2.2.2⟩
  · have HOB := Lib.hid hok
    clear hok
    obtain ⟨k0, k1, k2, k3, k4, k5, k6⟩ := S.all
    have f1 : Fr w3 w3.drew := (Fr.refl w3).drew' 1
    have SD := S.fr f1
    have hkk : w.heap.size ≠ k := by have := S.lo; omega
    have hkk2 : w.heap.size + 1 ≠ k := by have := S.lo; omega
    have hl4 : l ≤ 1000000 := by have := S.N.le; omega
    have HPG : Hid (∀ z, blkOf p = some z → z ≠ w.heap.size + 1 + 1) := Lib.hid fun z e => by have := (S.N.op.blk z e).1; omega
    clear S
    go_upto_region 5 with fail
    go_region_held3 (fun w' => w'.cell? ⟨k, 0, none⟩ = some (.slice p n c) ∧ w'.cell? ⟨k, 1, none⟩ = some (.slice q m d) ∧ w'.cell? ⟨k, 2, none⟩ = some (.slice a l b) ∧ w'.cell? ⟨k, 3, none⟩ = some (.int .i64 hh.t) ∧ w'.cell? ⟨k, 4, none⟩ = some (.int .i64 hh.s) ∧ w'.cell? ⟨k, 5, none⟩ = some (.int .i64 hh.u) ∧ w'.cell? ⟨k, 6, none⟩ = some (.int .i64 hh.v))
      (first | (with_reducible exact SB.all10 hkk hkk2 _ _ _ _ _ _ _ _ _ _) | (with_reducible exact SB.all7 hkk _ _ _ _ _ _ _) | (with_reducible exact SB.all) | (with_reducible exact ⟨k0, k1, k2, k3, k4, k5, k6⟩) | go_keep)
      (first
        | (go_at_call 104; (with_reducible refine (deal12_dr _ p q a n c m d l b hh.P hh.W hh.X hh.t hh.s hh.u hh.v SD.D (by omega) SD.N.op.sl HOB.out hl4 HPG.out).mono ?_); rintro e wb ⟨kd, da, db, rfl, hI, D4, E4⟩; have SB := SD.step (by omega) E4; have HR := HD.out _ _ SB.D; have R := HR.1; have R2 := HR.2.1; have F := HR.2.2; have u0 := R.cell (j := 0) rfl; have u1 := R.cell (j := 1) rfl; have u2 := R.cell (j := 2) rfl; have u3 := R.cell (j := 3) rfl; have u4 := R.cell (j := 4) rfl; have u5 := R.cell (j := 5) rfl; have u6 := R.cell (j := 6) rfl; have i0 := R.free 0; have i1 := R.free 1; have i2 := R.free 2; have i3 := R.free 3; have i4 := R.free 4; have i5 := R.free 5; have i6 := R.free 6; have y0 := R2.cell (j := 0) rfl; have y1 := R2.cell (j := 1) rfl; have y2 := R2.cell (j := 2) rfl; have j0 := R2.free 0; have j1 := R2.free 1; have j2 := R2.free 2))
    all_goals
      have FIN := Lib.hid (hd_done SB.N F R R2 (show w.heap.size + 1 < v0.heap.size by omega) rfl (.int .i64 kd) (.int .i64 da) (.int .i64 db))
      clear SB R R2 F HD HR D4 E4 SD
      go_wp2
      refine bodyPost_ret (results_HD Try.results57 _ _ w.heap.size (w.heap.size + 1) _ _ _ _ _ _ _ _ _ _ rfl rfl FIN.out.1 FIN.out.2.1) rfl ?_
      exact ⟨hh, _, _, _, _, _, _, _, _, _, _, _, _, rfl, FIN.out.2.2.1, hI, FIN.out.2.2.2⟩
end Go.Proofs.Ytojipjjfndgbhaa
