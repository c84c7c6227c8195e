import Derived.Test.YtojipjjfndgbhaaZH03
import Derived.Test.YtojipjjfndgbhaaZH06
import Derived.Test.YtojipjjfndgbhaaZH04
import Derived.Test.YtojipjjfndgbhaaZH02
import Derived.Deep.DeepCutAuto
import Derived.Deep.CutRange
/- Contracts of ways. -/
set_option linter.unusedVariables false
namespace Go.Proofs.Ytojipjjfndgbhaa
open Go.ChangeShapes Go.WideShapes Go.ChangeAt Go.RowKit
theorem Own.lit1 {B : Nat} {w : World} {z : Int} (hB : B ≤ w.heap.size) (hz : I64 z) : Own B (w.alloc (.cells #[.int .i64 z] 3)) (some ⟨w.heap.size, 0, none⟩) 1 1 [z] :=
  ⟨⟨by simp, .inr ⟨w.heap.size, 1, #[.int .i64 z], rfl, hB, heap_alloc_new w _, Nat.le_refl _, by unfold maxLen; omega, by simp, by simp⟩⟩, by simpa using hz⟩
theorem Reverse_any {B : Nat} (w : World) (a : Option Addr) (n c : Nat) (xs : List Int) (h : Own B w a n c xs) (hn : n ≤ 1000000) :
    Calls Try.prog 138 #[.slice a n c] w fun e w' => e = .returned (.tuple #[]) ∧ Own B w' a n c xs.reverse ∧ w.grownBy w' (blkOf a) := by
  have HL := Lib.hid h.len
  have h0 := h
  rw [← revT_zero h.len] at h0
  have g0 := grownBy_refl w (blkOf a)
  have HX : Hid (∀ i, I64 (nth xs i)) := Lib.hid fun i => h.sl.rngAt i
  clear h
  go_enter Try.func138, Try.ntmps138
  go_wp2
  go_loopw [2, 3] (fun x y wr => ∃ i : Nat, 2 * i ≤ n ∧ x = .int .i64 i ∧ y = .int .i64 ((n : Int) - 1 - i) ∧ Own B wr a n c (revT xs n i) ∧ w.grownBy wr (blkOf a)) (fun i _ _ => n - (intOf i).toNat)
  case atStart => exact ⟨0, by omega, rfl, by simp, h0, g0⟩
  case round =>
    clear h0 g0
    obtain ⟨i, hi, rfl, rfl, ho, hg⟩ := hrel
    obtain ⟨wo, rfl⟩ : ∃ wo : World, wo = wr := ⟨_, rfl⟩
    by_cases hlt : 2 * i + 1 < n
    · obtain ⟨j, hj⟩ : ∃ j, j = n - 1 - i := ⟨_, rfl⟩
      have ej : (n : Int) - 1 - (i : Int) = (j : Int) := by omega
      have lj : j < n := by omega
      have li : i < n := by omega
      have lij : i < j := by omega
      rw [ej]
      have vi0 : (0 : Int) ≤ (i : Int) := by omega
      have vi : (i : Int) < (n : Int) := by omega
      have vj0 : (0 : Int) ≤ (j : Int) := by omega
      have vj : (j : Int) < (n : Int) := by omega
      have vij : (i : Int) < (j : Int) := by omega
      obtain ⟨g, rfl, hB, hlt2, hcell, hfro⟩ := ho.op (by omega)
      have q1 := hcell i li
      have q2 := hcell j lj
      rw [revT_nth li, if_neg (by omega)] at q1
      rw [revT_nth lj, if_neg (by omega)] at q2
      have z1 := hfro i
      have o1 := ho.set rfl li (HX.out j)
      have z2 := o1.frz j
      have q3 := o1.cellAt rfl lj
      rw [nth_set_ne (by omega), revT_nth lj, if_neg (by omega)] at q3
      have o2 := o1.set rfl lj (HX.out i)
      rw [revT_step hj lij] at o2
      have o3 := Lib.hid (o2.fr (Fr.drewN _ 1))
      have g1 := Lib.hid (grown_fr (grownBy_setCell (grownBy_setCell hg (p := ⟨g, i, none⟩) rfl (.int .i64 (nth xs j))) (p := ⟨g, j, none⟩) rfl (.int .i64 (nth xs i))) (Fr.drewN _ 1))
      have HJ := Lib.hid hj; have HE := Lib.hid ej
      clear ho hg o1 o2 hcell hfro hj ej
      go_upto_region 3 with fail
      go_region
      go_wp2
      go_roundw
      case rel =>
        have e1 := HJ.out
        exact ⟨i + 1, by omega, by go_num, by have := HE.out; go_num, o3.out, g1.out⟩
      case measure => simp [intOf]; omega
    · have hd : revT xs n i = xs.reverse := revT_done HL.out (by omega)
      rw [hd] at ho
      have vij : ¬ (i : Int) < (n : Int) - 1 - (i : Int) := by omega
      go_wp2
      go_end0
      exact ⟨rfl, ho, hg⟩
set_option maxRecDepth 100000 in
theorem way_any (w : World) (p q : Option Addr) (n c m d x : Nat) (P : List Int) (hP : SL w p n c P) (hp : parB P = true) (hx : x < n) (hn : n ≤ 1000) :
    Calls Try.prog 109 #[.agg #[.slice p n c, .slice q m d], .int .i64 x] w (RetS (wayM P x) w) := by
  have HP := Lib.hid hP.len
  have Hp := Lib.hid hp
  have hfr : Fr w (w.alloc (.cells #[.slice p n c, .slice q m d] 29)) := (Fr.refl w).alloc _
  have H0 := Lib.hid (Blk.new w #[.slice p n c, .slice q m d] 29)
  have o0 := Own.made0 (B := w.heap.size + 1) (w.alloc (.cells #[.slice p n c, .slice q m d] 29)) (by simp)
  have f0 := (Fr.refl (w.alloc (.cells #[.slice p n c, .slice q m d] 29))).alloc (.cells #[] 3)
  clear hp
  go_enter Try.func109, Try.ntmps109
  go_upto_region 1 with fail
  generalize hw1 : w.alloc (.cells #[.slice p n c, .slice q m d] 29) = w1 at hfr H0 o0 f0 ⊢
  have z1 : w1.heap.size = w.heap.size + 1 := by rw [← hw1]; simp
  have Z1 := Lib.hid z1
  rw [← z1] at o0
  clear hw1 z1
  go_wp2
  go_loopw [1, 5] (fun y s wr => ∃ (l cc : Nat) (a : Option Addr) (L : List Int) (cur : Int), y = .int .i64 cur ∧ s = .slice a l cc ∧ Own w1.heap.size wr a l cc L ∧ Fr w1 wr ∧ (-1 ≤ cur ∧ (l : Int) + cur + 1 ≤ n) ∧ Hid ((cur = -1 ∧ L = upM P x) ∨ ∃ z : Nat, cur = (z : Int) ∧ L ++ upM P z = upM P x)) (fun i _ _ => (intOf i + 1).toNat)
  case atStart => exact ⟨0, 0, _, [], (x : Int), rfl, rfl, o0, f0, by omega, Lib.hid (.inr ⟨x, rfl, rfl⟩)⟩
  case round =>
    clear o0 f0
    obtain ⟨l, cc, a, L, cur, rfl, rfl, ho, hF, hb, hR⟩ := hrel
    obtain ⟨wo, rfl⟩ : ∃ wo : World, wo = wr := ⟨_, rfl⟩
    by_cases hc : 0 ≤ cur
    · obtain ⟨z, rfl⟩ := Int.eq_ofNat_of_zero_le hc
      have hzn : z < n := by omega
      have vz : (z : Int) < (n : Int) := by omega
      have hR2 : L ++ upM P z = upM P x := by
        rcases hR.out with ⟨h1, _⟩ | ⟨z', h1, h2⟩
        · omega
        · obtain rfl : z' = z := by omega
          exact h2
      have hsz := hF.size
      have HR3 : Hid ((nth P z = -1 ∧ L ++ [(z : Int)] = upM P x) ∨ (∃ y : Nat, nth P z = (y : Int) ∧ L ++ [(z : Int)] ++ upM P y = upM P x) ∧ nth P z + 1 ≤ z) := Lib.hid (by
        by_cases hz0 : z = 0
        · subst hz0
          exact .inl ⟨(parB_iff.1 Hp.out).1, hR2⟩
        · have h1 := par_of Hp.out (by rw [HP.out]; exact hzn) (show 1 ≤ z by omega)
          rw [upM_succ Hp.out (by rw [HP.out]; exact hzn) (by omega)] at hR2
          exact .inr ⟨⟨par P z, h1.1, by simpa using hR2⟩, by omega⟩)
      clear hR hR2
      go_wp2_with (at_builtin; refine ap_int _ rfl _ _ rfl w1.heap.size a l cc L _ rfl rfl ho hsz (by unfold I64; omega) (by omega) ?_)
      intro g' c' w' k1 k2 k3
      have F2 := hF.grown k2 (fun z hz => (ho.blk z hz).1)
      have c0 := (H0.out.fr F2).cell (j := 0) rfl
      obtain ⟨bp, op, rfl, hcp⟩ := (hP.fr (hfr.trans F2)).cells.resolve_left (by omega)
      replace hcp := hcp z hzn
      clear ho hF k2 k3
      have HB : Hid (-1 ≤ nth P z ∧ nth P z + 1 ≤ z) := Lib.hid (by
        rcases HR3.out with ⟨h, _⟩ | ⟨⟨y, h, _⟩, h2⟩
        · omega
        · omega)
      go_wp2
      go_roundw
      case rel =>
        have hb2 := HB.out
        refine ⟨l + 1, c', _, _, nth P z, rfl, rfl, k1, F2, by omega, Lib.hid ?_⟩
        rcases HR3.out with h | ⟨h, _⟩
        · exact .inl h
        · exact .inr h
      case measure =>
        have hb2 := HB.out
        simp [intOf]; omega
    · obtain rfl : cur = -1 := by omega
      have hL : L = upM P x := by
        rcases hR.out with ⟨_, h⟩ | ⟨z, h, _⟩
        · exact h
        · omega
      subst hL
      clear hR
      go_wp2_with fail
      refine (Reverse_any _ _ _ _ _ ho (by omega)).mono ?_
      rintro e w3 ⟨rfl, o3, g3⟩
      have F3 := hF.grown g3 (fun z hz => (ho.blk z hz).1)
      have z1 := Z1.out
      go_wp2
      go_ret
      exact ⟨_, _, _, rfl, o3.mono (by omega), hfr.trans F3, by omega⟩
set_option maxRecDepth 100000 in
theorem l2Way_any (w : World) (p q : Option Addr) (n c m d x : Nat) (P : List Int) (hP : SL w p n c P) (hp : parB P = true) (hx : x < n) (hn : n ≤ 1000) :
    Calls Try.prog 127 #[.agg #[.slice p n c, .slice q m d], .int .i64 x] w (RetS (wayM P x) w) := by
  have HP := Lib.hid hP.len
  have Hp := Lib.hid hp
  have hfr : Fr w (w.alloc (.cells #[.slice p n c, .slice q m d] 29)) := (Fr.refl w).alloc _
  have H0 := Lib.hid (Blk.new w #[.slice p n c, .slice q m d] 29)
  have o0 := Own.lit1 (B := w.heap.size + 1) (w := w.alloc (.cells #[.slice p n c, .slice q m d] 29)) (z := (x : Int)) (by simp) (by unfold I64; omega)
  have f0 := (Fr.refl (w.alloc (.cells #[.slice p n c, .slice q m d] 29))).alloc (.cells #[.int .i64 (x : Int)] 3)
  have HU : Hid ([(x : Int)].reverse ++ (upM P x).tail = upM P x) := Lib.hid (by
    by_cases hx0 : x = 0
    · subst hx0; rfl
    · rw [upM_succ hp (by rw [HP.out]; exact hx) (by omega)]; rfl)
  clear hp
  go_enter Try.func127, Try.ntmps127
  go_upto_region 1 with fail
  generalize hw1 : w.alloc (.cells #[.slice p n c, .slice q m d] 29) = w1 at hfr H0 o0 f0 ⊢
  have z1 : w1.heap.size = w.heap.size + 1 := by rw [← hw1]; simp
  have Z1 := Lib.hid z1
  rw [← z1] at o0
  clear hw1 z1
  go_wp2
  go_loopw [1, 5] (fun y s wr => ∃ (l cc z : Nat) (a : Option Addr) (L : List Int), y = .int .i64 z ∧ s = .slice a l cc ∧ Own w1.heap.size wr a l cc L ∧ Fr w1 wr ∧ (1 ≤ l ∧ z < n ∧ l + z ≤ n) ∧ Hid (L.reverse ++ (upM P z).tail = upM P x)) (fun i _ _ => (intOf i).toNat)
  case atStart => exact ⟨1, 1, x, _, _, rfl, rfl, o0, f0, by omega, HU⟩
  case round =>
    clear o0 f0 HU
    obtain ⟨l, cc, z, a, L, rfl, rfl, ho, hF, hb, hR⟩ := hrel
    obtain ⟨wo, rfl⟩ : ∃ wo : World, wo = wr := ⟨_, rfl⟩
    by_cases hc : 0 < z
    · have vz0 : (0 : Int) < (z : Int) := by omega
      have vz1 : (0 : Int) ≤ (z : Int) := by omega
      have vz : (z : Int) < (n : Int) := by omega
      have h1 := par_of Hp.out (by rw [HP.out]; omega) (show 1 ≤ z by omega)
      have HR3 : Hid ((((par P z : Nat) : Int) :: L).reverse ++ (upM P (par P z)).tail = upM P x) := Lib.hid (by
        have h2 := hR.out
        rw [upM_succ Hp.out (by rw [HP.out]; omega) (by omega)] at h2
        rw [List.tail_cons] at h2
        rw [List.reverse_cons, List.append_assoc, ← h2]
        congr 1
        by_cases hy : par P z = 0
        · rw [hy]; rfl
        · rw [upM_succ Hp.out (x := par P z) (by rw [HP.out]; omega) (by omega)]; rfl)
      obtain ⟨y, hy⟩ : ∃ y, y = par P z := ⟨_, rfl⟩
      rw [← hy] at HR3 h1
      clear hR hy
      have c0 := (H0.out.fr hF).cell (j := 0) rfl
      obtain ⟨bp, op, rfl, hcp⟩ := (hP.fr (hfr.trans hF)).cells.resolve_left (by omega)
      replace hcp := hcp z (by omega)
      rw [h1.1] at hcp
      have hly := h1.2
      have hsz := hF.size
      have o1 := Own.lit1 (B := w1.heap.size) (w := wo) (z := (y : Int)) hsz (by unfold I64; omega)
      have hS := (ho.fr ((Fr.refl wo).alloc (.cells #[.int .i64 (y : Int)] 3))).sl
      have F1 := hF.alloc (.cells #[.int .i64 (y : Int)] 3)
      have hsz2 := F1.size
      clear h1 ho
      go_wp2_with (at_builtin; refine ap_cat _ rfl _ _ rfl w1.heap.size _ 1 1 [(y : Int)] a l cc L rfl rfl o1 hsz2 hS (by omega) (by omega) ?_)
      intro g' c' w' k1 k2 k3
      have F2 := F1.grown k2 (fun z hz => (o1.blk z hz).1)
      clear hcp c0 o1 hS k2 k3
      go_wp2
      go_roundw
      case rel => exact ⟨1 + l, c', y, _, _, rfl, rfl, k1, F2, by omega, HR3⟩
      case measure => simp [intOf]; omega
    · obtain rfl : z = 0 := by omega
      have hL : L = wayM P x := by
        have := hR.out
        rw [upM_zero] at this
        simp at this
        rw [wayM, ← this, List.reverse_reverse]
      subst hL
      have z1 := Z1.out
      go_wp2
      go_ret
      exact ⟨_, _, _, rfl, ho.mono (by omega), hfr.trans hF, by omega⟩
end Go.Proofs.Ytojipjjfndgbhaa
/- Draws of numbers for nodes (seats with trees). -/
set_option linter.unusedVariables false
namespace Go.Proofs.Ytojipjjfndgbhaa
open Go.ChangeShapes Go.WideShapes Go.ChangeAt Go.RowKit
/-- An append to memory of the draw's own. -/
theorem Dr.app {g A : Nat} {w w' w'' : World} {p : Option Addr} (h : Dr g A w w') (hgr : w'.grownBy w'' (blkOf p)) (hp : ∀ k, blkOf p = some k → w.heap.size ≤ k) (hg : g < w.heap.size) : Dr g A w w'' := by
  refine ⟨h.cur.grown hgr (fun k e => by have := hp k e; omega), ?_⟩
  refine ⟨hgr.os.trans h.grow.os, hgr.tape.trans h.grow.tape, hgr.output.trans h.grow.output, Nat.le_trans h.size hgr.size, fun k hk hne => ?_⟩
  rw [hgr.block k (Nat.lt_of_lt_of_le hk h.size) (fun e => by have := hp k e.symm; omega)]
  exact h.grow.block k hk hne
theorem Dr.blk {g A k : Nat} {w w' : World} {cs : Array Value} {T : TypeId} (h : Dr g A w w') (b : Blk w k cs T) (hne : g ≠ k) : Blk w' k cs T := b.grown h.grow (fun e => hne (by injection e))
/-- A list that is being drawn. -/
structure LsI (w : World) (g A : Nat) (p : Option Addr) (m c : Nat) (wr : World) : Prop where
  op : ∃ xs, Own w.heap.size wr p m c xs
  D : Dr g A w wr
theorem LsI.mono {w : World} {g A A' : Nat} {p : Option Addr} {m c : Nat} {wr : World} (h : LsI w g A p m c wr) (hA : A ≤ A') : LsI w g A' p m c wr := ⟨h.op, h.D.mono hA⟩
theorem LsI.step {w : World} {g A A' : Nat} {p : Option Addr} {m c : Nat} {wr w' : World} (h : LsI w g A p m c wr) (hg : g < w.heap.size) (E : Dr g A' wr w') : LsI w g A' p m c w' := by
  obtain ⟨⟨xs, h1⟩, D⟩ := h
  exact ⟨⟨xs, E.own h1 hg⟩, D.trans E⟩
theorem LsI.app {w : World} {g A : Nat} {p : Option Addr} {m c : Nat} {wr w' : World} (h : LsI w g A p m c wr) (hg : g < w.heap.size) {g' m' c' : Nat} {ys : List Int} (ho : Own w.heap.size w' (some ⟨g', 0, none⟩) m' c' ys) (hgr : wr.grownBy w' (blkOf p)) : LsI w g A (some ⟨g', 0, none⟩) m' c' w' := by
  obtain ⟨⟨xs, h1⟩, D⟩ := h
  exact ⟨⟨ys, ho⟩, D.app hgr (fun k hk => (h1.blk k hk).1) hg⟩
set_option maxRecDepth 100000 in
set_option maxHeartbeats 1000000 in
theorem somePays_dr {g A : Nat} {w0 : World} (w : World) (n : Nat) (h : Dr g A w0 w) (hA : A ≤ 1000000000) (hn : n ≤ 24) :
    Calls Try.prog 144 #[.pointer (some ⟨g, 0, none⟩), .int .i64 n] w fun e w' => ∃ (p : Option Addr) (m c : Nat), e = .returned (.slice p m c) ∧ (∃ xs, Own w.heap.size w' p m c xs) ∧ m ≤ n + 1 ∧ Dr g (A + 100) w0 w' ∧ Dr g (A + 100) w w' := by
  have hg := h.cur.lt
  have hself := Dr.refl h.cur
  have o0 := Own.made0 (B := w.heap.size) w (Nat.le_refl _)
  have D0 := hself.alloc (.cells #[] 3)
  clear hself
  go_enter Try.func144, Try.ntmps144
  go_wp2_with fail
  refine (among_dr _ 3 30 [3, 10, 30] _ _ _ _ D0 (by omega) rfl rfl (by decide) (by decide) (by first | rfl | simp) (by decide)).mono ?_
  rintro e w1 ⟨big, rfl, hb, D1, E1⟩
  have L1 : LsI w g (A + 2) (some ⟨w.heap.size, 0, none⟩) 0 0 w1 := ⟨⟨[], E1.own o0 hg⟩, D1⟩
  clear D0 D1 E1 o0
  go_wp2
  go_loopw [5, 7] (fun s i wr => ∃ (j : Nat) (p : Option Addr) (c : Nat), j ≤ n ∧ i = .int .i64 j ∧ s = .slice p j c ∧ LsI w g (A + 2 + 2 * j) p j c wr) (fun _ i _ => n - (intOf i).toNat)
  case atStart => exact ⟨0, _, _, Nat.zero_le _, rfl, rfl, L1⟩
  case round =>
    clear L1
    obtain ⟨j, p, c, hj, rfl, rfl, L⟩ := hrel
    obtain ⟨wo, rfl⟩ : ∃ wo : World, wo = wr := ⟨_, rfl⟩
    by_cases hlt : j < n
    · have vj : (j : Int) < (n : Int) := by omega
      go_wp2_with fail
      refine (pick_dr _ (2 * big + 1) L.D (by omega) (by unfold I64; omega)).mono ?_
      rintro e w2 ⟨x, rfl, hx, D2, E2⟩
      have L2 := L.step hg E2
      have hsz := L2.D.size
      obtain ⟨xs, o2⟩ := L2.op
      clear L D2 E2
      go_wp2_with (at_builtin; refine ap_int _ rfl _ _ rfl w.heap.size p j c xs _ rfl rfl o2 hsz (by unfold I64; omega) (by omega) ?_)
      intro g' c' w' hown hgr _
      have L3 := L2.app hg hown hgr
      clear L2 o2 hown hgr
      go_wp2
      go_roundw
      case rel => exact ⟨j + 1, _, _, by omega, by go_num, rfl, L3.mono (by omega)⟩
      case measure => simp [intOf]; omega
    · obtain rfl : n = j := by omega
      have L1 := L.mono (show A + 2 + 2 * n ≤ A + 50 by omega)
      clear L
      go_upto_region 6 with fail
      go_cut [32] from 27 to 32 (fun s wx => ∃ bb : Bool, s = .bool bb ∧ (bb = true → 0 < n) ∧ LsI w g (A + 52) p n c wx)
      case first =>
        by_cases n0 : 0 < n
        · have vn : (0 : Int) < (n : Int) := by omega
          go_wp2_with fail
          refine (one_dr _ 30 L1.D (by omega) (by unfold I64; omega)).mono ?_
          rintro e w3 ⟨b, rfl, D3, E3⟩
          have L3 := L1.step hg E3
          clear L1 D3 E3
          go_wp2_with fail
          go_meet
          exact ⟨b, rfl, fun _ => n0, L3⟩
        · have vn : ¬ (0 : Int) < (n : Int) := by omega
          go_wp2_with fail
          go_meet
          exact ⟨false, rfl, fun e => (by cases e), L1.mono (by omega)⟩
      case rest =>
        obtain ⟨bb, rfl, hbb, L2⟩ := hcut
        obtain ⟨w3, rfl⟩ : ∃ wz : World, wz = wc := ⟨_, rfl⟩
        clear L1
        go_upto_if 32 with fail
        go_cut [] from 33 to 40 (fun wx => LsI w g (A + 56) p n c wx)
        case first =>
          cases bb
          · go_wp2_with fail
            go_meet
            exact L2.mono (by omega)
          · have n0 := hbb rfl
            go_wp2_with fail
            refine (pick_dr _ n L2.D (by omega) (by unfold I64; omega)).mono ?_
            rintro e w4 ⟨x, rfl, hx, D4, E4⟩
            have L4 := L2.step hg E4
            obtain ⟨k, rfl⟩ := Int.eq_ofNat_of_zero_le hx.1
            clear L2 D4 E4
            go_wp2_with fail
            refine (among_dr _ (-1000) 4611686018427387904 [999, -999, 1000, -1000, 4611686018427387904] _ _ _ _ L4.D (by omega) rfl rfl (by decide) (by decide) (by first | rfl | simp) (by decide)).mono ?_
            rintro e w5 ⟨z, rfl, hz, D5, E5⟩
            have L5 := L4.step hg E5
            clear L4 D5 E5
            obtain ⟨⟨xs, o5⟩, D5⟩ := L5
            have hk : k < n := by omega
            obtain ⟨g5, rfl, hB, _, q5, z5⟩ := o5.op (by omega)
            replace q5 := q5 k hk
            replace z5 := z5 k
            have vk0 : (0 : Int) ≤ (k : Int) := by omega
            have vk : (k : Int) < (n : Int) := by omega
            have L6 : LsI w g (A + 56) (some ⟨g5, 0, none⟩) n c (w5.setCell ⟨g5, k, none⟩ (.int .i64 z)) := ⟨⟨_, o5.set rfl hk (show I64 z by unfold I64; omega)⟩, (D5.set (q := ⟨g5, k, none⟩) hB hg (.int .i64 z)).mono (by omega)⟩
            clear o5 D5 hx
            go_wp2_with fail
            go_meet
            exact L6
        case rest =>
          obtain ⟨w4, rfl⟩ : ∃ wz : World, wz = wc := ⟨_, rfl⟩
          have L3 := hcut
          clear hcut L2 hbb
          go_wp2_with fail
          refine (one_dr _ 40 L3.D (by omega) (by unfold I64; omega)).mono ?_
          rintro e w5 ⟨b, rfl, D5, E5⟩
          have L5 := L3.step hg E5
          clear L3 D5 E5
          cases b
          · go_wp2
            go_ret
            exact ⟨_, _, _, rfl, L5.op, by omega, h.trans (L5.D.mono (by omega)), L5.D.mono (by omega)⟩
          · obtain ⟨xs, o5⟩ := L5.op
            have hsz := L5.D.size
            go_wp2_with (at_builtin; refine ap_int _ rfl _ _ rfl w.heap.size p n c xs _ rfl rfl o5 hsz (by unfold I64; omega) (by omega) ?_)
            intro g' c' w' hown hgr _
            have L6 := L5.app hg hown hgr
            clear L5 o5 hown hgr
            go_wp2
            go_ret
            exact ⟨_, _, _, rfl, L6.op, by omega, h.trans (L6.D.mono (by omega)), L6.D.mono (by omega)⟩
theorem pays_dr {g A : Nat} {w0 : World} (w : World) (p q : Option Addr) (n c m d : Nat) (h : Dr g A w0 w) (hA : A ≤ 1000000000) (hn : n ≤ 1000000) :
    Calls Try.prog 135 #[.pointer (some ⟨g, 0, none⟩), .agg #[.slice p n c, .slice q m d]] w fun e w' => ∃ (p : Option Addr) (m c : Nat), e = .returned (.slice p m c) ∧ (∃ xs, Own w.heap.size w' p m c xs) ∧ m ≤ 25 ∧ Dr g (A + 100) w0 w' ∧ Dr g (A + 100) w w' := by
  have hself := Dr.refl h.cur
  have H0 := Blk.new w #[.slice p n c, .slice q m d] 29
  have c0 := H0.cell (j := 0) rfl; have c1 := H0.cell (j := 1) rfl
  have D0 := hself.alloc (.cells #[.slice p n c, .slice q m d] 29)
  clear H0 hself
  go_enter Try.func135, Try.ntmps135
  go_wp2_with fail
  refine (l1Least_any _ _ _).mono ?_
  rintro e w' ⟨rfl, rfl⟩
  obtain ⟨k, hk⟩ := Int.eq_ofNat_of_zero_le (show 0 ≤ min (n : Int) 24 by omega)
  have hk24 : k ≤ 24 := by omega
  rw [hk]
  clear c0 c1 hk
  go_wp2_with fail
  refine (somePays_dr _ k D0 (by omega) hk24).mono ?_
  rintro e w2 ⟨p2, m2, c2, rfl, ⟨xs, o2⟩, hm, D2, E2⟩
  go_wp2
  go_ret
  exact ⟨_, _, _, rfl, ⟨xs, o2.mono (by simp)⟩, by omega, h.trans D2, D2⟩
end Go.Proofs.Ytojipjjfndgbhaa
/- Contracts of trees: sums, and the numbers of ends spread over the nodes. -/
set_option linter.unusedVariables false
namespace Go.Proofs.Ytojipjjfndgbhaa
open Go.ChangeShapes Go.WideShapes Go.ChangeAt Go.RowKit

/-- The numbers of the first i ends times their weights, at their nodes. -/
def spreadTo (P W V : List Int) : Nat → List Int
  | 0 => List.replicate P.length 0
  | i + 1 => (spreadTo P W V i).set (nth (endsM P) i).toNat (nth V i * nth W (nth (endsM P) i).toNat)
def spreadM (P W V : List Int) : List Int := spreadTo P W V (endsM P).length
theorem spreadTo_len (P W V : List Int) (i : Nat) : (spreadTo P W V i).length = P.length := by
  induction i with
  | zero => simp [spreadTo]
  | succ i ih => rw [spreadTo, List.length_set, ih]
theorem natAbs_mul_le {x y M N : Int} (h1 : (x.natAbs : Int) ≤ M) (h2 : (y.natAbs : Int) ≤ N) : ((x * y).natAbs : Int) ≤ M * N := by
  rw [Int.natAbs_mul]
  have : ((x.natAbs * y.natAbs : Nat) : Int) = (x.natAbs : Int) * (y.natAbs : Int) := by simp
  rw [this]
  exact Int.le_trans (Int.mul_le_mul_of_nonneg_right h1 (by omega)) (Int.mul_le_mul_of_nonneg_left h2 (by omega))
theorem spreadTo_bd {P W V : List Int} (hW : ∀ i, 0 ≤ nth W i ∧ nth W i ≤ 20) (hV : ∀ i, -999 ≤ nth V i ∧ nth V i ≤ 999) (i : Nat) : ∀ x, ((nth (spreadTo P W V i) x).natAbs : Int) ≤ 19980 := by
  induction i with
  | zero =>
    intro x; simp only [spreadTo]
    by_cases hx : x < P.length
    · rw [nth_eq (by simpa using hx)]; simp
    · rw [nth_out (by simp; omega)]; simp
  | succ i ih =>
    intro x
    rw [spreadTo]
    by_cases e : (nth (endsM P) i).toNat = x
    · subst e
      by_cases hx : (nth (endsM P) i).toNat < (spreadTo P W V i).length
      · rw [nth_set_same hx]
        have h1 := hV i; have h2 := hW (nth (endsM P) i).toNat
        have := natAbs_mul_le (M := 999) (N := 20) (show ((nth V i).natAbs : Int) ≤ 999 by omega) (show ((nth W (nth (endsM P) i).toNat).natAbs : Int) ≤ 20 by omega)
        omega
      · rw [List.set_eq_of_length_le (by omega)]; exact ih _
    · rw [nth_set_ne e]; exact ih x
theorem spread_abs {P W V : List Int} (hW : ∀ i, 0 ≤ nth W i ∧ nth W i ≤ 20) (hV : ∀ i, -999 ≤ nth V i ∧ nth V i ≤ 999) (hn : P.length ≤ 24) : absTo (spreadM P W V) P.length ≤ 479520 := by
  have := absTo_le (spreadTo_bd (P := P) hW hV (endsM P).length) P.length
  have : (19980 : Int) * P.length ≤ 479520 := by omega
  unfold spreadM; omega
def totalsM (P W V : List Int) : List Int := gathM P (spreadM P W V)
theorem totals_bd {P W V : List Int} (hp : parB P = true) (hW : ∀ i, 0 ≤ nth W i ∧ nth W i ≤ 20) (hV : ∀ i, -999 ≤ nth V i ∧ nth V i ≤ 999) (hn : P.length ≤ 24) (h1 : 1 ≤ P.length) (x : Nat) : ((nth (totalsM P W V) x).natAbs : Int) ≤ 479520 := by
  have := (gathTo_abs (a := spreadM P W V) hp (spreadTo_len _ _ _ _) (P.length - 1) (by omega)).2 x
  have := spread_abs hW hV hn
  rw [totalsM, gathM]; omega
theorem wei_abs {P W : List Int} (h : treeB P W = true) : absTo W P.length ≤ 480 := by
  have := absTo_le (xs := W) (M := 20) (fun i => by have := tree_wei h i; omega) P.length
  have := (treeB_iff.1 h).1
  omega

set_option maxRecDepth 100000 in
theorem sums_any (w : World) (p q : Option Addr) (n c m d : Nat) (P W : List Int) (hP : SL w p n c P) (hW : SL w q m d W) (ht : treeB P W = true) :
    Calls Try.prog 91 #[.agg #[.slice p n c, .slice q m d]] w (RetS (gathM P W) w) := by
  have HP := Lib.hid hP.len
  have HW := Lib.hid hW.len
  have hwa := wei_abs ht
  obtain ⟨t1, t2, t3, _⟩ := treeB_iff.1 ht
  rw [HP.out] at t1 hwa
  rw [HP.out, HW.out] at t2
  subst t2
  have hb : absTo W m ≤ 1000000000000 := by omega
  have hfr : Fr w (w.alloc (.cells #[.slice p m c, .slice q m d] 29)) := (Fr.refl w).alloc _
  go_enter Try.func91, Try.ntmps91
  go_wp2_with fail
  refine (gathered_any _ _ _ _ _ _ _ _ _ _ _ _ (hP.fr hfr) (hW.fr hfr) t3 t1.2 t1.1 rfl hb).mono ?_
  rintro e w1 ⟨a1, n1, c1, rfl, o1, f1, m1⟩
  go_wp2
  go_ret
  rw [World.size_alloc] at o1
  exact ⟨_, _, _, rfl, o1.mono (by omega), hfr.trans f1, m1⟩

theorem l2Sums_any (w : World) (p q : Option Addr) (n c m d : Nat) (P W : List Int) (hP : SL w p n c P) (hW : SL w q m d W) (ht : treeB P W = true) :
    Calls Try.prog 122 #[.agg #[.slice p n c, .slice q m d]] w (RetS (gathM P W) w) := by
  have HP := Lib.hid hP.len
  have HW := Lib.hid hW.len
  have hwa := wei_abs ht
  obtain ⟨t1, t2, t3, _⟩ := treeB_iff.1 ht
  rw [HP.out] at t1 hwa
  rw [HP.out, HW.out] at t2
  subst t2
  have Hp := Lib.hid t3
  have hbd : Hid (∀ j, j + 1 ≤ m → ∀ i, ((nth (gathTo P W j) i).natAbs : Int) ≤ 480) := Lib.hid (fun j hj i => by
    have := (gathTo_abs (a := W) t3 (by have := HP.out; have := HW.out; omega) j (by have := HP.out; omega)).2 i
    rw [HP.out] at this; omega)
  clear t3 hwa ht
  have hfr : Fr w (w.alloc (.cells #[.slice p m c, .slice q m d] 29)) := (Fr.refl w).alloc _
  go_enter Try.func122, Try.ntmps122
  go_wp2_with fail
  refine (l1Own_any _ _ _ _ _ (hW.fr hfr) (by omega)).mono ?_
  rintro e w1 ⟨a1, n1, c1, rfl, o1, f1, _⟩
  obtain rfl : n1 = m := by rw [← o1.len, HW.out]
  have z1 := f1.size
  simp only [World.size_alloc] at z1
  rw [World.size_alloc] at o1
  go_wp2
  go_loopw [4] (fun i wr => ∃ x : Nat, x < n1 ∧ i = .int .i64 x ∧ Own (w.heap.size + 1) wr a1 n1 c1 (gathTo P W (n1 - 1 - x)) ∧ Fr (w.alloc (.cells #[.slice p n1 c, .slice q n1 d] 29)) wr) (fun i _ => (intOf i).toNat)
  case atStart => exact ⟨n1 - 1, by omega, congrArg (Value.int .i64) (by omega), by rw [Nat.sub_self]; exact o1, f1⟩
  case round =>
    clear o1 f1
    obtain ⟨x, hx, rfl, ho, hf⟩ := hrel
    have hF : Fr w wr := hfr.trans hf
    by_cases h0 : 0 < x
    · have hbox := hf.newCell (j := 0) (v := .slice p n1 c) rfl
      obtain ⟨bp, op, rfl, hcp⟩ := (hP.fr hF).cells.resolve_left (by omega)
      replace hcp := hcp x hx
      obtain ⟨y, hy⟩ := Int.eq_ofNat_of_zero_le (by have := (parB_iff.1 Hp.out).2 x (by rw [HP.out]; exact hx) h0; omega : 0 ≤ nth P x)
      have hyx : y < x := by have := (parB_iff.1 Hp.out).2 x (by rw [HP.out]; exact hx) h0; omega
      have HG : Hid (gathTo P W (n1 - 1 - (x - 1)) = (gathTo P W (n1 - 1 - x)).set y (nth (gathTo P W (n1 - 1 - x)) y + nth (gathTo P W (n1 - 1 - x)) x)) := Lib.hid (by
        rw [show n1 - 1 - (x - 1) = (n1 - 1 - x) + 1 by omega, gathTo, gathS, HP.out, show n1 - 1 - (n1 - 1 - x) = x by omega, hy]; simp)
      rw [hy] at hcp
      clear hy
      obtain ⟨g, rfl, hB, hlt2, hcc, hfro⟩ := ho.op (by omega)
      have hcx := hcc x hx
      have hcy := hcc y (by omega)
      replace hfro := hfro y
      clear hcc
      have b1 := hbd.out (n1 - 1 - x) (by omega) x
      have b2 := hbd.out (n1 - 1 - x) (by omega) y
      have i1 : (0 : Int) ≤ (x : Int) := by omega
      have i2 : (x : Int) < (n1 : Int) := by omega
      have i3 : (0 : Int) ≤ (y : Int) := by omega
      have i4 : (y : Int) < (n1 : Int) := by omega
      have hxd : decide (0 < x) = true := by simp; omega
      go_wp2
      have e1 : IntKind.i64.wrap (nth (gathTo P W (n1 - 1 - x)) y + nth (gathTo P W (n1 - 1 - x)) x) = nth (gathTo P W (n1 - 1 - x)) y + nth (gathTo P W (n1 - 1 - x)) x := IntWalk.i64_in _ (by omega)
      go_region
      clear e1
      go_wp2
      go_roundw
      case rel =>
        refine ⟨x - 1, by omega, congrArg (Value.int .i64) (by omega), ?_, ?_⟩
        · rw [HG.out]; exact (ho.drewN 1).set rfl (by omega) (by unfold I64; omega)
        · exact (hf.drew' 1).setCell (by simp; omega) _
      case measure => simp [intOf]; omega
    · obtain rfl : x = 0 := by omega
      have HM : Hid (gathTo P W (n1 - 1 - 0) = gathM P W) := Lib.hid (by rw [gathM, HP.out]; rfl)
      rw [HM.out] at ho
      go_wp2
      go_ret
      exact ⟨_, _, _, rfl, ho.mono (by omega), hF, by omega⟩

end Go.Proofs.Ytojipjjfndgbhaa
