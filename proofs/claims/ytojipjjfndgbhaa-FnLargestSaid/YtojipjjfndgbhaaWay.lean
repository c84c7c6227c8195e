import Derived.Test.YtojipjjfndgbhaaWayM
import Derived.Test.YtojipjjfndgbhaaSum
import Derived.Test.YtojipjjfndgbhaaApp
import Derived.Test.YtojipjjfndgbhaaCur
import Derived.Deep.DeepCutAuto
/- Contracts of ways. -/
set_option linter.unusedVariables false
namespace Go.Proofs.Ytojipjjfndgbhaa
open Go.ChangeShapes Go.WideShapes Go.ChangeAt Go.RowKit
theorem Own.lit1 {B : Nat} {w : World} {z : Int} (hB : B ≤ w.heap.size) (hz : I64 z) : Own B (w.alloc (.cells #[.int .i64 z] 3)) (some ⟨w.heap.size, 0, none⟩) 1 1 [z] :=
  ⟨⟨by simp, .inr ⟨w.heap.size, 1, #[.int .i64 z], rfl, hB, heap_alloc_new w _, Nat.le_refl _, by unfold maxLen; omega, by simp, by simp⟩⟩, by simpa using hz⟩
theorem Reverse_any {B : Nat} (w : World) (a : Option Addr) (n c : Nat) (xs : List Int) (h : Own B w a n c xs) (hn : n ≤ 1000000) :
    Calls Try.prog 138 #[.slice a n c] w fun e w' => e = .returned (.tuple #[]) ∧ Own B w' a n c xs.reverse ∧ w.grownBy w' (blkOf a) := by
  have HL := Lib.hid h.len
  have h0 := h
  rw [← revT_zero h.len] at h0
  have g0 := grownBy_refl w (blkOf a)
  have HX : Hid (∀ i, I64 (nth xs i)) := Lib.hid fun i => h.sl.rngAt i
  clear h
  go_enter Try.func138, Try.ntmps138
  go_wp2
  go_loopw [2, 3] (fun x y wr => ∃ i : Nat, 2 * i ≤ n ∧ x = .int .i64 i ∧ y = .int .i64 ((n : Int) - 1 - i) ∧ Own B wr a n c (revT xs n i) ∧ w.grownBy wr (blkOf a)) (fun i _ _ => n - (intOf i).toNat)
  case atStart => exact ⟨0, by omega, rfl, by simp, h0, g0⟩
  case round =>
    clear h0 g0
    obtain ⟨i, hi, rfl, rfl, ho, hg⟩ := hrel
    obtain ⟨wo, rfl⟩ : ∃ wo : World, wo = wr := ⟨_, rfl⟩
    by_cases hlt : 2 * i + 1 < n
    · obtain ⟨j, hj⟩ : ∃ j, j = n - 1 - i := ⟨_, rfl⟩
      have ej : (n : Int) - 1 - (i : Int) = (j : Int) := by omega
      have lj : j < n := by omega
      have li : i < n := by omega
      have lij : i < j := by omega
      rw [ej]
      have vi0 : (0 : Int) ≤ (i : Int) := by omega
      have vi : (i : Int) < (n : Int) := by omega
      have vj0 : (0 : Int) ≤ (j : Int) := by omega
      have vj : (j : Int) < (n : Int) := by omega
      have vij : (i : Int) < (j : Int) := by omega
      obtain ⟨g, rfl, hB, hlt2, hcell, hfro⟩ := ho.op (by omega)
      have q1 := hcell i li
      have q2 := hcell j lj
      rw [revT_nth li, if_neg (by omega)] at q1
      rw [revT_nth lj, if_neg (by omega)] at q2
      have z1 := hfro i
      have o1 := ho.set rfl li (HX.out j)
      have z2 := o1.frz j
      have q3 := o1.cellAt rfl lj
      rw [nth_set_ne (by omega), revT_nth lj, if_neg (by omega)] at q3
      have o2 := o1.set rfl lj (HX.out i)
      rw [revT_step hj lij] at o2
      have o3 := Lib.hid (o2.fr (Fr.drewN _ 1))
      have g1 := Lib.hid (grown_fr (grownBy_setCell (grownBy_setCell hg (p := ⟨g, i, none⟩) rfl (.int .i64 (nth xs j))) (p := ⟨g, j, none⟩) rfl (.int .i64 (nth xs i))) (Fr.drewN _ 1))
      have HJ := Lib.hid hj; have HE := Lib.hid ej
      clear ho hg o1 o2 hcell hfro hj ej
      go_upto_region 3 with fail
      go_region
      go_wp2
      go_roundw
      case rel =>
        have e1 := HJ.out
        exact ⟨i + 1, by omega, by go_num, by have := HE.out; go_num, o3.out, g1.out⟩
      case measure => simp [intOf]; omega
    · have hd : revT xs n i = xs.reverse := revT_done HL.out (by omega)
      rw [hd] at ho
      have vij : ¬ (i : Int) < (n : Int) - 1 - (i : Int) := by omega
      go_wp2
      go_end0
      exact ⟨rfl, ho, hg⟩
set_option maxRecDepth 100000 in
theorem way_any (w : World) (p q : Option Addr) (n c m d x : Nat) (P : List Int) (hP : SL w p n c P) (hp : parB P = true) (hx : x < n) (hn : n ≤ 1000) :
    Calls Try.prog 109 #[.agg #[.slice p n c, .slice q m d], .int .i64 x] w (RetS (wayM P x) w) := by
  have HP := Lib.hid hP.len
  have Hp := Lib.hid hp
  have hfr : Fr w (w.alloc (.cells #[.slice p n c, .slice q m d] 29)) := (Fr.refl w).alloc _
  have H0 := Lib.hid (Blk.new w #[.slice p n c, .slice q m d] 29)
  have o0 := Own.made0 (B := w.heap.size + 1) (w.alloc (.cells #[.slice p n c, .slice q m d] 29)) (by simp)
  have f0 := (Fr.refl (w.alloc (.cells #[.slice p n c, .slice q m d] 29))).alloc (.cells #[] 3)
  clear hp
  go_enter Try.func109, Try.ntmps109
  go_upto_region 1 with fail
  generalize hw1 : w.alloc (.cells #[.slice p n c, .slice q m d] 29) = w1 at hfr H0 o0 f0 ⊢
  have z1 : w1.heap.size = w.heap.size + 1 := by rw [← hw1]; simp
  have Z1 := Lib.hid z1
  rw [← z1] at o0
  clear hw1 z1
  go_wp2
  go_loopw [1, 5] (fun y s wr => ∃ (l cc : Nat) (a : Option Addr) (L : List Int) (cur : Int), y = .int .i64 cur ∧ s = .slice a l cc ∧ Own w1.heap.size wr a l cc L ∧ Fr w1 wr ∧ (-1 ≤ cur ∧ (l : Int) + cur + 1 ≤ n) ∧ Hid ((cur = -1 ∧ L = upM P x) ∨ ∃ z : Nat, cur = (z : Int) ∧ L ++ upM P z = upM P x)) (fun i _ _ => (intOf i + 1).toNat)
  case atStart => exact ⟨0, 0, _, [], (x : Int), rfl, rfl, o0, f0, by omega, Lib.hid (.inr ⟨x, rfl, rfl⟩)⟩
  case round =>
    clear o0 f0
    obtain ⟨l, cc, a, L, cur, rfl, rfl, ho, hF, hb, hR⟩ := hrel
    obtain ⟨wo, rfl⟩ : ∃ wo : World, wo = wr := ⟨_, rfl⟩
    by_cases hc : 0 ≤ cur
    · obtain ⟨z, rfl⟩ := Int.eq_ofNat_of_zero_le hc
      have hzn : z < n := by omega
      have vz : (z : Int) < (n : Int) := by omega
      have hR2 : L ++ upM P z = upM P x := by
        rcases hR.out with ⟨h1, _⟩ | ⟨z', h1, h2⟩
        · omega
        · obtain rfl : z' = z := by omega
          exact h2
      have hsz := hF.size
      have HR3 : Hid ((nth P z = -1 ∧ L ++ [(z : Int)] = upM P x) ∨ (∃ y : Nat, nth P z = (y : Int) ∧ L ++ [(z : Int)] ++ upM P y = upM P x) ∧ nth P z + 1 ≤ z) := Lib.hid (by
        by_cases hz0 : z = 0
        · subst hz0
          exact .inl ⟨(parB_iff.1 Hp.out).1, hR2⟩
        · have h1 := par_of Hp.out (by rw [HP.out]; exact hzn) (show 1 ≤ z by omega)
          rw [upM_succ Hp.out (by rw [HP.out]; exact hzn) (by omega)] at hR2
          exact .inr ⟨⟨par P z, h1.1, by simpa using hR2⟩, by omega⟩)
      clear hR hR2
      go_wp2_with (at_builtin; refine ap_int _ rfl _ _ rfl w1.heap.size a l cc L _ rfl rfl ho hsz (by unfold I64; omega) (by omega) ?_)
      intro g' c' w' k1 k2 k3
      have F2 := hF.grown k2 (fun z hz => (ho.blk z hz).1)
      have c0 := (H0.out.fr F2).cell (j := 0) rfl
      obtain ⟨bp, op, rfl, hcp⟩ := (hP.fr (hfr.trans F2)).cells.resolve_left (by omega)
      replace hcp := hcp z hzn
      clear ho hF k2 k3
      have HB : Hid (-1 ≤ nth P z ∧ nth P z + 1 ≤ z) := Lib.hid (by
        rcases HR3.out with ⟨h, _⟩ | ⟨⟨y, h, _⟩, h2⟩
        · omega
        · omega)
      go_wp2
      go_roundw
      case rel =>
        have hb2 := HB.out
        refine ⟨l + 1, c', _, _, nth P z, rfl, rfl, k1, F2, by omega, Lib.hid ?_⟩
        rcases HR3.out with h | ⟨h, _⟩
        · exact .inl h
        · exact .inr h
      case measure =>
        have hb2 := HB.out
        simp [intOf]; omega
    · obtain rfl : cur = -1 := by omega
      have hL : L = upM P x := by
        rcases hR.out with ⟨_, h⟩ | ⟨z, h, _⟩
        · exact h
        · omega
      subst hL
      clear hR
      go_wp2_with fail
      refine (Reverse_any _ _ _ _ _ ho (by omega)).mono ?_
      rintro e w3 ⟨rfl, o3, g3⟩
      have F3 := hF.grown g3 (fun z hz => (ho.blk z hz).1)
      have z1 := Z1.out
      go_wp2
      go_ret
      exact ⟨_, _, _, rfl, o3.mono (by omega), hfr.trans F3, by omega⟩
set_option maxRecDepth 100000 in
theorem l2Way_any (w : World) (p q : Option Addr) (n c m d x : Nat) (P : List Int) (hP : SL w p n c P) (hp : parB P = true) (hx : x < n) (hn : n ≤ 1000) :
    Calls Try.prog 127 #[.agg #[.slice p n c, .slice q m d], .int .i64 x] w (RetS (wayM P x) w) := by
  have HP := Lib.hid hP.len
  have Hp := Lib.hid hp
  have hfr : Fr w (w.alloc (.cells #[.slice p n c, .slice q m d] 29)) := (Fr.refl w).alloc _
  have H0 := Lib.hid (Blk.new w #[.slice p n c, .slice q m d] 29)
  have o0 := Own.lit1 (B := w.heap.size + 1) (w := w.alloc (.cells #[.slice p n c, .slice q m d] 29)) (z := (x : Int)) (by simp) (by unfold I64; omega)
  have f0 := (Fr.refl (w.alloc (.cells #[.slice p n c, .slice q m d] 29))).alloc (.cells #[.int .i64 (x : Int)] 3)
  have HU : Hid ([(x : Int)].reverse ++ (upM P x).tail = upM P x) := Lib.hid (by
    by_cases hx0 : x = 0
    · subst hx0; rfl
    · rw [upM_succ hp (by rw [HP.out]; exact hx) (by omega)]; rfl)
  clear hp
  go_enter Try.func127, Try.ntmps127
  go_upto_region 1 with fail
  generalize hw1 : w.alloc (.cells #[.slice p n c, .slice q m d] 29) = w1 at hfr H0 o0 f0 ⊢
  have z1 : w1.heap.size = w.heap.size + 1 := by rw [← hw1]; simp
  have Z1 := Lib.hid z1
  rw [← z1] at o0
  clear hw1 z1
  go_wp2
  go_loopw [1, 5] (fun y s wr => ∃ (l cc z : Nat) (a : Option Addr) (L : List Int), y = .int .i64 z ∧ s = .slice a l cc ∧ Own w1.heap.size wr a l cc L ∧ Fr w1 wr ∧ (1 ≤ l ∧ z < n ∧ l + z ≤ n) ∧ Hid (L.reverse ++ (upM P z).tail = upM P x)) (fun i _ _ => (intOf i).toNat)
  case atStart => exact ⟨1, 1, x, _, _, rfl, rfl, o0, f0, by omega, HU⟩
  case round =>
    clear o0 f0 HU
    obtain ⟨l, cc, z, a, L, rfl, rfl, ho, hF, hb, hR⟩ := hrel
    obtain ⟨wo, rfl⟩ : ∃ wo : World, wo = wr := ⟨_, rfl⟩
    by_cases hc : 0 < z
    · have vz0 : (0 : Int) < (z : Int) := by omega
      have vz1 : (0 : Int) ≤ (z : Int) := by omega
      have vz : (z : Int) < (n : Int) := by omega
      have h1 := par_of Hp.out (by rw [HP.out]; omega) (show 1 ≤ z by omega)
      have HR3 : Hid ((((par P z : Nat) : Int) :: L).reverse ++ (upM P (par P z)).tail = upM P x) := Lib.hid (by
        have h2 := hR.out
        rw [upM_succ Hp.out (by rw [HP.out]; omega) (by omega)] at h2
        rw [List.tail_cons] at h2
        rw [List.reverse_cons, List.append_assoc, ← h2]
        congr 1
        by_cases hy : par P z = 0
        · rw [hy]; rfl
        · rw [upM_succ Hp.out (x := par P z) (by rw [HP.out]; omega) (by omega)]; rfl)
      obtain ⟨y, hy⟩ : ∃ y, y = par P z := ⟨_, rfl⟩
      rw [← hy] at HR3 h1
      clear hR hy
      have c0 := (H0.out.fr hF).cell (j := 0) rfl
      obtain ⟨bp, op, rfl, hcp⟩ := (hP.fr (hfr.trans hF)).cells.resolve_left (by omega)
      replace hcp := hcp z (by omega)
      rw [h1.1] at hcp
      have hly := h1.2
      have hsz := hF.size
      have o1 := Own.lit1 (B := w1.heap.size) (w := wo) (z := (y : Int)) hsz (by unfold I64; omega)
      have hS := (ho.fr ((Fr.refl wo).alloc (.cells #[.int .i64 (y : Int)] 3))).sl
      have F1 := hF.alloc (.cells #[.int .i64 (y : Int)] 3)
      have hsz2 := F1.size
      clear h1 ho
      go_wp2_with (at_builtin; refine ap_cat _ rfl _ _ rfl w1.heap.size _ 1 1 [(y : Int)] a l cc L rfl rfl o1 hsz2 hS (by omega) (by omega) ?_)
      intro g' c' w' k1 k2 k3
      have F2 := F1.grown k2 (fun z hz => (o1.blk z hz).1)
      clear hcp c0 o1 hS k2 k3
      go_wp2
      go_roundw
      case rel => exact ⟨1 + l, c', y, _, _, rfl, rfl, k1, F2, by omega, HR3⟩
      case measure => simp [intOf]; omega
    · obtain rfl : z = 0 := by omega
      have hL : L = wayM P x := by
        have := hR.out
        rw [upM_zero] at this
        simp at this
        rw [wayM, ← this, List.reverse_reverse]
      subst hL
      have z1 := Z1.out
      go_wp2
      go_ret
      exact ⟨_, _, _, rfl, ho.mono (by omega), hfr.trans hF, by omega⟩
end Go.Proofs.Ytojipjjfndgbhaa
