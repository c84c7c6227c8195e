import Derived.Test.YtojipjjfndgbhaaZH28
import Derived.Test.YtojipjjfndgbhaaZH05
import Derived.Test.YtojipjjfndgbhaaZH07
import Derived.Test.YtojipjjfndgbhaaZH13
import Derived.BigRegion
import Derived.Deep.DeepMust
import Derived.Deep.QuietTactic
import Derived.Test.YtojipjjfndgbhaaZH20
/- Contracts of StakeGains with a stake of 3 everywhere, of WayTo, and of the laws' comparisons of houses. -/
set_option linter.unusedVariables false
namespace Go.Proofs.Ytojipjjfndgbhaa
open Go.ChangeShapes Go.WideShapes Go.ChangeAt Go.RowKit
theorem allB_3 {S : List Int} (h : ∀ i, i < S.length → nth S i = 3) : allB S (-20) 20 = true := allB_iff.2 fun x hx => by
  obtain ⟨i, hi, rfl⟩ := List.mem_iff_getElem.1 hx
  have := h i hi
  rw [nth_eq hi] at this
  omega
theorem nth_rep0 (l i : Nat) : nth (List.replicate l (0 : Int)) i = 0 := by
  unfold nth
  by_cases h : i < l
  · simp [h]
  · simp [h]
/-- The gains of the first x nodes. -/
def gn3 (X G : List Int) (x : Nat) : Prop := ∀ i, i < x → nth G i = 3 * (nth X i - nth X 0)
theorem gn3_set {X G : List Int} {x v : Nat} {g y z : Int} (h : gn3 X G x) (hx : x < G.length) (e : g = 3 * (nth X x - nth X 0)) : gn3 X (G.set x g) (x + 1) := fun i hi => by
  by_cases ei : i = x
  · subst ei; rw [nth_set_same hx]; exact e
  · rw [nth_set_ne (by omega)]; exact h i (by omega)
set_option maxRecDepth 100000 in
set_option maxHeartbeats 2000000 in
theorem StakeGains_3 (w : World) (p q a s : Option Addr) (n c m d l b k e : Nat) (P W X S : List Int) (hP : SL w p n c P) (hW : SL w q m d W) (hX : SL w a l b X) (hS : SL w s k e S) (hl3 : l3B P W X = true) (hk : k = l) (h3 : ∀ i, i < k → nth S i = 3) :
    Calls Try.prog 61 #[.agg #[.slice p n c, .slice q m d], .slice a l b, .slice s k e] w fun e w' => ∃ (y : Option Addr) (cy : Nat) (G : List Int), e = .returned (.tuple #[.slice y l cy, .bool true]) ∧ Own w.heap.size w' y l cy G ∧ gn3 X G l ∧ Fr w w' := by
  subst hk
  have HP := Lib.hid hP.len
  have HX := Lib.hid hX.len
  have HSl := Lib.hid hS.len
  obtain ⟨hn1, hn2, hn3, hn4⟩ := l3B_len hl3
  have hkn : k = n := by rw [← HX.out, ← HP.out]; exact hn4
  subst hkn
  rw [HP.out] at hn1 hn2
  have HT : Hid (treeB P W = true) := Lib.hid (l3B_iff.1 hl3).1
  have HR : Hid (procB P X = true) := Lib.hid (l3B_iff.1 hl3).2
  have HA : Hid (allB S (-20) 20 = true) := Lib.hid (allB_3 (by rw [HSl.out]; exact h3))
  have HPB : Hid (parB P = true) := Lib.hid (treeB_iff.1 HT.out).2.2.1
  have HXb := Lib.hid (fun i => l3_X hl3 i)
  have H3 := Lib.hid h3
  have hmk := fun w => run_make_row' 22 3 (.int .i64 0) 8 Try.underlying22 infoInt rfl .i64 .i64 k (by omega) (by omega) w
  have hfr : Fr w (w.alloc (.cells #[.slice p k c, .slice q m d] 29)) := (Fr.refl w).alloc _
  have H0 := Blk.new w #[.slice p k c, .slice q m d] 29
  clear hn3 hn4 hl3 h3
  go_enter Try.func61, Try.ntmps61
  go_upto_region 1 with fail
  generalize hw1 : w.alloc (.cells #[.slice p k c, .slice q m d] 29) = w1 at hfr H0 ⊢
  have z1 : w.heap.size < w1.heap.size := by rw [← hw1, World.size_alloc]; exact Nat.lt_succ_self _
  clear hw1
  generalize w.heap.size = b0 at H0 z1 ⊢
  have c0 := H0.cell (j := 0) rfl; have c1 := H0.cell (j := 1) rfl
  go_wp2_with fail
  refine (IsTree_any _ _ _ _ _ _ _ _ _ (hP.fr hfr) (hW.fr hfr)).mono ?_
  rintro e w2 ⟨rfl, f⟩
  rw [HT.out]
  replace hfr := hfr.trans f
  replace H0 := H0.fr f
  replace z1 := Nat.lt_of_lt_of_le z1 f.size
  clear f c0 c1
  have c0 := H0.cell (j := 0) rfl; have c1 := H0.cell (j := 1) rfl
  go_wp2_with fail
  refine (isProcess_any _ _ _ _ _ _ _ _ _ _ _ W _ (hP.fr hfr) (hX.fr hfr)).mono ?_
  rintro e w3 ⟨rfl, f⟩
  rw [HR.out]
  replace hfr := hfr.trans f
  replace H0 := H0.fr f
  replace z1 := Nat.lt_of_lt_of_le z1 f.size
  clear f c0 c1
  have hne : ((k : Int) != (k : Int)) = false := by simp
  go_wp2_with fail
  refine (allWithin_any _ _ _ _ _ _ _ (hS.fr hfr)).mono ?_
  rintro e w4 ⟨rfl, rfl⟩
  rw [HA.out]
  have hsz3 := hfr.size
  have o9 := Own.made (B := w.heap.size) w3 k hsz3 (by unfold maxLen; omega)
  have f9 : Fr w3 (w3.alloc (.cells (madeCells #[.int .i64 0] k) 3)) := (Fr.refl _).alloc _
  have HX3 := Lib.hid (hX.fr hfr)
  have HP3 := Lib.hid (hP.fr hfr)
  have HS3 := Lib.hid (hS.fr hfr)
  have HF3 := Lib.hid hfr
  clear hX hP hS hW hfr hne
  go_upto_region 4 with fail
  clear hmk
  generalize hgy : w3.heap.size = gy at o9 ⊢
  have hgl : w3.heap.size ≤ gy := Nat.le_of_eq hgy
  clear hgy
  generalize w3.alloc (.cells (madeCells #[.int .i64 0] k) 3) = w5 at o9 f9 ⊢
  have hG1 : gn3 X (List.replicate k 0) 1 := fun i hi => by obtain rfl : i = 0 := by omega
                                                            rw [nth_rep0]; omega
  go_wp2
  go_loopw [9] (fun i wr => ∃ (x : Nat) (G : List Int), (1 ≤ x ∧ x ≤ k) ∧ i = .int .i64 x ∧ Own w.heap.size wr (some ⟨gy, 0, none⟩) k k G ∧ Hid (gn3 X G x) ∧ Fr w3 wr) (fun i _ => k - (intOf i).toNat)
  case atStart => exact ⟨1, _, by omega, rfl, o9, Lib.hid hG1, f9⟩
  case round =>
    clear o9 hG1 f9
    obtain ⟨x, G, hx, rfl, o, HG, f⟩ := hrel
    obtain ⟨wo, rfl⟩ : ∃ wz : World, wz = wr := ⟨_, rfl⟩
    have vx0 : (0 : Int) ≤ (x : Int) := by omega
    by_cases hlt : x < k
    · have vx : (x : Int) < (k : Int) := by omega
      obtain ⟨hv1, hv2⟩ := par_of HPB.out (by rw [HP.out]; exact hlt) hx.1
      have c0 := (H0.fr f).cell (j := 0) rfl
      obtain ⟨bp, op, rfl, qP⟩ := (HP3.out.fr f).cells.resolve_left (by omega)
      replace qP := qP x hlt
      rw [hv1] at qP
      have hgv := HG.out (par P x) (by omega)
      generalize par P x = z at qP hv2 hgv
      have hzk : z < k := by omega
      have vz0 : (0 : Int) ≤ (z : Int) := by omega
      have vz : (z : Int) < (k : Int) := by omega
      obtain ⟨ba, oa, rfl, qX⟩ := (HX3.out.fr f).cells.resolve_left (by omega)
      have qx := qX x hlt
      have qz := qX z hzk
      obtain ⟨bs, os, rfl, qS⟩ := (HS3.out.fr f).cells.resolve_left (by omega)
      replace qS := qS z hzk
      rw [H3.out z hzk] at qS
      have b0x := HXb.out x; have bzx := HXb.out z; have brx := HXb.out 0
      have HGL : Hid (G.length = k) := Lib.hid o.len
      have qG := o.cellAt rfl hzk
      have qGx := o.cellAt rfl hlt
      have fGx := o.frz x
      rw [hgv] at qG
      have HN := Lib.hid (fun (v : Int) (e : v = 3 * (nth X x - nth X 0)) => gn3_set (x := x) (v := 0) (y := 0) (z := 0) HG.out (by rw [HGL.out]; exact hlt) e)
      generalize nth G x = gx at qGx
      generalize nth X x = xx at qx b0x HN
      generalize nth X z = xz at qz bzx qG hgv
      generalize nth X 0 = xr at brx qG HN hgv
      clear hgv hv1 qX
      have e1 : IntKind.i64.wrap (xx - xz) = xx - xz := IntWalk.i64_in _ (by omega)
      have e2 : IntKind.i64.wrap (3 * (xx - xz)) = 3 * (xx - xz) := IntWalk.i64_in _ (by omega)
      have e3 : IntKind.i64.wrap (3 * (xz - xr) + 3 * (xx - xz)) = 3 * (xz - xr) + 3 * (xx - xz) := IntWalk.i64_in _ (by omega)
      have HO := Lib.hid ((o.set rfl hlt (v := 3 * (xz - xr) + 3 * (xx - xz)) (by unfold I64; omega)).fr ((Fr.refl _).drew' 1))
      have HF := Lib.hid ((f.setCell (p := ⟨gy, x, none⟩) hgl (.int .i64 (3 * (xz - xr) + 3 * (xx - xz)))).drew' 1)
      clear o
      go_upto_region 8 with fail
      clear c0 qP
      go_region
      all_goals
        clear e1 e2 e3
        go_wp2
        go_roundw
        case rel => exact ⟨x + 1, _, by omega, by go_num, HO.out, Lib.hid (HN.out _ (by omega)), HF.out⟩
        case measure => simp [intOf]; omega
    · obtain rfl : k = x := by omega
      have HFF := Lib.hid (HF3.out.trans f)
      go_wp2
      go_ret2
      exact ⟨_, _, _, rfl, o, HG.out, HFF.out⟩
set_option maxRecDepth 100000 in
theorem WayTo_yes (w : World) (p q : Option Addr) (n c m d x : Nat) (P W : List Int) (hP : SL w p n c P) (hW : SL w q m d W) (ht : treeB P W = true) (hx : x < n) :
    Calls Try.prog 62 #[.agg #[.slice p n c, .slice q m d], .int .i64 x] w (RetSB (wayM P x) true w) := by
  have HP := Lib.hid hP.len
  have Ht := Lib.hid ht
  have HPB : Hid (parB P = true) := Lib.hid (treeB_iff.1 ht).2.2.1
  have hn24 : n ≤ 24 := by rw [← HP.out]; exact (treeB_iff.1 ht).1.2
  have hin : inB (x : Int) 0 ((n : Int) - 1) = true := inB_iff.2 (by omega)
  have hfr : Fr w (w.alloc (.cells #[.slice p n c, .slice q m d] 29)) := (Fr.refl w).alloc _
  have H0 := Blk.new w #[.slice p n c, .slice q m d] 29
  clear ht
  go_enter Try.func62, Try.ntmps62
  go_upto_region 1 with fail
  generalize w.alloc (.cells #[.slice p n c, .slice q m d] 29) = w1 at hfr H0 ⊢
  have c0 := H0.cell (j := 0) rfl; have c1 := H0.cell (j := 1) rfl
  go_wp2_with fail
  refine (IsTree_any _ _ _ _ _ _ _ _ _ (hP.fr hfr) (hW.fr hfr)).mono ?_
  rintro e w2 ⟨rfl, f⟩
  rw [Ht.out]
  replace hfr := hfr.trans f
  replace H0 := H0.fr f
  clear f c0 c1
  have c0 := H0.cell (j := 0) rfl; have c1 := H0.cell (j := 1) rfl
  go_wp2_with fail
  refine (isNode_any _ _ _ _ _ _ _ _ W (hP.fr hfr) _).mono ?_
  rintro e w3 ⟨rfl, f⟩
  rw [hin]
  replace hfr := hfr.trans f
  replace H0 := H0.fr f
  clear f c0 c1 hin
  have c0 := H0.cell (j := 0) rfl; have c1 := H0.cell (j := 1) rfl
  go_wp2_with fail
  refine (way_any _ _ _ _ _ _ _ x _ (hP.fr hfr) HPB.out hx (by omega)).mono ?_
  rintro e w4 ⟨a, l, cc, rfl, o, f, hl⟩
  have hsz := hfr.size
  clear c0 c1
  go_wp2
  go_ret2
  exact ⟨_, _, _, rfl, o.mono hsz, hfr.trans f, hl⟩
set_option maxRecDepth 100000 in
theorem vInts_same (w : World) (a b : Option Addr) (n c d : Nat) (xs : List Int) (h : SL w a n c xs) (k : SL w b n d xs) :
    Calls Try.prog 107 #[.slice a n c, .slice b n d] w fun e w' => e = .returned (.bool true) ∧ Fr w w' := by
  have hxm : n ≤ 9223372036854775807 := by have := h.le; have := h.mx; omega
  go_enter Try.func107, Try.ntmps107
  go_wp2
  go_loopw [5] (fun i wr => ∃ k : Nat, k ≤ n ∧ i = .int .i64 k ∧ Fr w wr) (fun i _ => n - (intOf i).toNat)
  case atStart => exact ⟨0, Nat.zero_le _, rfl, Fr.refl _⟩
  case round =>
    obtain ⟨j, hj, rfl, hf⟩ := hrel
    obtain ⟨wo, rfl⟩ : ∃ wz : World, wz = wr := ⟨_, rfl⟩
    by_cases hlt : j < n
    · obtain ⟨b1, o1, rfl, hc1⟩ := (h.fr hf).cells.resolve_left (by omega)
      obtain ⟨b2, o2, rfl, hc2⟩ := (k.fr hf).cells.resolve_left (by omega)
      have hc1 := hc1 j hlt
      have hc2 := hc2 j hlt
      have hi1 : (0 : Int) ≤ (j : Int) := by omega
      have hi2 : (j : Int) < (n : Int) := by omega
      generalize nth xs j = z at hc1 hc2
      have hb : (z != z) = false := by simp
      clear h k
      go_wp2
      go_quiet (fail)
      go_wp2
      go_roundw
      case rel => exact ⟨j + 1, by omega, by go_num, hf.drew' _⟩
      case measure => simp [intOf]; omega
    · have hi2 : ¬ (j : Int) < (n : Int) := by omega
      go_wp2
      go_ret
      exact ⟨rfl, hf⟩
set_option maxRecDepth 100000 in
theorem vTree_same (w : World) (p q p' q' : Option Addr) (n c m d c' d' : Nat) (P W : List Int) (hP : SL w p n c P) (hW : SL w q m d W) (hP' : SL w p' n c' P) (hW' : SL w q' m d' W) :
    Calls Try.prog 106 #[.agg #[.slice p n c, .slice q m d], .agg #[.slice p' n c', .slice q' m d']] w fun e w' => e = .returned (.bool true) ∧ Fr w w' := by
  have f0 := ((Fr.refl w).alloc (.cells #[.slice p n c, .slice q m d] 29)).alloc (.cells #[.slice p' n c', .slice q' m d'] 29)
  have B0 := (Blk.new w #[.slice p n c, .slice q m d] 29).alloc (.cells #[.slice p' n c', .slice q' m d'] 29)
  have B1 := Blk.new (w.alloc (.cells #[.slice p n c, .slice q m d] 29)) #[.slice p' n c', .slice q' m d'] 29
  rw [World.size_alloc] at B1
  go_enter Try.func106, Try.ntmps106
  go_upto_region 1 with fail
  generalize (w.alloc (.cells #[.slice p n c, .slice q m d] 29)).alloc (.cells #[.slice p' n c', .slice q' m d'] 29) = w1 at f0 B0 B1 ⊢
  have c0 := B0.cell (j := 0) rfl; have c1 := B0.cell (j := 1) rfl; have d0 := B1.cell (j := 0) rfl; have d1 := B1.cell (j := 1) rfl
  go_wp2_with fail
  refine (vInts_same _ _ _ _ _ _ _ (hP.fr f0) (hP'.fr f0)).mono ?_
  rintro e w2 ⟨rfl, f⟩
  replace f0 := f0.trans f
  replace B0 := B0.fr f
  replace B1 := B1.fr f
  clear c0 c1 d0 d1 f
  have c0 := B0.cell (j := 0) rfl; have c1 := B0.cell (j := 1) rfl; have d0 := B1.cell (j := 0) rfl; have d1 := B1.cell (j := 1) rfl
  go_wp2_with fail
  refine (vInts_same _ _ _ _ _ _ _ (hW.fr f0) (hW'.fr f0)).mono ?_
  rintro e w3 ⟨rfl, f⟩
  go_wp2
  go_ret
  exact ⟨rfl, f0.trans f⟩
set_option maxRecDepth 100000 in
set_option maxHeartbeats 1000000 in
theorem vHouse_same (w : World) (p q a p' q' a' : Option Addr) (n c m d l b c' d' b' : Nat) (P W X : List Int) (x s u v : Int) (hP : SL w p n c P) (hW : SL w q m d W) (hX : SL w a l b X) (hP' : SL w p' n c' P) (hW' : SL w q' m d' W) (hX' : SL w a' l b' X) :
    Calls Try.prog 60 #[.agg #[.slice p n c, .slice q m d, .slice a l b, .int .i64 x, .int .i64 s, .int .i64 u, .int .i64 v], .agg #[.slice p' n c', .slice q' m d', .slice a' l b', .int .i64 x, .int .i64 s, .int .i64 u, .int .i64 v]] w fun e w' => e = .returned (.bool true) ∧ Fr w w' := by
  have f0 := ((Fr.refl w).alloc (.cells #[.slice p n c, .slice q m d, .slice a l b, .int .i64 x, .int .i64 s, .int .i64 u, .int .i64 v] 31)).alloc (.cells #[.slice p' n c', .slice q' m d', .slice a' l b', .int .i64 x, .int .i64 s, .int .i64 u, .int .i64 v] 31)
  have B0 := (Blk.new w #[.slice p n c, .slice q m d, .slice a l b, .int .i64 x, .int .i64 s, .int .i64 u, .int .i64 v] 31).alloc (.cells #[.slice p' n c', .slice q' m d', .slice a' l b', .int .i64 x, .int .i64 s, .int .i64 u, .int .i64 v] 31)
  have B1 := Blk.new (w.alloc (.cells #[.slice p n c, .slice q m d, .slice a l b, .int .i64 x, .int .i64 s, .int .i64 u, .int .i64 v] 31)) #[.slice p' n c', .slice q' m d', .slice a' l b', .int .i64 x, .int .i64 s, .int .i64 u, .int .i64 v] 31
  rw [World.size_alloc] at B1
  go_enter Try.func60, Try.ntmps60
  go_upto_region 1 with fail
  generalize (w.alloc (.cells #[.slice p n c, .slice q m d, .slice a l b, .int .i64 x, .int .i64 s, .int .i64 u, .int .i64 v] 31)).alloc (.cells #[.slice p' n c', .slice q' m d', .slice a' l b', .int .i64 x, .int .i64 s, .int .i64 u, .int .i64 v] 31) = w1 at f0 B0 B1 ⊢
  have c0 := B0.cell (j := 0) rfl; have c1 := B0.cell (j := 1) rfl; have d0 := B1.cell (j := 0) rfl; have d1 := B1.cell (j := 1) rfl
  go_wp2_with fail
  refine (vTree_same _ _ _ _ _ _ _ _ _ _ _ _ _ (hP.fr f0) (hW.fr f0) (hP'.fr f0) (hW'.fr f0)).mono ?_
  rintro e w2 ⟨rfl, f⟩
  replace f0 := f0.trans f
  replace B0 := B0.fr f
  replace B1 := B1.fr f
  clear c0 c1 d0 d1 f
  have c2 := B0.cell (j := 2) rfl; have d2 := B1.cell (j := 2) rfl
  go_wp2_with fail
  refine (vInts_same _ _ _ _ _ _ _ (hX.fr f0) (hX'.fr f0)).mono ?_
  rintro e w3 ⟨rfl, f⟩
  replace f0 := f0.trans f
  replace B0 := B0.fr f
  replace B1 := B1.fr f
  clear c2 d2 f
  have c3 := B0.cell (j := 3) (v := .int .i64 x) rfl; have c4 := B0.cell (j := 4) (v := .int .i64 s) rfl; have c5 := B0.cell (j := 5) (v := .int .i64 u) rfl; have c6 := B0.cell (j := 6) (v := .int .i64 v) rfl
  have d3 := B1.cell (j := 3) (v := .int .i64 x) rfl; have d4 := B1.cell (j := 4) (v := .int .i64 s) rfl; have d5 := B1.cell (j := 5) (v := .int .i64 u) rfl; have d6 := B1.cell (j := 6) (v := .int .i64 v) rfl
  go_wp2
  go_ret
  exact ⟨rfl, f0⟩
end Go.Proofs.Ytojipjjfndgbhaa
/- Contracts of the deals of houses, as the law FnHouses wants them. -/
set_option linter.unusedVariables false
namespace Go.Proofs.Ytojipjjfndgbhaa
open Go.ChangeShapes Go.WideShapes Go.ChangeAt Go.RowKit
/-- A house and a bool come out: the house is h. -/
def RetA (h : HSt) (bb : Bool) (w : World) (e : Ending) (w' : World) : Prop := ∃ (p q a : Option Addr) (n c m d l b : Nat), e = .returned (.tuple #[.agg #[.slice p n c, .slice q m d, .slice a l b, .int .i64 h.t, .int .i64 h.s, .int .i64 h.u, .int .i64 h.v], .bool bb]) ∧ SL w' p n c h.P ∧ SL w' q m d h.W ∧ SL w' a l b h.X ∧ Fr w w'
def RetAI (h : HSt) (i : Nat) (bb : Bool) (w : World) (e : Ending) (w' : World) : Prop := ∃ (p q a : Option Addr) (n c m d l b : Nat), e = .returned (.tuple #[.agg #[.slice p n c, .slice q m d, .slice a l b, .int .i64 h.t, .int .i64 h.s, .int .i64 h.u, .int .i64 h.v], .int .i64 i, .bool bb]) ∧ SL w' p n c h.P ∧ SL w' q m d h.W ∧ SL w' a l b h.X ∧ Fr w w'
theorem RetHB.retA {P W X : List Int} {x s u v : Int} {bb : Bool} {w w' : World} {e : Ending} (H : RetHB P W X x s u v bb w e w') : RetA ⟨P, W, X, x, s, u, v⟩ bb w e w' := by
  obtain ⟨p, n, c, q, m, d, a, l, k, M, N, rfl, o1, o2, o3, W1, W2, y1, y2, y3, f, _⟩ := H
  exact ⟨p, q, a, n, c, m, d, l, k, rfl, o1.sl, o2.sl, o3.sl, f⟩
theorem RetHIB.retA {h : HSt} {i : Nat} {bb : Bool} {w w' : World} {e : Ending} (H : RetHIB h i bb w e w') : RetAI h i bb w e w' := by
  obtain ⟨p, n, c, q, m, d, a, l, k, M, N, rfl, o1, o2, o3, W1, W2, y1, y2, y3, f, _⟩ := H
  exact ⟨p, q, a, n, c, m, d, l, k, rfl, o1.sl, o2.sl, o3.sl, f⟩
/-- The new house. -/
def nhH (P W X : List Int) : HSt := ⟨nhV (l3B P W X) P, nhV (l3B P W X) W, nhV (l3B P W X) X, 0, 0, 0, 0⟩
theorem nhH_yes {P W X : List Int} (h : l3B P W X = true) : nhH P W X = ⟨P, W, X, 0, 0, 0, 0⟩ := by rw [nhH, h]; rfl
/-- The house behind a deal. -/
def dhB (h : HSt) (z : D3) : Bool := dealB h.P h.W h.X h.t h.s h.u h.v z.1 z.2.1 z.2.2
def dhH (h : HSt) (z : D3) : HSt := ⟨nhV (dhB h z) h.P, nhV (dhB h z) (dW h.W z.1 z.2.1 z.2.2), nhV (dhB h z) (dX h.X z.1 z.2.1 z.2.2), dV (dhB h z) (dAt h.t z.1 z.2.1), dV (dhB h z) (dSt h.s z.1 z.2.1), dV (dhB h z) (dPu h.X h.t h.s h.u z.1 z.2.1), dV (dhB h z) (h.v + 1)⟩
theorem dhH_yes {h : HSt} {z : D3} (hb : dhB h z = true) : dhH h z = hStep h z ∧ hOk h = true ∧ hOk (hStep h z) = true := by
  have h1 := hb
  rw [dhB, dealB, Bool.and_eq_true] at h1
  refine ⟨?_, h1.1, hGo_ok (h := h) (d := z) h1.2⟩
  rw [dhH, hb]; rfl
theorem impl_NewHouse_h (w : World) (p q : Option Addr) (n c m d : Nat) (P W : List Int) (a : Option Addr) (l b : Nat) (X : List Int) (hP : SL w p n c P) (hW : SL w q m d W) (hX : SL w a l b X) :
    Calls Try.prog 24 #[.agg #[.slice p n c, .slice q m d], .slice a l b] w (RetA (nhH P W X) (l3B P W X) w) :=
  (impl_NewHouse_any w p q n c m d P W a l b X hP hW hX).mono fun e w' H => H.retA
theorem impl_DealHouse_h (w : World) (p q a : Option Addr) (n c m d l b : Nat) (h : HSt) (kd A B : Int) (hP : SL w p n c h.P) (hW : SL w q m d h.W) (hX : SL w a l b h.X) (hI : I64H h) (hz : I64 kd ∧ I64 A ∧ I64 B) :
    Calls Try.prog 44 #[.agg #[.slice p n c, .slice q m d, .slice a l b, .int .i64 h.t, .int .i64 h.s, .int .i64 h.u, .int .i64 h.v], .agg #[.int .i64 kd, .int .i64 A, .int .i64 B]] w (RetA (dhH h (kd, A, B)) (dhB h (kd, A, B)) w) :=
  (impl_DealHouse_any w p q a n c m d l b h.P h.W h.X h.t h.s h.u h.v kd A B hP hW hX hI.1 hI.2.1 hI.2.2.1 hI.2.2.2 hz.1 hz.2.1 hz.2.2).mono fun e w' H => H.retA
theorem impl_DealAll_h (w : World) (p q a : Option Addr) (n c m d l b : Nat) (h : HSt) (hP : SL w p n c h.P) (hW : SL w q m d h.W) (hX : SL w a l b h.X) (hl : n ≤ 51 ∧ m ≤ 51 ∧ l ≤ 51) (y : Option Addr) (k e : Nat) (ds : List D3) (hD : SD w y k e ds) (hk : k ≤ 5) :
    Calls Try.prog 48 #[.agg #[.slice p n c, .slice q m d, .slice a l b, .int .i64 h.t, .int .i64 h.s, .int .i64 h.u, .int .i64 h.v], .slice y k e] w (RetAI (allH h ds) (allN h ds) (hOk h) w) :=
  (impl_DealAll_any w p q a n c m d l b h hP hW hX (by omega) (by omega) (by omega) y k e ds hD (by omega)).mono fun e w' H => H.retA
theorem impl_IsHouse_h (w : World) (p q a : Option Addr) (n c m d l b : Nat) (h : HSt) (hP : SL w p n c h.P) (hW : SL w q m d h.W) (hX : SL w a l b h.X) :
    Calls Try.prog 18 #[.agg #[.slice p n c, .slice q m d, .slice a l b, .int .i64 h.t, .int .i64 h.s, .int .i64 h.u, .int .i64 h.v]] w fun e w' => e = .returned (.bool (hOk h)) ∧ Fr w w' :=
  impl_IsHouse_any w p q a n c m d l b h.P h.W h.X hP hW hX h.t h.s h.u h.v
theorem spec_NewHouse_h (w : World) (p q : Option Addr) (n c m d : Nat) (P W : List Int) (a : Option Addr) (l b : Nat) (X : List Int) (hP : SL w p n c P) (hW : SL w q m d W) (hX : SL w a l b X) :
    Calls Try.prog 21 #[.agg #[.slice p n c, .slice q m d], .slice a l b] w (RetA (nhH P W X) (l3B P W X) w) :=
  (spec_NewHouse_any w p q n c m d P W a l b X hP hW hX).mono fun e w' H => H.retA
theorem spec_DealHouse_h (w : World) (p q a : Option Addr) (n c m d l b : Nat) (h : HSt) (kd A B : Int) (hP : SL w p n c h.P) (hW : SL w q m d h.W) (hX : SL w a l b h.X) (hI : I64H h) (hz : I64 kd ∧ I64 A ∧ I64 B) :
    Calls Try.prog 42 #[.agg #[.slice p n c, .slice q m d, .slice a l b, .int .i64 h.t, .int .i64 h.s, .int .i64 h.u, .int .i64 h.v], .agg #[.int .i64 kd, .int .i64 A, .int .i64 B]] w (RetA (dhH h (kd, A, B)) (dhB h (kd, A, B)) w) :=
  (spec_DealHouse_any w p q a n c m d l b h.P h.W h.X h.t h.s h.u h.v kd A B hP hW hX hI.1 hI.2.1 hI.2.2.1 hI.2.2.2 hz.1 hz.2.1 hz.2.2).mono fun e w' H => H.retA
theorem spec_DealAll_h (w : World) (p q a : Option Addr) (n c m d l b : Nat) (h : HSt) (hP : SL w p n c h.P) (hW : SL w q m d h.W) (hX : SL w a l b h.X) (hl : n ≤ 51 ∧ m ≤ 51 ∧ l ≤ 51) (y : Option Addr) (k e : Nat) (ds : List D3) (hD : SD w y k e ds) (hk : k ≤ 5) :
    Calls Try.prog 46 #[.agg #[.slice p n c, .slice q m d, .slice a l b, .int .i64 h.t, .int .i64 h.s, .int .i64 h.u, .int .i64 h.v], .slice y k e] w (RetAI (allH h ds) (allN h ds) (hOk h) w) :=
  (spec_DealAll_any w p q a n c m d l b h hP hW hX (by omega) (by omega) (by omega) y k e ds hD (by omega)).mono fun e w' H => H.retA
theorem spec_IsHouse_h (w : World) (p q a : Option Addr) (n c m d l b : Nat) (h : HSt) (hP : SL w p n c h.P) (hW : SL w q m d h.W) (hX : SL w a l b h.X) :
    Calls Try.prog 16 #[.agg #[.slice p n c, .slice q m d, .slice a l b, .int .i64 h.t, .int .i64 h.s, .int .i64 h.u, .int .i64 h.v]] w fun e w' => e = .returned (.bool (hOk h)) ∧ Fr w w' :=
  spec_IsHouse_any w p q a n c m d l b h.P h.W h.X hP hW hX h.t h.s h.u h.v
theorem hRun_ok (ds : List D3) : ∀ h, hOk h = true → hOk (hRun h ds).1 = true := by
  induction ds with
  | nil => intro h ho; exact ho
  | cons d r ih =>
    intro h ho
    cases hg : hGo h d
    · rw [hRun_no hg]; exact ho
    · rw [hRun_go hg]; exact ih _ (hGo_ok hg)
theorem allH_ok {h : HSt} {ds : List D3} (ho : hOk h = true) : hOk (allH h ds) = true := by rw [allH, ho]; exact hRun_ok ds h ho
/-- A house on its walk: at node z, behind k deals, with a stake of 3. -/
def wkH (P W X : List Int) (z : Nat) (k : Nat) : HSt := ⟨P, W, X, z, 3, 3 * (nth X z - nth X 0), k⟩
/-- A deal that leads to a walking house. -/
def RetW (h : HSt) (w : World) (e : Ending) (w' : World) : Prop := ∃ (p q a : Option Addr) (n c m d l b : Nat), e = .returned (.tuple #[.agg #[.slice p n c, .slice q m d, .slice a l b, .int .i64 h.t, .int .i64 h.s, .int .i64 h.u, .int .i64 h.v], .bool true]) ∧ HsN 50 w.heap.size w' p q a n c m d l b h ∧ Fr w w'
theorem RetHB.retW {P W X : List Int} {x s u v : Int} {w w' : World} {e : Ending} (H : RetHB P W X x s u v true w e w') (hI : I64 x ∧ I64 s ∧ I64 u ∧ I64 v) (hl : P.length ≤ 50 ∧ W.length ≤ 50 ∧ X.length ≤ 50) : RetW ⟨P, W, X, x, s, u, v⟩ w e w' := by
  obtain ⟨p, n, c, q, m, d, a, l, k, M, N, rfl, o1, o2, o3, W1, W2, y1, y2, y3, f, _⟩ := H
  refine ⟨p, q, a, n, c, m, d, l, k, rfl, ⟨o1, o2.mono y1, o3.mono (by omega), fun z e1 e2 => ?_, fun z e1 e2 => ?_, hI, ?_⟩, f⟩
  · have := W1 z e1; have := (o3.blk z e2).1; omega
  · have := W2 z e1; have := (o3.blk z e2).1; omega
  · have h1 := o1.len; have h2 := o2.len; have h3 := o3.len
    omega
theorem wkH_I {P W X : List Int} (h : l3B P W X = true) {z k : Nat} (hz : z < P.length) (hk : k ≤ 1000) : I64H (wkH P W X z k) := by
  have hl := l3B_len h
  have x0 := l3_X h 0; have xz := l3_X h z
  unfold I64H wkH I64
  dsimp only
  omega
theorem stake_st (w : World) (p q a : Option Addr) (n c m d l b : Nat) (P W X : List Int) (hP : SL w p n c P) (hW : SL w q m d W) (hX : SL w a l b X) (h : l3B P W X = true) :
    Calls Try.prog 44 #[.agg #[.slice p n c, .slice q m d, .slice a l b, .int .i64 0, .int .i64 0, .int .i64 0, .int .i64 0], .agg #[.int .i64 2, .int .i64 3, .int .i64 0]] w (RetW (wkH P W X 0 1) w) := by
  have hl := l3B_len h
  refine (impl_DealHouse_any w p q a n c m d l b P W X 0 0 0 0 2 3 0 hP hW hX zeroI zeroI zeroI zeroI (by unfold I64; omega) (by unfold I64; omega) zeroI).mono fun e w' H => ?_
  rw [stake_go h] at H
  have e1 : dW W 2 3 0 = W := by simp [dW]
  have e2 : dX X 2 3 0 = X := by simp [dX]
  have e3 : dAt 0 2 3 = 0 := by simp [dAt]
  have e4 : dSt 0 2 3 = 3 := by simp [dSt]
  have e5 : dPu X 0 0 0 2 3 = 3 * (nth X 0 - nth X 0) := by simp [dPu]
  rw [e1, e2, e3, e4, e5] at H
  exact RetHB.retW H (wkH_I h (z := 0) (k := 1) (by omega) (by omega)) (by omega)
theorem walk_st (w : World) (p q a : Option Addr) (n c m d l b : Nat) (P W X : List Int) (z y k : Nat) (hP : SL w p n c P) (hW : SL w q m d W) (hX : SL w a l b X) (h : l3B P W X = true) (hz : z < P.length) (hy : y < P.length) (he : nth P y = (z : Int)) (hk : k ≤ 900) :
    Calls Try.prog 44 #[.agg #[.slice p n c, .slice q m d, .slice a l b, .int .i64 (z : Int), .int .i64 3, .int .i64 (3 * (nth X z - nth X 0)), .int .i64 (k : Int)], .agg #[.int .i64 1, .int .i64 (y : Int), .int .i64 0]] w (RetW (wkH P W X y (k + 1)) w) := by
  have hl := l3B_len h
  obtain ⟨i1, i2, i3, i4⟩ := wkH_I (W := W) h (z := z) (k := k) hz (by omega)
  refine (impl_DealHouse_any w p q a n c m d l b P W X z 3 (3 * (nth X z - nth X 0)) k 1 y 0 hP hW hX i1 i2 i3 i4 (by unfold I64; omega) (by unfold I64; omega) zeroI).mono fun e w' H => ?_
  rw [walkYes h hz hy he (show 0 ≤ (k : Int) ∧ (k : Int) ≤ 999 by omega)] at H
  have e1 : dW W 1 y 0 = W := by simp [dW]
  have e2 : dX X 1 y 0 = X := by simp [dX]
  have e3 : dAt z 1 y = y := by simp [dAt]
  have e4 : dSt 3 1 y = 3 := by simp [dSt]
  have e5 := walk_purse X z y
  rw [e1, e2, e3, e4, e5] at H
  exact RetHB.retW H (wkH_I h (z := y) (k := k + 1) hy (by omega)) (by omega)
/-- The same, with the house's cells written out. -/
def RetV (P W X : List Int) (z k : Nat) (w : World) (e : Ending) (w' : World) : Prop := ∃ (p q a : Option Addr) (n c m d l b : Nat), e = .returned (.tuple #[.agg #[.slice p n c, .slice q m d, .slice a l b, .int .i64 (z : Int), .int .i64 3, .int .i64 (3 * (nth X z - nth X 0)), .int .i64 (k : Int)], .bool true]) ∧ HsN 50 w.heap.size w' p q a n c m d l b (wkH P W X z k) ∧ Fr w w'
theorem stake_v (w : World) (p q a : Option Addr) (n c m d l b : Nat) (P W X : List Int) (hP : SL w p n c P) (hW : SL w q m d W) (hX : SL w a l b X) (h : l3B P W X = true) :
    Calls Try.prog 44 #[.agg #[.slice p n c, .slice q m d, .slice a l b, .int .i64 0, .int .i64 0, .int .i64 0, .int .i64 0], .agg #[.int .i64 2, .int .i64 3, .int .i64 0]] w (RetV P W X 0 1 w) := stake_st w p q a n c m d l b P W X hP hW hX h
theorem stake_w (w : World) (p q a : Option Addr) (n c m d l b : Nat) (P W X : List Int) (z k : Nat) (hz : z = 0) (hk : k = 1) (hP : SL w p n c P) (hW : SL w q m d W) (hX : SL w a l b X) (h : l3B P W X = true) :
    Calls Try.prog 44 #[.agg #[.slice p n c, .slice q m d, .slice a l b, .int .i64 0, .int .i64 0, .int .i64 0, .int .i64 0], .agg #[.int .i64 2, .int .i64 3, .int .i64 0]] w (RetV P W X z k w) := by
  subst hz; subst hk
  exact stake_v w p q a n c m d l b P W X hP hW hX h
theorem walk_v (w : World) (p q a : Option Addr) (n c m d l b : Nat) (P W X : List Int) (z y k k' : Nat) (hP : SL w p n c P) (hW : SL w q m d W) (hX : SL w a l b X) (h : l3B P W X = true) (hz : z < P.length) (hy : y < P.length) (he : nth P y = (z : Int)) (hk : k ≤ 900) (hk' : k' = k + 1) :
    Calls Try.prog 44 #[.agg #[.slice p n c, .slice q m d, .slice a l b, .int .i64 (z : Int), .int .i64 3, .int .i64 (3 * (nth X z - nth X 0)), .int .i64 (k : Int)], .agg #[.int .i64 1, .int .i64 (y : Int), .int .i64 0]] w (RetV P W X y k' w) := by
  subst hk'
  exact walk_st w p q a n c m d l b P W X z y k hP hW hX h hz hy he hk
theorem Own.other7 {B k n c : Nat} {w : World} {a : Option Addr} {xs : List Int} (h : Own B w a n c xs) (hk : blkOf a ≠ some k) (v0 v1 v2 v3 v4 v5 v6 : Value) :
    Own B (((((((w.setCell ⟨k, 0, none⟩ v0).setCell ⟨k, 1, none⟩ v1).setCell ⟨k, 2, none⟩ v2).setCell ⟨k, 3, none⟩ v3).setCell ⟨k, 4, none⟩ v4).setCell ⟨k, 5, none⟩ v5).setCell ⟨k, 6, none⟩ v6) a n c xs :=
  ((((((h.setOther (p := ⟨k, 0, none⟩) hk v0).setOther (p := ⟨k, 1, none⟩) hk v1).setOther (p := ⟨k, 2, none⟩) hk v2).setOther (p := ⟨k, 3, none⟩) hk v3).setOther (p := ⟨k, 4, none⟩) hk v4).setOther (p := ⟨k, 5, none⟩) hk v5).setOther (p := ⟨k, 6, none⟩) hk v6
theorem snoc3 {T : List Int} {j : Nat} (hl : T.length = j) (h : ∀ i, i < j → nth T i = 3) : ∀ i, i < j + 1 → nth (T ++ [3]) i = 3 := fun i hi => by
  by_cases e : i < j
  · rw [nth_app_l (by omega)]; exact h i e
  · obtain rfl : i = T.length := by omega
    simp [nth]
end Go.Proofs.Ytojipjjfndgbhaa
