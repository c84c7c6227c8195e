import Derived.Test.YtojipjjfndgbhaaFair
import Derived.Deep.RegionHeld3
import Derived.Deep.DeepCutAuto
/- Contracts of IsBalanced, isBalancedUp, and the reference's tests of balanced lists. -/
set_option linter.unusedVariables false
namespace Go.Proofs.Ytojipjjfndgbhaa
open Go.ChangeShapes Go.WideShapes Go.ChangeAt Go.RowKit
theorem IsBalanced_any (w : World) (p q a : Option Addr) (n c m d l b : Nat) (P W X : List Int) (hP : SL w p n c P) (hW : SL w q m d W) (hX : SL w a l b X) :
    Calls Try.prog 129 #[.agg #[.slice p n c, .slice q m d], .slice a l b] w fun e w' => e = .returned (.tuple #[.bool (flatV P W X), .bool (l3B P W X)]) ∧ Fr w w' := by
  have hfr : Fr w (w.alloc (.cells #[.slice p n c, .slice q m d] 29)) := (Fr.refl w).alloc _
  have H0 := Blk.new w #[.slice p n c, .slice q m d] 29
  have c0 := H0.cell (j := 0) rfl; have c1 := H0.cell (j := 1) rfl
  clear H0
  go_enter Try.func129, Try.ntmps129
  go_wp2_with fail
  clear c0 c1
  refine (IsFairProcess_any _ _ _ _ _ _ _ _ _ _ _ _ _ (hP.fr hfr) (hW.fr hfr) (hX.fr hfr)).mono ?_
  rintro e w1 ⟨rfl, f1⟩
  go_wp2
  go_ret2
  exact ⟨rfl, hfr.trans f1⟩
theorem isBalancedUp_any (w : World) (p q a : Option Addr) (n c m d l b : Nat) (P W X : List Int) (hP : SL w p n c P) (hW : SL w q m d W) (hX : SL w a l b X) :
    Calls Try.prog 87 #[.agg #[.slice p n c, .slice q m d], .slice a l b] w fun e w' => e = .returned (.bool (evenB P W X)) ∧ Fr w w' := by
  have hfr : Fr w (w.alloc (.cells #[.slice p n c, .slice q m d] 29)) := (Fr.refl w).alloc _
  have H0 := Blk.new w #[.slice p n c, .slice q m d] 29
  have c0 := H0.cell (j := 0) rfl; have c1 := H0.cell (j := 1) rfl
  clear H0
  go_enter Try.func87, Try.ntmps87
  go_wp2_with fail
  clear c0 c1
  refine (IsBalanced_any _ _ _ _ _ _ _ _ _ _ _ _ _ (hP.fr hfr) (hW.fr hfr) (hX.fr hfr)).mono ?_
  rintro e w1 ⟨rfl, f1⟩
  have hF := hfr.trans f1
  cases h1 : l3B P W X
  · have HB : Hid (evenB P W X = false) := Lib.hid (by rw [evenB, flatV, h1]; rfl)
    go_wp2
    go_ret
    exact ⟨ret_bool HB.out.symm, hF⟩
  cases h2 : flatV P W X
  · have HB : Hid (evenB P W X = false) := Lib.hid (by rw [evenB, h2]; rfl)
    go_wp2
    go_ret
    exact ⟨ret_bool HB.out.symm, hF⟩
  have HB : Hid (evenB P W X = allB X 0 999) := Lib.hid (by rw [evenB, h2]; rfl)
  clear h1 h2
  go_wp2_with fail
  refine (allWithin_any _ _ _ _ _ _ _ (hX.fr hF)).mono ?_
  rintro e w' ⟨rfl, rfl⟩
  go_wp2
  go_ret
  exact ⟨ret_bool HB.out.symm, hF⟩
def prL (P W X : List Int) (k : Nat) : List Int := (List.range k).map (prodF P W X)
theorem prL_len (P W X : List Int) (k : Nat) : (prL P W X k).length = k := by simp [prL]
theorem prL_succ (P W X : List Int) (k : Nat) : prL P W X (k + 1) = prL P W X k ++ [prodF P W X k] := by simp [prL, List.range_succ]
theorem prL_nth {P W X : List Int} {k i : Nat} (h : i < k) : nth (prL P W X k) i = prodF P W X i := by simp [nth, prL, h]
theorem kidUp_congr {P : List Int} {F G : Nat → Int} {z : Nat} : ∀ k, (∀ y, y < k → F y = G y) → kidUp P F z k = kidUp P G z k
  | 0, _ => rfl
  | k + 1, h => by rw [kidUp, kidUp, kidUp_congr k (fun y hy => h y (by omega)), h k (by omega)]
theorem prL_bd {P W X : List Int} (ht : treeB P W = true) (hX : ∀ i, -999 ≤ nth X i ∧ nth X i ≤ 999) (k i : Nat) : -479520 ≤ nth (prL P W X k) i ∧ nth (prL P W X k) i ≤ 479520 := by
  by_cases h : i < k
  · rw [prL_nth h]; exact prodF_bd ht hX i
  · rw [nth_out (by rw [prL_len]; omega)]; omega
set_option maxRecDepth 100000 in
set_option maxHeartbeats 1000000 in
theorem l4Balanced_any (w : World) (p q a : Option Addr) (n c m d l b : Nat) (P W X : List Int) (hP : SL w p n c P) (hW : SL w q m d W) (hX : SL w a l b X) (ht : treeB P W = true) (hx : procB P X = true) :
    Calls Try.prog 125 #[.agg #[.slice p n c, .slice q m d], .slice a l b] w fun e w' => e = .returned (.bool (flatB P W X)) ∧ Fr w w' := by
  have HP := Lib.hid hP.len
  have HX := Lib.hid hX.len
  have HW := Lib.hid hW.len
  have Ht := Lib.hid ht
  have hfr : Fr w (w.alloc (.cells #[.slice p n c, .slice q m d] 29)) := (Fr.refl w).alloc _
  have H0 := Lib.hid (Blk.new w #[.slice p n c, .slice q m d] 29)
  have hln : l = n := by rw [← HX.out, ← HP.out]; exact (procB_iff.1 hx).1
  subst hln
  have Hv := Lib.hid (nth_bd (procB_iff.1 hx).2 (by omega) (by omega))
  obtain ⟨t1, t2, t3, _⟩ := treeB_iff.1 ht
  have Hp := Lib.hid t3
  rw [HP.out] at t1
  obtain rfl : l = m := by rw [← HW.out, t2, HP.out]
  have N4' : Hid ((gathM P W).length = l) := Lib.hid (by rw [gathM, gathTo_len, t2, HP.out])
  clear t2 t3 ht hx
  have c0 := H0.out.cell (j := 0) rfl; have c1 := H0.out.cell (j := 1) rfl
  go_enter Try.func125, Try.ntmps125
  go_upto_region 1 with fail
  generalize hw1 : w.alloc (.cells #[.slice p l c, .slice q l d] 29) = w1 at hfr H0 c0 c1 ⊢
  have z1 : w1.heap.size = w.heap.size + 1 := by rw [← hw1]; simp
  clear hw1
  go_wp2_with fail
  clear c0 c1
  refine (l2Sums_any _ _ _ _ _ _ _ _ _ (hP.fr hfr) (hW.fr hfr) Ht.out).mono ?_
  rintro e w3 ⟨a4, n4, k4, rfl, o4, f3, _⟩
  have N4 : n4 = l := by rw [← o4.len, N4'.out]
  subst N4
  have hF3 := hfr.trans f3
  have H3 := Lib.hid (H0.out.fr f3)
  have o0 := Own.made0 (B := w3.heap.size) w3 (Nat.le_refl _)
  have f0 := (Fr.refl w3).alloc (.cells #[] 3)
  have S4 := o4.sl
  have z3 := f3.size
  clear o4 f3 hfr
  go_wp2
  go_loopw [6, 7] (fun s i wr => ∃ (k cc : Nat) (ap : Option Addr), k ≤ n4 ∧ i = .int .i64 k ∧ s = .slice ap k cc ∧ Own w3.heap.size wr ap k cc (prL P W X k) ∧ Fr w3 wr) (fun _ i _ => n4 - (intOf i).toNat)
  case atStart => exact ⟨0, _, _, Nat.zero_le _, rfl, rfl, o0, f0⟩
  case round =>
    clear o0 f0
    obtain ⟨k, cc, ap, hk, rfl, rfl, ho, hF⟩ := hrel
    obtain ⟨wo, rfl⟩ : ∃ wo : World, wo = wr := ⟨_, rfl⟩
    by_cases hlt : k < n4
    · have vk0 : (0 : Int) ≤ (k : Int) := by omega
      have vk : (k : Int) < (n4 : Int) := by omega
      obtain ⟨b4, of4, rfl, q4⟩ := S4.cells.resolve_left (by omega)
      replace q4 := q4 k hlt
      have l4 : b4 < w3.heap.size := World.block_lt_of_cell? w3 _ q4
      replace q4 := hF.keep q4
      obtain ⟨bx, ox, rfl, qx⟩ := (hX.fr hF3).cells.resolve_left (by omega)
      replace qx := qx k hlt
      have lx : bx < w3.heap.size := World.block_lt_of_cell? w3 _ qx
      replace qx := hF.keep qx
      have l4' : b4 < wo.heap.size := World.block_lt_of_cell? wo _ q4
      have lx' : bx < wo.heap.size := World.block_lt_of_cell? wo _ qx
      have hob := ho.blk
      have n4' : blkOf ap ≠ some b4 := fun e => by have := hob _ e; omega
      have nx : blkOf ap ≠ some bx := fun e => by have := hob _ e; omega
      have b1 := prodF_bd Ht.out Hv.out k
      have HS : Hid (prL P W X (k + 1) = prL P W X k ++ [nth (gathM P W) k * nth X k]) := Lib.hid (prL_succ P W X k)
      rw [prodF] at b1
      have e1 : IntKind.i64.wrap (nth (gathM P W) k * nth X k) = nth (gathM P W) k * nth X k := IntWalk.i64_in _ (by omega)
      have hsz := hF.size
      go_upto_region 5 with fail
      go_region_held3 (fun w' => w'.cell? ⟨b4, of4 + k, none⟩ = some (.int .i64 (nth (gathM P W) k)) ∧ w'.cell? ⟨bx, ox + k, none⟩ = some (.int .i64 (nth X k)))
        (first
          | go_keep
          | (go_split_ands
             refine ⟨?_, ?_⟩
             · (rw [q2'.cell_far _ (by simp; omega) (Ne.symm n4')]; assumption)
             · (rw [q2'.cell_far _ (by simp; omega) (Ne.symm nx)]; assumption)))
        (first
          | ((refine step_ap_int _ rfl _ _ rfl w3.heap.size ap k cc _ (nth (gathM P W) k * nth X k) wo.heap.size (by rfl) (by rfl) (ho.fr (((Fr.refl _).alloc _).drew' 1)) (by simp; omega) (cell_of_row _ wo.heap.size 0 _ 3 (0, 0) (heap_alloc_new wo _)) (by unfold I64; omega) (by omega) (wo.heap.size + 1) (by simp) ?_; intro g' c' w' q1 q2' q3)))
      have q2 : wo.grownBy w' (blkOf ap) := grownBy_trans (Fr.grownBy (((Fr.refl wo).alloc _).drew' 1) _) q2'
      have hF4 := hF.grown q2 (fun zz hzz => (ho.blk zz hzz).1)
      clear e1
      go_wp2
      go_roundw
      case rel => exact ⟨k + 1, c', _, by omega, by go_num, rfl, by rw [HS.out]; exact q1, hF4⟩
      case measure => simp [intOf]; omega
    · obtain rfl : k = n4 := by omega
      have S6 := ho.sl
      have hF5 := hF3.trans hF
      have H5 := Lib.hid (H3.out.fr hF)
      obtain ⟨w5, rfl⟩ : ∃ wz : World, wz = wo := ⟨_, rfl⟩
      clear ho hF S4
      go_wp2
      go_loopw [8] (fun i wr => ∃ j : Nat, j ≤ k ∧ i = .int .i64 j ∧ Hid (∀ x, x < j → endB P x = false → prodF P W X x = kidUp P (prodF P W X) x k) ∧ Fr w5 wr) (fun i _ => k - (intOf i).toNat)
      case atStart => exact ⟨0, Nat.zero_le _, rfl, Lib.hid (fun x hx => by omega), Fr.refl _⟩
      case round =>
        obtain ⟨j, hj, rfl, hs, hF⟩ := hrel
        obtain ⟨wo, rfl⟩ : ∃ wo : World, wo = wr := ⟨_, rfl⟩
        by_cases hlt : j < k
        · have vj0 : (0 : Int) ≤ (j : Int) := by omega
          have vj : (j : Int) < (k : Int) := by omega
          have c0 := (H5.out.fr hF).cell (j := 0) rfl
          have c1 := (H5.out.fr hF).cell (j := 1) rfl
          obtain ⟨bw, ow, rfl, qw⟩ := (hW.fr (hF5.trans hF)).cells.resolve_left (by omega)
          replace qw := qw j hlt
          have HE := Lib.hid (wei_end Ht.out (x := j) (by rw [HP.out]; exact hlt))
          by_cases hw0 : nth W j = 0
          · have hwb : (nth W j == 0) = true := by simp [hw0]
            have HE2 : Hid (endB P j = false) := Lib.hid (by rw [HE.out]; simp [hw0])
            clear hw0
            obtain ⟨b6, of6, rfl, q6⟩ := (S6.fr hF).cells.resolve_left (by omega)
            replace q6 := q6 j hlt
            rw [prL_nth hlt] at q6
            have HK : Hid (kidUp P (nth (prL P W X k)) j k = kidUp P (prodF P W X) j k) := Lib.hid (kidUp_congr k fun y hy => prL_nth hy)
            have SL6 := S6.fr hF
            have hP6 := hP.fr (hF5.trans hF)
            go_upto_region 9 with fail
            go_cut [52] from 36 to 52 (fun s wx => s = .bool (prodF P W X j != kidUp P (prodF P W X) j k) ∧ Fr w5 wx)
            case first =>
              go_region_held3 (fun w' => w'.cell? ⟨w.heap.size, 0, none⟩ = some (.slice p k c) ∧ w'.cell? ⟨w.heap.size, 1, none⟩ = some (.slice (some ⟨bw, ow, none⟩) k d) ∧ w'.cell? ⟨bw, ow + j, none⟩ = some (.int .i64 (nth W j)) ∧ w'.cell? ⟨b6, of6 + j, none⟩ = some (.int .i64 (prodF P W X j)))
                (first | go_keep | (exact KK))
                (first
                  | (go_at_call 141; refine (l4Kids_any _ _ _ _ _ _ _ _ _ _ P W _ j (hP6.fr (by first | exact (Fr.refl wo).drew' 1 | exact Fr.drewN wo 1)) (SL6.fr (by first | exact (Fr.refl wo).drew' 1 | exact Fr.drewN wo 1)) Hp.out (by omega) rfl (by omega) (prL_bd Ht.out Hv.out k)).mono ?_; rintro e w7 ⟨rfl, f7'⟩; have f7 : Fr wo w7 := (by first | exact ((Fr.refl wo).drew' 1).trans f7' | exact (Fr.drewN wo 1).trans f7'); have KK := And.intro (f7.keep c0) (And.intro (f7.keep c1) (And.intro (f7.keep qw) (f7.keep q6)))))
              all_goals
                go_wp2_with fail
                go_meet
                exact ⟨by rw [HK.out], hF.trans f7⟩
            case rest =>
              obtain ⟨rfl, hF6⟩ := hcut
              clear c0 c1 qw q6
              by_cases hz : prodF P W X j = kidUp P (prodF P W X) j k
              · have hb : (prodF P W X j != kidUp P (prodF P W X) j k) = false := by simp [hz]
                have HS2 : Hid (∀ x, x < j + 1 → endB P x = false → prodF P W X x = kidUp P (prodF P W X) x k) := Lib.hid (fun x hx he => by
                  by_cases e : x = j
                  · subst e; exact hz
                  · exact hs.out x (by omega) he)
                clear hz
                go_wp2
                go_roundw
                case rel => exact ⟨j + 1, by omega, by go_num, HS2, hF6⟩
                case measure => simp [intOf]; omega
              · have hb : (prodF P W X j != kidUp P (prodF P W X) j k) = true := by simp [hz]
                have HB2 : Hid (flatB P W X = false) := Lib.hid (by
                  rw [Bool.eq_false_iff]
                  intro e
                  have := (flat_iff Ht.out).1 e j (by rw [HP.out]; exact hlt) HE2.out
                  rw [HP.out] at this
                  exact hz this)
                clear hz
                go_wp2
                go_ret
                exact ⟨ret_bool HB2.out.symm, hF5.trans hF6⟩
          · have hwb : (nth W j == 0) = false := by simp [hw0]
            have HS2 : Hid (∀ x, x < j + 1 → endB P x = false → prodF P W X x = kidUp P (prodF P W X) x k) := Lib.hid (fun x hx he => by
              by_cases e : x = j
              · subst e; rw [HE.out] at he; simp at he; exact absurd he hw0
              · exact hs.out x (by omega) he)
            clear hw0
            go_wp2
            go_quiet (fail)
            go_wp2
            go_roundw
            case rel => exact ⟨j + 1, by omega, by go_num, HS2, hF.drew' _⟩
            case measure => simp [intOf]; omega
        · obtain rfl : j = k := by omega
          have HB2 : Hid (flatB P W X = true) := Lib.hid ((flat_iff Ht.out).2 (by rw [HP.out]; exact hs.out))
          go_wp2
          go_ret
          exact ⟨ret_bool HB2.out.symm, hF5.trans hF⟩
theorem evenB_eq {P W X : List Int} (h1 : treeB P W = true) (h2 : procB P X = true) : evenB P W X = (flatB P W X && posB X) := by rw [evenB, flatV, l3B, h1, h2]; rfl
theorem posB_no {X : List Int} {k : Nat} (hk : k < X.length) (h : nth X k < 0) : posB X = false := by
  rw [Bool.eq_false_iff]; intro e
  have := (allB_iff.1 e) _ (nth_mem hk)
  omega
theorem posB_yes {P X : List Int} (hx : procB P X = true) (h : ∀ k, k < X.length → 0 ≤ nth X k) : posB X = true := by
  refine allB_iff.2 fun x hm => ?_
  have h1 := (procB_iff.1 hx).2 x hm
  obtain ⟨k, hk, rfl⟩ := List.getElem_of_mem hm
  have := h k hk
  rw [nth_eq hk] at this
  omega
set_option maxRecDepth 100000 in
theorem l10Fair_any (w : World) (p q a : Option Addr) (n c m d l b : Nat) (P W X : List Int) (hP : SL w p n c P) (hW : SL w q m d W) (hX : SL w a l b X) :
    Calls Try.prog 84 #[.agg #[.slice p n c, .slice q m d], .slice a l b] w fun e w' => e = .returned (.bool (evenB P W X)) ∧ Fr w w' := by
  have HX := Lib.hid hX.len
  have hfr : Fr w (w.alloc (.cells #[.slice p n c, .slice q m d] 29)) := (Fr.refl w).alloc _
  have H0 := Lib.hid (Blk.new w #[.slice p n c, .slice q m d] 29)
  have c0 := H0.out.cell (j := 0) rfl; have c1 := H0.out.cell (j := 1) rfl
  have hl : l ≤ 9223372036854775807 := by have := hX.le; have := hX.mx; omega
  go_enter Try.func84, Try.ntmps84
  go_wp2_with fail
  clear c0 c1
  refine (l4Pays_any _ _ _ _ _ _ _ _ _ _ _ _ _ (hP.fr hfr) (hW.fr hfr) (hX.fr hfr)).mono ?_
  rintro e w1 ⟨rfl, f1⟩
  have hF := hfr.trans f1
  have G1 := Lib.hid (H0.out.fr f1)
  cases h1 : l3B P W X
  · have HB : Hid (evenB P W X = false) := Lib.hid (by rw [evenB, flatV, h1]; rfl)
    go_wp2
    go_ret
    exact ⟨ret_bool HB.out.symm, hF⟩
  have h1' := h1
  rw [l3B, Bool.and_eq_true] at h1'
  have T1 := Lib.hid h1'.1; have T2 := Lib.hid h1'.2
  have c0 := G1.out.cell (j := 0) rfl; have c1 := G1.out.cell (j := 1) rfl
  clear h1'
  go_wp2_with fail
  clear c0 c1 h1
  refine (l4Balanced_any _ _ _ _ _ _ _ _ _ _ _ _ _ (hP.fr hF) (hW.fr hF) (hX.fr hF) T1.out T2.out).mono ?_
  rintro e w2 ⟨rfl, f2⟩
  have hF2 := hF.trans f2
  cases h2 : flatB P W X
  · have HB : Hid (evenB P W X = false) := Lib.hid (by rw [evenB_eq T1.out T2.out, h2]; rfl)
    go_wp2
    go_ret
    exact ⟨ret_bool HB.out.symm, hF2⟩
  have HB : Hid (evenB P W X = posB X) := Lib.hid (by rw [evenB_eq T1.out T2.out, h2]; rfl)
  have Hv := Lib.hid (nth_bd (procB_iff.1 T2.out).2 (by omega) (by omega))
  clear h2
  go_wp2
  go_loop [5] (fun i => ∃ k : Nat, k ≤ l ∧ i = .int .i64 k ∧ Hid (∀ j, j < k → 0 ≤ nth X j)) (fun i => l - (intOf i).toNat)
  case atStart => exact ⟨0, Nat.zero_le _, rfl, Lib.hid (fun j hj => by omega)⟩
  case round =>
    obtain ⟨k, hk, rfl, hs⟩ := hrel
    by_cases hlt : k < l
    · have vk0 : (0 : Int) ≤ (k : Int) := by omega
      have vk : (k : Int) < (l : Int) := by omega
      obtain ⟨bx, ox, rfl, qx⟩ := (hX.fr hF2).cells.resolve_left (by omega)
      replace qx := qx k hlt
      by_cases hz : nth X k < 0
      · have HB2 : Hid (posB X = false) := Lib.hid (posB_no (by rw [HX.out]; exact hlt) hz)
        go_wp2
        go_ret
        exact ⟨ret_bool (by rw [HB.out, HB2.out]), hF2⟩
      · have HS : Hid (∀ j, j < k + 1 → 0 ≤ nth X j) := Lib.hid (fun j hj => by
          by_cases e : j = k
          · subst e; omega
          · exact hs.out j (by omega))
        go_wp2
        go_round
        case rel => exact ⟨k + 1, by omega, by go_num, HS⟩
        case measure => simp [intOf]; omega
    · obtain rfl : k = l := by omega
      have HB2 : Hid (posB X = true) := Lib.hid (posB_yes T2.out (by rw [HX.out]; exact hs.out))
      go_wp2
      go_ret
      exact ⟨ret_bool (by rw [HB.out, HB2.out]), hF2⟩
end Go.Proofs.Ytojipjjfndgbhaa
