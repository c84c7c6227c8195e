import Derived.Test.YtfjonnpaoeillaaDrawA2
/- Draws of splits. -/
set_option linter.unusedVariables false
namespace Go.Proofs.Ytfjonnpaoeillaa
open Go.ChangeShapes Go.WideShapes Go.ChangeAt Go.RowKit
theorem nth_app {xs : List Int} {z : Int} {lo hi : Int} (h : ∀ i, lo ≤ nth xs i ∧ nth xs i ≤ hi) (hz : lo ≤ z ∧ z ≤ hi) (i : Nat) : lo ≤ nth (xs ++ [z]) i ∧ nth (xs ++ [z]) i ≤ hi := by
  have := h i
  by_cases hi1 : i < xs.length
  · simp only [nth, List.getElem?_append_left hi1]; exact this
  · by_cases hi2 : i = xs.length
    · subst hi2; simp [nth]; omega
    · rw [nth_out (by simp; omega)]; rw [nth_out (by omega)] at this; exact this
theorem nth_setb {xs : List Int} {z : Int} {lo hi : Int} (h : ∀ i, lo ≤ nth xs i ∧ nth xs i ≤ hi) (hz : lo ≤ z ∧ z ≤ hi) (j i : Nat) : lo ≤ nth (xs.set j z) i ∧ nth (xs.set j z) i ≤ hi := by
  by_cases e : j = i
  · subst e
    by_cases hj : j < xs.length
    · simp only [nth]; rw [List.getElem?_set_self hj]; exact hz
    · have := h j; rw [nth_out (by omega)] at this; rw [nth_out (by simp; omega)]; exact this
  · simp only [nth]; rw [List.getElem?_set_ne e]; exact h i



set_option maxRecDepth 100000 in
theorem DrawSplitGrowth_any (w : World) (a : Option Addr) (n cap : Nat) (zs : List Int) (h : SLB w a n cap zs) :
    Calls Try.prog 30 #[.slice a n cap] w fun e w' => ∃ (p : Option Addr) (m c : Nat) (q : Option Addr) (k d : Nat), e = .returned (.tuple #[.slice p m c, .slice q k d]) ∧ (∃ xs ys, SL w' p m c xs ∧ SL w' q k d ys) ∧ m ≤ 10 ∧ k ≤ 10 ∧ Fr w w' := by
  have D0 := Dr.start h
  have HE : Hid (∀ (A : Nat) (w' : World), Dr w.heap.size A (w.alloc (.cells #[.slice a n cap, .int .i64 0, .int .u64 0] 66)) w' → Fr w w') := Lib.hid fun A w' h => h.ends rfl
  have hg : w.heap.size < (w.alloc (.cells #[.slice a n cap, .int .i64 0, .int .u64 0] 66)).heap.size := by simp
  clear h
  go_enter Try.func30, Try.ntmps30
  go_wp2_with fail
  generalize w.alloc (.cells #[.slice a n cap, .int .i64 0, .int .u64 0] 66) = v0 at D0 HE hg ⊢
  refine (race_dr _ D0 (by omega)).mono ?_
  rintro e w1 ⟨p, m, c, xs, rfl, op, hm, hx, D1, -⟩
  have pw := op.within
  have z1 := D1.size
  clear D0
  have oq0 := Own.made0 (B := w1.heap.size) w1 (Nat.le_refl _)
  have op0 := op.fr ((Fr.refl w1).alloc (.cells #[] 3))
  have D2 := D1.alloc (.cells #[] 3)
  clear op D1
  go_wp2
  go_loopw [6, 7] (fun q i wr => ∃ (j : Nat) (q2 : Option Addr) (d : Nat) (ys : List Int), j ≤ m ∧ i = .int .i64 j ∧ q = .slice q2 j d ∧ Own w1.heap.size wr q2 j d ys ∧ Own v0.heap.size wr p m c xs ∧ Dr w.heap.size (100 + 2 * j) v0 wr ∧ w1.heap.size ≤ wr.heap.size) (fun _ i _ => m - (intOf i).toNat)
  case atStart => exact ⟨0, _, _, [], Nat.zero_le _, rfl, rfl, oq0, op0, D2, by simp⟩
  case round =>
    clear oq0 op0 D2
    obtain ⟨j, q, d, ys, hj, rfl, rfl, oq, op, D, zz⟩ := hrel
    by_cases hlt : j < m
    · have hji : (j : Int) < (m : Int) := by omega
      go_wp2_with fail
      refine (among_dr _ 0 12 [1, 2, 3, 0, 4, 12] _ _ _ _ D (by omega) rfl rfl (by decide) (by decide) (by first | rfl | simp) (by decide)).mono ?_
      rintro e w2 ⟨z, rfl, hz, D2, E2⟩
      replace oq := E2.own oq (by omega)
      replace op := E2.own op hg
      replace zz := Nat.le_trans zz E2.size
      clear D E2
      go_wp2_with (at_builtin; refine ap_int _ rfl _ _ rfl w1.heap.size q j d _ _ rfl rfl oq zz (by unfold I64; omega) (by omega) ?_)
      intro g' c' w' hown hgr _
      replace op := op.skip hgr pw oq.within (.inl (Nat.le_refl _))
      have D3 := D2.app hgr (fun k hk => by have := (oq.blk k hk).1; omega) hg
      go_wp2
      go_roundw
      case rel => exact ⟨j + 1, some ⟨g', 0, none⟩, c', _, by omega, by go_num, rfl, hown, op, D3.mono (by omega), Nat.le_trans zz hgr.size⟩
      case measure => simp [intOf]; omega
    · obtain rfl : j = m := by omega
      by_cases hm0 : j = 0
      · subst hm0
        go_wp2_with fail
        refine (one_dr _ 30 D (by omega) (by unfold I64; omega)).mono ?_
        rintro e wz ⟨b9, rfl, DZ, EZ⟩
        have oqz := EZ.own oq (by omega)
        have opz := EZ.own op hg
        have zy := Nat.le_trans zz EZ.size
        clear EZ
        cases b9
        · go_wp2
          go_ret2
          exact ⟨_, _, _, _, _, _, rfl, ⟨_, _, opz.sl, oqz.sl⟩, by omega, by omega, HE.out _ _ DZ⟩
        · go_wp2_with (at_builtin; refine ap_int _ rfl _ _ rfl w1.heap.size _ _ d _ _ rfl rfl oqz zy (by unfold I64; omega) (by omega) ?_)
          intro g' c' w' hown hgr _
          have opy := opz.skip hgr pw oqz.within (.inl (Nat.le_refl _))
          have DY := DZ.app hgr (fun k hk => by have := (oqz.blk k hk).1; omega) hg
          go_wp2
          go_ret2
          exact ⟨_, _, _, _, _, _, rfl, ⟨_, _, opy.sl, hown.sl⟩, by omega, by omega, HE.out _ _ DY⟩
      · have hmi : (0 : Int) < (j : Int) := by omega
        go_wp2_with fail
        refine (one_dr _ 24 D (by omega) (by unfold I64; omega)).mono ?_
        rintro e w2 ⟨b, rfl, D2, E2⟩
        replace oq := E2.own oq (by omega)
        replace op := E2.own op hg
        replace zz := Nat.le_trans zz E2.size
        clear D E2
        cases b
        · skip
          go_wp2_with fail
          refine (one_dr _ 30 D2 (by omega) (by unfold I64; omega)).mono ?_
          rintro e wz ⟨b9, rfl, DZ, EZ⟩
          have oqz := EZ.own oq (by omega)
          have opz := EZ.own op hg
          have zy := Nat.le_trans zz EZ.size
          clear EZ
          cases b9
          · go_wp2
            go_ret2
            exact ⟨_, _, _, _, _, _, rfl, ⟨_, _, opz.sl, oqz.sl⟩, by omega, by omega, HE.out _ _ DZ⟩
          · go_wp2_with (at_builtin; refine ap_int _ rfl _ _ rfl w1.heap.size _ _ d _ _ rfl rfl oqz zy (by unfold I64; omega) (by omega) ?_)
            intro g' c' w' hown hgr _
            have opy := opz.skip hgr pw oqz.within (.inl (Nat.le_refl _))
            have DY := DZ.app hgr (fun k hk => by have := (oqz.blk k hk).1; omega) hg
            go_wp2
            go_ret2
            exact ⟨_, _, _, _, _, _, rfl, ⟨_, _, opy.sl, hown.sl⟩, by omega, by omega, HE.out _ _ DY⟩
        · go_wp2_with fail
          refine (among_dr _ (-1) 4611686018427387904 [-1, 13, 4611686018427387904] _ _ _ _ D2 (by omega) rfl rfl (by decide) (by decide) (by first | rfl | simp) (by decide)).mono ?_
          rintro e w3 ⟨z, rfl, hz, D3, E3⟩
          replace oq := E3.own oq (by omega)
          replace op := E3.own op hg
          replace zz := Nat.le_trans zz E3.size
          obtain ⟨b2, rfl, hB, hlt2, hcell, hfro⟩ := oq.op (by omega)
          replace hcell := hcell 0 (by omega)
          replace hfro := hfro 0
          have oq3 := oq.set rfl (i := 0) (by omega) (show I64 z by unfold I64; omega)
          have D4 := D3.set (q := ⟨b2, 0, none⟩) (by have := hB; show v0.heap.size ≤ b2; omega) hg (.int .i64 z)
          replace op := op.setOther (p := ⟨b2, 0, none⟩) (fun e => by have := pw b2 e; omega) (.int .i64 z)
          replace zz : w1.heap.size ≤ (w3.setCell ⟨b2, 0, none⟩ (.int .i64 z)).heap.size := by simpa [World.setCell] using zz
          clear D2 E3 oq D3
          go_wp2_with fail
          refine (one_dr _ 30 D4 (by omega) (by unfold I64; omega)).mono ?_
          rintro e wz ⟨b9, rfl, DZ, EZ⟩
          have oqz := EZ.own oq3 (by omega)
          have opz := EZ.own op hg
          have zy := Nat.le_trans zz EZ.size
          clear EZ
          cases b9
          · go_wp2
            go_ret2
            exact ⟨_, _, _, _, _, _, rfl, ⟨_, _, opz.sl, oqz.sl⟩, by omega, by omega, HE.out _ _ DZ⟩
          · go_wp2_with (at_builtin; refine ap_int _ rfl _ _ rfl w1.heap.size _ _ d _ _ rfl rfl oqz zy (by unfold I64; omega) (by omega) ?_)
            intro g' c' w' hown hgr _
            have opy := opz.skip hgr pw oqz.within (.inl (Nat.le_refl _))
            have DY := DZ.app hgr (fun k hk => by have := (oqz.blk k hk).1; omega) hg
            go_wp2
            go_ret2
            exact ⟨_, _, _, _, _, _, rfl, ⟨_, _, opy.sl, hown.sl⟩, by omega, by omega, HE.out _ _ DY⟩
end Go.Proofs.Ytfjonnpaoeillaa
