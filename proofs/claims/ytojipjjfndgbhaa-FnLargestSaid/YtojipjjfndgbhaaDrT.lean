import Derived.Test.YtojipjjfndgbhaaDrw
import Derived.Test.YtojipjjfndgbhaaWay
import Derived.Deep.CutRange
/- Draws of numbers for nodes (seats with trees). -/
set_option linter.unusedVariables false
namespace Go.Proofs.Ytojipjjfndgbhaa
open Go.ChangeShapes Go.WideShapes Go.ChangeAt Go.RowKit
/-- An append to memory of the draw's own. -/
theorem Dr.app {g A : Nat} {w w' w'' : World} {p : Option Addr} (h : Dr g A w w') (hgr : w'.grownBy w'' (blkOf p)) (hp : ∀ k, blkOf p = some k → w.heap.size ≤ k) (hg : g < w.heap.size) : Dr g A w w'' := by
  refine ⟨h.cur.grown hgr (fun k e => by have := hp k e; omega), ?_⟩
  refine ⟨hgr.os.trans h.grow.os, hgr.tape.trans h.grow.tape, hgr.output.trans h.grow.output, Nat.le_trans h.size hgr.size, fun k hk hne => ?_⟩
  rw [hgr.block k (Nat.lt_of_lt_of_le hk h.size) (fun e => by have := hp k e.symm; omega)]
  exact h.grow.block k hk hne
theorem Dr.blk {g A k : Nat} {w w' : World} {cs : Array Value} {T : TypeId} (h : Dr g A w w') (b : Blk w k cs T) (hne : g ≠ k) : Blk w' k cs T := b.grown h.grow (fun e => hne (by injection e))
/-- A list that is being drawn. -/
structure LsI (w : World) (g A : Nat) (p : Option Addr) (m c : Nat) (wr : World) : Prop where
  op : ∃ xs, Own w.heap.size wr p m c xs
  D : Dr g A w wr
theorem LsI.mono {w : World} {g A A' : Nat} {p : Option Addr} {m c : Nat} {wr : World} (h : LsI w g A p m c wr) (hA : A ≤ A') : LsI w g A' p m c wr := ⟨h.op, h.D.mono hA⟩
theorem LsI.step {w : World} {g A A' : Nat} {p : Option Addr} {m c : Nat} {wr w' : World} (h : LsI w g A p m c wr) (hg : g < w.heap.size) (E : Dr g A' wr w') : LsI w g A' p m c w' := by
  obtain ⟨⟨xs, h1⟩, D⟩ := h
  exact ⟨⟨xs, E.own h1 hg⟩, D.trans E⟩
theorem LsI.app {w : World} {g A : Nat} {p : Option Addr} {m c : Nat} {wr w' : World} (h : LsI w g A p m c wr) (hg : g < w.heap.size) {g' m' c' : Nat} {ys : List Int} (ho : Own w.heap.size w' (some ⟨g', 0, none⟩) m' c' ys) (hgr : wr.grownBy w' (blkOf p)) : LsI w g A (some ⟨g', 0, none⟩) m' c' w' := by
  obtain ⟨⟨xs, h1⟩, D⟩ := h
  exact ⟨⟨ys, ho⟩, D.app hgr (fun k hk => (h1.blk k hk).1) hg⟩
set_option maxRecDepth 100000 in
set_option maxHeartbeats 1000000 in
theorem somePays_dr {g A : Nat} {w0 : World} (w : World) (n : Nat) (h : Dr g A w0 w) (hA : A ≤ 1000000000) (hn : n ≤ 24) :
    Calls Try.prog 144 #[.pointer (some ⟨g, 0, none⟩), .int .i64 n] w fun e w' => ∃ (p : Option Addr) (m c : Nat), e = .returned (.slice p m c) ∧ (∃ xs, Own w.heap.size w' p m c xs) ∧ m ≤ n + 1 ∧ Dr g (A + 100) w0 w' ∧ Dr g (A + 100) w w' := by
  have hg := h.cur.lt
  have hself := Dr.refl h.cur
  have o0 := Own.made0 (B := w.heap.size) w (Nat.le_refl _)
  have D0 := hself.alloc (.cells #[] 3)
  clear hself
  go_enter Try.func144, Try.ntmps144
  go_wp2_with fail
  refine (among_dr _ 3 30 [3, 10, 30] _ _ _ _ D0 (by omega) rfl rfl (by decide) (by decide) (by first | rfl | simp) (by decide)).mono ?_
  rintro e w1 ⟨big, rfl, hb, D1, E1⟩
  have L1 : LsI w g (A + 2) (some ⟨w.heap.size, 0, none⟩) 0 0 w1 := ⟨⟨[], E1.own o0 hg⟩, D1⟩
  clear D0 D1 E1 o0
  go_wp2
  go_loopw [5, 7] (fun s i wr => ∃ (j : Nat) (p : Option Addr) (c : Nat), j ≤ n ∧ i = .int .i64 j ∧ s = .slice p j c ∧ LsI w g (A + 2 + 2 * j) p j c wr) (fun _ i _ => n - (intOf i).toNat)
  case atStart => exact ⟨0, _, _, Nat.zero_le _, rfl, rfl, L1⟩
  case round =>
    clear L1
    obtain ⟨j, p, c, hj, rfl, rfl, L⟩ := hrel
    obtain ⟨wo, rfl⟩ : ∃ wo : World, wo = wr := ⟨_, rfl⟩
    by_cases hlt : j < n
    · have vj : (j : Int) < (n : Int) := by omega
      go_wp2_with fail
      refine (pick_dr _ (2 * big + 1) L.D (by omega) (by unfold I64; omega)).mono ?_
      rintro e w2 ⟨x, rfl, hx, D2, E2⟩
      have L2 := L.step hg E2
      have hsz := L2.D.size
      obtain ⟨xs, o2⟩ := L2.op
      clear L D2 E2
      go_wp2_with (at_builtin; refine ap_int _ rfl _ _ rfl w.heap.size p j c xs _ rfl rfl o2 hsz (by unfold I64; omega) (by omega) ?_)
      intro g' c' w' hown hgr _
      have L3 := L2.app hg hown hgr
      clear L2 o2 hown hgr
      go_wp2
      go_roundw
      case rel => exact ⟨j + 1, _, _, by omega, by go_num, rfl, L3.mono (by omega)⟩
      case measure => simp [intOf]; omega
    · obtain rfl : n = j := by omega
      have L1 := L.mono (show A + 2 + 2 * n ≤ A + 50 by omega)
      clear L
      go_upto_region 6 with fail
      go_cut [32] from 27 to 32 (fun s wx => ∃ bb : Bool, s = .bool bb ∧ (bb = true → 0 < n) ∧ LsI w g (A + 52) p n c wx)
      case first =>
        by_cases n0 : 0 < n
        · have vn : (0 : Int) < (n : Int) := by omega
          go_wp2_with fail
          refine (one_dr _ 30 L1.D (by omega) (by unfold I64; omega)).mono ?_
          rintro e w3 ⟨b, rfl, D3, E3⟩
          have L3 := L1.step hg E3
          clear L1 D3 E3
          go_wp2_with fail
          go_meet
          exact ⟨b, rfl, fun _ => n0, L3⟩
        · have vn : ¬ (0 : Int) < (n : Int) := by omega
          go_wp2_with fail
          go_meet
          exact ⟨false, rfl, fun e => (by cases e), L1.mono (by omega)⟩
      case rest =>
        obtain ⟨bb, rfl, hbb, L2⟩ := hcut
        obtain ⟨w3, rfl⟩ : ∃ wz : World, wz = wc := ⟨_, rfl⟩
        clear L1
        go_upto_if 32 with fail
        go_cut [] from 33 to 40 (fun wx => LsI w g (A + 56) p n c wx)
        case first =>
          cases bb
          · go_wp2_with fail
            go_meet
            exact L2.mono (by omega)
          · have n0 := hbb rfl
            go_wp2_with fail
            refine (pick_dr _ n L2.D (by omega) (by unfold I64; omega)).mono ?_
            rintro e w4 ⟨x, rfl, hx, D4, E4⟩
            have L4 := L2.step hg E4
            obtain ⟨k, rfl⟩ := Int.eq_ofNat_of_zero_le hx.1
            clear L2 D4 E4
            go_wp2_with fail
            refine (among_dr _ (-1000) 4611686018427387904 [999, -999, 1000, -1000, 4611686018427387904] _ _ _ _ L4.D (by omega) rfl rfl (by decide) (by decide) (by first | rfl | simp) (by decide)).mono ?_
            rintro e w5 ⟨z, rfl, hz, D5, E5⟩
            have L5 := L4.step hg E5
            clear L4 D5 E5
            obtain ⟨⟨xs, o5⟩, D5⟩ := L5
            have hk : k < n := by omega
            obtain ⟨g5, rfl, hB, _, q5, z5⟩ := o5.op (by omega)
            replace q5 := q5 k hk
            replace z5 := z5 k
            have vk0 : (0 : Int) ≤ (k : Int) := by omega
            have vk : (k : Int) < (n : Int) := by omega
            have L6 : LsI w g (A + 56) (some ⟨g5, 0, none⟩) n c (w5.setCell ⟨g5, k, none⟩ (.int .i64 z)) := ⟨⟨_, o5.set rfl hk (show I64 z by unfold I64; omega)⟩, (D5.set (q := ⟨g5, k, none⟩) hB hg (.int .i64 z)).mono (by omega)⟩
            clear o5 D5 hx
            go_wp2_with fail
            go_meet
            exact L6
        case rest =>
          obtain ⟨w4, rfl⟩ : ∃ wz : World, wz = wc := ⟨_, rfl⟩
          have L3 := hcut
          clear hcut L2 hbb
          go_wp2_with fail
          refine (one_dr _ 40 L3.D (by omega) (by unfold I64; omega)).mono ?_
          rintro e w5 ⟨b, rfl, D5, E5⟩
          have L5 := L3.step hg E5
          clear L3 D5 E5
          cases b
          · go_wp2
            go_ret
            exact ⟨_, _, _, rfl, L5.op, by omega, h.trans (L5.D.mono (by omega)), L5.D.mono (by omega)⟩
          · obtain ⟨xs, o5⟩ := L5.op
            have hsz := L5.D.size
            go_wp2_with (at_builtin; refine ap_int _ rfl _ _ rfl w.heap.size p n c xs _ rfl rfl o5 hsz (by unfold I64; omega) (by omega) ?_)
            intro g' c' w' hown hgr _
            have L6 := L5.app hg hown hgr
            clear L5 o5 hown hgr
            go_wp2
            go_ret
            exact ⟨_, _, _, rfl, L6.op, by omega, h.trans (L6.D.mono (by omega)), L6.D.mono (by omega)⟩
theorem pays_dr {g A : Nat} {w0 : World} (w : World) (p q : Option Addr) (n c m d : Nat) (h : Dr g A w0 w) (hA : A ≤ 1000000000) (hn : n ≤ 1000000) :
    Calls Try.prog 135 #[.pointer (some ⟨g, 0, none⟩), .agg #[.slice p n c, .slice q m d]] w fun e w' => ∃ (p : Option Addr) (m c : Nat), e = .returned (.slice p m c) ∧ (∃ xs, Own w.heap.size w' p m c xs) ∧ m ≤ 25 ∧ Dr g (A + 100) w0 w' ∧ Dr g (A + 100) w w' := by
  have hself := Dr.refl h.cur
  have H0 := Blk.new w #[.slice p n c, .slice q m d] 29
  have c0 := H0.cell (j := 0) rfl; have c1 := H0.cell (j := 1) rfl
  have D0 := hself.alloc (.cells #[.slice p n c, .slice q m d] 29)
  clear H0 hself
  go_enter Try.func135, Try.ntmps135
  go_wp2_with fail
  refine (l1Least_any _ _ _).mono ?_
  rintro e w' ⟨rfl, rfl⟩
  obtain ⟨k, hk⟩ := Int.eq_ofNat_of_zero_le (show 0 ≤ min (n : Int) 24 by omega)
  have hk24 : k ≤ 24 := by omega
  rw [hk]
  clear c0 c1 hk
  go_wp2_with fail
  refine (somePays_dr _ k D0 (by omega) hk24).mono ?_
  rintro e w2 ⟨p2, m2, c2, rfl, ⟨xs, o2⟩, hm, D2, E2⟩
  go_wp2
  go_ret
  exact ⟨_, _, _, rfl, ⟨xs, o2.mono (by simp)⟩, by omega, h.trans D2, D2⟩
end Go.Proofs.Ytojipjjfndgbhaa
