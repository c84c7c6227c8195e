import Derived.Test.YtfjonnpaoeillaaDrawA
/- Draws of races and splits. -/
set_option linter.unusedVariables false
namespace Go.Proofs.Ytfjonnpaoeillaa
open Go.ChangeShapes Go.WideShapes Go.ChangeAt Go.RowKit
/-- An append to memory of the draw's own. -/
theorem Dr.app {g A : Nat} {w w' w'' : World} {p : Option Addr} (h : Dr g A w w') (hgr : w'.grownBy w'' (blkOf p)) (hp : ∀ k, blkOf p = some k → w.heap.size ≤ k) (hg : g < w.heap.size) : Dr g A w w'' := by
  refine ⟨h.cur.grown hgr (fun k e => by have := hp k e; omega), ?_⟩
  refine ⟨hgr.os.trans h.grow.os, hgr.tape.trans h.grow.tape, hgr.output.trans h.grow.output, Nat.le_trans h.size hgr.size, fun k hk hne => ?_⟩
  rw [hgr.block k (Nat.lt_of_lt_of_le hk h.size) (fun e => by have := hp k e.symm; omega)]
  exact h.grow.block k hk hne
set_option maxRecDepth 100000 in
theorem race_dr {g A : Nat} {w0 : World} (w : World) (h : Dr g A w0 w) (hA : A ≤ 100000000000) :
    Calls Try.prog 55 #[.pointer (some ⟨g, 0, none⟩)] w fun e w' => ∃ (p : Option Addr) (m c : Nat) (xs : List Int), e = .returned (.slice p m c) ∧ Own w.heap.size w' p m c xs ∧ m ≤ 5 ∧ (∀ i, -1 ≤ nth xs i ∧ nth xs i ≤ 5) ∧ Dr g (A + 100) w0 w' ∧ Dr g (A + 100) w w' := by
  have hg := h.cur.lt
  have hself := Dr.refl h.cur
  go_enter Try.func55, Try.ntmps55
  go_wp2_with fail
  have o0 := Own.made0 (B := w.heap.size) w (Nat.le_refl _)
  refine (among_dr _ 0 5 [2, 3, 2, 1, 4, 0, 5] _ _ _ _ (hself.alloc (.cells #[] 3)) (by omega) rfl rfl (by decide) (by decide) (by first | rfl | simp) (by decide)).mono ?_
  rintro e w1 ⟨k, rfl, hk, D1, E1⟩
  obtain ⟨K, rfl⟩ := Int.eq_ofNat_of_zero_le hk.1
  replace o0 := E1.own o0 hg
  go_wp2
  go_loopw [3, 4] (fun q i wr => ∃ (m j : Nat) (p : Option Addr) (c : Nat) (xs : List Int), m + j = K ∧ i = .int .i64 j ∧ q = .slice p m c ∧ Own w.heap.size wr p m c xs ∧ (∀ i, 0 ≤ nth xs i ∧ nth xs i ≤ 4) ∧ Dr g (A + 2 + 2 * m) w wr) (fun _ i _ => (intOf i).toNat)
  case atStart => exact ⟨0, K, _, _, [], by omega, rfl, rfl, o0, fun i => by simp [nth], D1⟩
  case round =>
    clear o0 D1 E1
    obtain ⟨m, j, p, c, xs, hmj, rfl, rfl, ho, hx, D⟩ := hrel
    by_cases hlt : 0 < j
    · have hji : (0 : Int) < (j : Int) := by omega
      go_wp2_with fail
      refine (pick_dr _ 4 D (by omega) (by unfold I64; omega)).mono ?_
      rintro e w2 ⟨r, rfl, hr, D2, E2⟩
      have ho2 := E2.own ho hg
      clear D E2 ho
      go_wp2_with (at_builtin; refine ap_int _ rfl _ _ rfl w.heap.size p m c _ _ rfl rfl ho2 D2.size (by unfold I64; omega) (by omega) ?_)
      intro g' c' w' hown hgr _
      have D3 := D2.app hgr (fun k hk => (ho2.blk k hk).1) hg
      go_wp2
      go_roundw
      case rel =>
        refine ⟨m + 1, j - 1, some ⟨g', 0, none⟩, c', _, by omega, by go_num, rfl, hown, fun i => ?_, D3.mono (by omega)⟩
        have := hx i
        by_cases hi : i < xs.length
        · simp only [nth, List.getElem?_append_left hi]; exact this
        · by_cases hi2 : i = xs.length
          · subst hi2; simp [nth]; omega
          · rw [nth_out (by simp; omega)]; omega
      case measure => simp [intOf]; omega
    · obtain rfl : j = 0 := by omega
      obtain rfl : m = K := by omega
      by_cases hm0 : m = 0
      · subst hm0
        go_wp2
        go_ret
        exact ⟨p, 0, c, rfl, xs, ho, by omega, fun i => by have := hx i; omega, h.trans (D.mono (by omega)), D.mono (by omega)⟩
      · have hmi : (0 : Int) < (m : Int) := by omega
        go_wp2_with fail
        refine (one_dr _ 24 D (by omega) (by unfold I64; omega)).mono ?_
        rintro e w2 ⟨b, rfl, D2, E2⟩
        have ho2 := E2.own ho hg
        clear D E2 ho
        cases b
        · go_wp2
          go_ret
          exact ⟨p, m, c, xs, rfl, ho2, by omega, fun i => by have := hx i; omega, h.trans (D2.mono (by omega)), D2.mono (by omega)⟩
        · go_wp2_with fail
          refine (among_dr _ (-1) 5 [0, 5, -1] _ _ _ _ D2 (by omega) rfl rfl (by decide) (by decide) (by first | rfl | simp) (by decide)).mono ?_
          rintro e w3 ⟨z, rfl, hz, D3, E3⟩
          have ho3 := E3.own ho2 hg
          obtain ⟨b2, rfl, hB, hlt2, hcell, hfro⟩ := ho3.op (by omega)
          have hcell := hcell 0 (by omega)
          have hfro := hfro 0
          clear D2 E3 ho2
          go_wp2
          go_ret
          have hset := ho3.set rfl (i := 0) (by omega) (show I64 z by unfold I64; omega)
          have D4 := D3.set (q := ⟨b2, 0, none⟩) hB hg (.int .i64 z)
          refine ⟨_, m, c, _, rfl, hset, by omega, fun i => ?_, h.trans (D4.mono (by omega)), D4.mono (by omega)⟩
          have hl := ho3.len
          by_cases e : i = 0
          · subst e; simp only [nth]; rw [List.getElem?_set_self (by omega)]; simp; omega
          · simp only [nth]; rw [List.getElem?_set_ne (by omega)]; have := hx i; simp only [nth] at this; omega
end Go.Proofs.Ytfjonnpaoeillaa
