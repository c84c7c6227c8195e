import Derived.Test.YtboekndojgbkfaaFillM
import Derived.Test.YtboekndojgbkfaaPlan2
import Derived.Deep.LoopGhost
/- Contracts of emptyTable and fill. -/
set_option linter.unusedVariables false
namespace Go.Proofs.Ytboekndojgbkfaa
open Go.ChangeShapes Go.WideShapes Go.ChangeAt Go.RowKit

theorem zeros_snoc (n m : Nat) : zeros (n + 1) m = zeros n m ++ [List.replicate m 0] := by rw [zeros, List.replicate_succ']; rfl

theorem emptyTable_any (w : World) (n m : Nat) (hn : n ≤ 8) (hm : m ≤ 8) : Calls Try.prog 91 #[.int .i64 n, .int .i64 m] w (RetSS (zeros n m) w) := by
  have hmk := fun w => run_make_row' 22 3 (.int .i64 0) 8 Try.underlying22 infoInt rfl .i64 .i64 m (by omega) (by omega) w
  have hone := OwnSS.made0 (B := w.heap.size) (H := w.heap.size + 1) w (Nat.le_refl _) (by omega)
  have hfr := (Fr.refl w).alloc (.cells #[] 22)
  go_enter Try.func91, Try.ntmps91
  go_wp2
  go_loopw [5, 8] (fun q i wr => ∃ (j : Nat) (p : Option Addr) (c : Nat), j ≤ n ∧ i = .int .i64 j ∧ q = .slice p j c ∧ OwnSS w.heap.size wr.heap.size wr p j c (zeros j m) ∧ Within p w.heap.size wr.heap.size ∧ Fr w wr) (fun _ i _ => n - (intOf i).toNat)
  case atStart => exact ⟨0, _, _, by omega, rfl, rfl, by simpa [zeros] using hone, fun k hk => by simp [blkOf] at hk; simp; omega, hfr⟩
  case round =>
    clear hone hfr
    obtain ⟨j, p, c, hj, rfl, rfl, ho, hW, hf⟩ := hrel
    by_cases hlt : j < n
    · have hfs := hf.size
      have hr := Own.made (B := w.heap.size) wr m hfs (by unfold maxLen; omega)
      have hfa := (Fr.refl wr).alloc (.cells (madeCells #[.int .i64 0] m) 3)
      go_wp2_with (at_builtin; refine ap_rowN (wr.alloc (.cells (madeCells #[.int .i64 0] m) 3)) _ (World.size_alloc _ _) rfl _ _ rfl w.heap.size wr.heap.size p j c _ (some ⟨wr.heap.size, 0, none⟩) m m _ rfl rfl (ho.fr hfa) hfs hfa.size hr (fun k hk => by simp [blkOf] at hk; simp; omega) (by omega) ?_)
      intro g5 c5 w3 hown hgr hnew
      have hF : Fr w w3 := (hf.trans hfa).grown hgr (fun k hk => (hW k hk).1)
      have hW' : Within (some ⟨g5, 0, none⟩) w.heap.size w3.heap.size := by obtain ⟨_, _, _, q, _⟩ := hown.ex; exact q
      go_wp2
      go_roundw
      case rel => exact ⟨j + 1, _, c5, by omega, by go_num, rfl, by rw [zeros_snoc]; exact hown, hW', hF⟩
      case measure => simp [intOf]; omega
    · obtain rfl : j = n := by omega
      go_wp2
      go_ret
      have ht : j * m ≤ 8 * 8 := Nat.mul_le_mul hn hm
      exact ⟨_, _, _, rfl, ho, hf, by rw [zeros_tot]; omega, by omega⟩

theorem l10Empty_any (w : World) (n m : Nat) (hn : n ≤ 8) (hm : m ≤ 8) : Calls Try.prog 88 #[.int .i64 n, .int .i64 m] w (RetSS (zeros n m) w) := by
  have hmk := fun w => run_make_row' 22 3 (.int .i64 0) 8 Try.underlying22 infoInt rfl .i64 .i64 m (by omega) (by omega) w
  have hone := OwnSS.made0 (B := w.heap.size) (H := w.heap.size + 1) w (Nat.le_refl _) (by omega)
  have hfr := (Fr.refl w).alloc (.cells #[] 22)
  go_enter Try.func88, Try.ntmps88
  go_wp2
  go_loopw [5, 6] (fun q i wr => ∃ (j : Nat) (p : Option Addr) (c : Nat), j ≤ n ∧ i = .int .i64 j ∧ q = .slice p j c ∧ OwnSS w.heap.size wr.heap.size wr p j c (zeros j m) ∧ Within p w.heap.size wr.heap.size ∧ Fr w wr) (fun _ i _ => n - (intOf i).toNat)
  case atStart => exact ⟨0, _, _, by omega, rfl, rfl, by simpa [zeros] using hone, fun k hk => by simp [blkOf] at hk; simp; omega, hfr⟩
  case round =>
    clear hone hfr
    obtain ⟨j, p, c, hj, rfl, rfl, ho, hW, hf⟩ := hrel
    by_cases hlt : j < n
    · have hfs := hf.size
      have hr := Own.made (B := w.heap.size) wr m hfs (by unfold maxLen; omega)
      have hfa := (Fr.refl wr).alloc (.cells (madeCells #[.int .i64 0] m) 3)
      go_wp2_with (at_builtin; refine ap_rowN (wr.alloc (.cells (madeCells #[.int .i64 0] m) 3)) _ (World.size_alloc _ _) rfl _ _ rfl w.heap.size wr.heap.size p j c _ (some ⟨wr.heap.size, 0, none⟩) m m _ rfl rfl (ho.fr hfa) hfs hfa.size hr (fun k hk => by simp [blkOf] at hk; simp; omega) (by omega) ?_)
      intro g5 c5 w3 hown hgr hnew
      have hF : Fr w w3 := (hf.trans hfa).grown hgr (fun k hk => (hW k hk).1)
      have hW' : Within (some ⟨g5, 0, none⟩) w.heap.size w3.heap.size := by obtain ⟨_, _, _, q, _⟩ := hown.ex; exact q
      go_wp2
      go_roundw
      case rel => exact ⟨j + 1, _, c5, by omega, by go_num, rfl, by rw [zeros_snoc]; exact hown, hW', hF⟩
      case measure => simp [intOf]; omega
    · obtain rfl : j = n := by omega
      go_wp2
      go_ret
      have ht : j * m ≤ 8 * 8 := Nat.mul_le_mul hn hm
      exact ⟨_, _, _, rfl, ho, hf, by rw [zeros_tot]; omega, by omega⟩

/-- Where a number of a table of the call's own stands. -/
theorem OwnSS.spot {B H : Nat} {w : World} {a : Option Addr} {n cap m : Nat} {t : List (List Int)} (h : OwnSS B H w a n cap t) (hr : ∀ i, i < n → (nthL t i).length = m) {i k : Nat} (hi : i < n) (hk : k < m) :
    ∃ g r c, a = some ⟨g, 0, none⟩ ∧ w.cell? ⟨g, i, none⟩ = some (.slice (some ⟨r, 0, none⟩) m c) ∧ w.cell? ⟨r, k, none⟩ = some (.int .i64 (cellT t i k)) ∧ w.frozen? ⟨r, k, none⟩ = false ∧ B ≤ r ∧ r < H ∧ B ≤ g ∧ g < H ∧
      ∀ v, I64 v → OwnSS B H (w.setCell ⟨r, k, none⟩ (.int .i64 v)) a n cap (setC t i k v) := by
  obtain ⟨g, p, m', c, rfl, hc, ho, hw, hB, hH⟩ := h.rowAt hi
  obtain rfl : m' = m := by rw [← ho.len]; exact hr i hi
  obtain ⟨r, rfl, h1, h2, h3, h4⟩ := ho.op (by omega)
  have hw' := hw r rfl
  exact ⟨g, r, c, rfl, hc, h3 k hk, h4 k, hw'.1, hw'.2, hB, hH, fun v hv => h.setRow hi rfl hc (ho.set rfl hk hv) (grownBy_setCell (grownBy_refl w (some r)) (p := ⟨r, k, none⟩) rfl _)⟩
theorem OwnSS.setAt {B H : Nat} {w : World} {a : Option Addr} {n cap m : Nat} {t : List (List Int)} (h : OwnSS B H w a n cap t) (hr : ∀ i, i < n → (nthL t i).length = m) {i k : Nat} (hi : i < n) (hk : k < m) {g r c : Nat}
    (ha : a = some ⟨g, 0, none⟩) (hc : w.cell? ⟨g, i, none⟩ = some (.slice (some ⟨r, 0, none⟩) m c)) {v : Int} (hv : I64 v) : OwnSS B H (w.setCell ⟨r, k, none⟩ (.int .i64 v)) a n cap (setC t i k v) := by
  obtain ⟨g', r', c', ha', hc', _, _, _, _, _, _, hp⟩ := h.spot hr hi hk
  rw [ha] at ha'
  obtain rfl : g = g' := by simpa using ha'
  rw [hc] at hc'
  obtain rfl : r = r' := by simp at hc'; exact hc'.1
  exact hp v hv
theorem OwnSS.put {B H : Nat} {w : World} {a : Option Addr} {n cap : Nat} {t : List (List Int)} (h : OwnSS B H w a n cap t) {p : Addr} (hp : p.block < B ∨ H ≤ p.block) (v : Value) : OwnSS B H (w.setCell p v) a n cap t :=
  h.keep (p := some p) (grownBy_setCell (grownBy_refl w (some p.block)) rfl v) (fun k hk => by simp only [blkOf, Option.map_some, Option.some.injEq] at hk; omega)
theorem cell_put {w : World} {p q : Addr} {v u : Value} (h : w.cell? p = some v) (hne : p.block ≠ q.block) : (w.setCell q u).cell? p = some v :=
  ((grownBy_setCell (grownBy_refl w (some q.block)) rfl u).cell h (by simpa using hne))

theorem below_quiet {B : Nat} {w w' : World} (h : Below B w w') (n : Nat) : Below B w (w'.drewN n) := h.trans ⟨rfl, rfl, rfl, Nat.le_refl _, fun _ _ => rfl⟩

set_option maxHeartbeats 600000 in
theorem fill_any (B H L n m : Nat) (w : World) (t a b : Option Addr) (ct ca cb : Nat) (T : List (List Int)) (hs ls : List Int) (hT : OwnSS B H w t n ct T) (hh : Own L w a n ca hs) (hl : Own L w b m cb ls) (hHL : H ≤ L) (hab : Apart a b)
    (F : FillI n m T hs ls) (hn : n ≤ 8) (hm : m ≤ 8) (hBH : B ≤ H) :
    Calls Try.prog 93 #[.slice t n ct, .slice a n ca, .slice b m cb] w fun e w' => e = .returned (.tuple #[]) ∧ OwnSS B H w' t n ct (fillM T hs ls) ∧ Below B w w' := by
  have HS : Hid (fillM T hs ls = fillS (n + m) 0 0 T hs ls) := Lib.hid (by rw [fillM, F.hl, F.ll])
  go_enter Try.func93, Try.ntmps93
  go_wp2
  go_loopg [6, 7] (2 * (n + m) + 1) (fun gk x y wr => ∃ (i k : Nat) (t' : List (List Int)) (h' l' : List Int), i ≤ n ∧ k ≤ m ∧ x = .int .i64 i ∧ y = .int .i64 k ∧
    OwnSS B H wr t n ct t' ∧ Own L wr a n ca h' ∧ Own L wr b m cb l' ∧ FillI n m t' h' l' ∧ Below B w wr ∧ Hid (fillS ((n - i) + (m - k)) i k t' h' l' = fillM T hs ls) ∧ 2 * ((n - i) + (m - k)) + (if nth h' i = 0 ∨ nth l' k = 0 then 0 else 1) ≤ gk)
  case atStart => exact ⟨0, 0, T, hs, ls, by omega, by omega, rfl, rfl, hT, hh, hl, F, Below.refl _ _, Lib.hid (by rw [HS.out]; rfl), by split <;> omega⟩
  case round =>
    clear hT hh hl F HS
    obtain ⟨i, k, t', h', l', hi, hk, rfl, rfl, hT, hh, hl, F, hf, hS, hg⟩ := hrel
    by_cases hc : i < n ∧ k < m
    · obtain ⟨hin, hkm⟩ := hc
      have Fh := F.hb i
      have Fl := F.lb k
      obtain ⟨gt, gr, cr, rfl, hc1, hc2, hc3, hr1, hr2, hr3, hr4, hput⟩ := hT.spot F.row hin hkm
      obtain ⟨ga, rfl, ha1, ha2, ha3, ha4⟩ := hh.op (by omega)
      obtain ⟨gb, rfl, hb1, hb2, hb3, hb4⟩ := hl.op (by omega)
      have hne : ga ≠ gb := fun e => hab ga rfl (by rw [e]; rfl)
      replace ha3 := ha3 i hin
      replace hb3 := hb3 k hkm
      replace ha4 := ha4 i
      replace hb4 := hb4 k
      have i1 : (0 : Int) ≤ (i : Int) := by omega
      have i2 : (i : Int) < (n : Int) := by omega
      have i3 : (0 : Int) ≤ (k : Int) := by omega
      have i4 : (k : Int) < (m : Int) := by omega
      have hlen1 : i < h'.length := by rw [F.hl]; exact hin
      have hlen2 : k < l'.length := by rw [F.ll]; exact hkm
      have fe : (n - i) + (m - k) = ((n - i) + (m - k) - 1) + 1 := by omega
      have hSS := hS.out
      rw [fe] at hSS
      by_cases h0 : nth h' i = 0
      · have hS2 : Hid (fillS ((n - (i + 1)) + (m - k)) (i + 1) k t' h' l' = fillM T hs ls) := Lib.hid (by rw [← hSS, fillS_h0 hlen1 hlen2 h0 Fl.1]; congr 1; omega)
        have hg2 : 2 * ((n - (i + 1)) + (m - k)) + (if nth h' (i + 1) = 0 ∨ nth l' k = 0 then 0 else 1) ≤ gk - 1 := by
          rw [if_pos (.inl h0)] at hg; split <;> omega
        have hgk : 0 < gk := by omega
        have HG := Lib.hid hg2
        have b1 : (nth h' i == 0) = true := by simp [h0]
        have hle : nth h' i ≤ nth l' k := by omega
        clear hg hg2 h0 hSS fe hlen1 hlen2
        go_wp2
        go_quiet (fail)
        go_wp2
        go_roundg (gk - 1)
        case rel => exact ⟨i + 1, k, t', h', l', by omega, hk, by go_num, rfl, hT.fr (Fr.drewN _ _), hh.drewN _, hl.drewN _, F, below_quiet hf _, hS2, HG.out⟩
        case measure => omega
      by_cases l0 : nth l' k = 0
      · have hS2 : Hid (fillS ((n - i) + (m - (k + 1))) i (k + 1) t' h' l' = fillM T hs ls) := Lib.hid (by rw [← hSS, fillS_l0 hlen1 hlen2 (by omega) l0]; congr 1; omega)
        have hg2 : 2 * ((n - i) + (m - (k + 1))) + (if nth h' i = 0 ∨ nth l' (k + 1) = 0 then 0 else 1) ≤ gk - 1 := by
          rw [if_pos (.inr l0)] at hg; split <;> omega
        have hgk : 0 < gk := by omega
        have HG := Lib.hid hg2
        have b1 : (nth h' i == 0) = false := by simp [h0]
        have b2 : (nth l' k == 0) = true := by simp [l0]
        have hle : nth l' k < nth h' i := by omega
        clear hg hg2 h0 l0 hSS fe hlen1 hlen2
        go_wp2
        go_quiet (fail)
        go_wp2
        go_roundg (gk - 1)
        case rel => exact ⟨i, k + 1, t', h', l', hi, by omega, rfl, by go_num, hT.fr (Fr.drewN _ _), hh.drewN _, hl.drewN _, F, below_quiet hf _, hS2, HG.out⟩
        case measure => omega
      · have hS2 : Hid (fillS ((n - i) + (m - k)) i k (setC t' i k (cellT t' i k + min (nth h' i) (nth l' k))) (h'.set i (nth h' i - min (nth h' i) (nth l' k))) (l'.set k (nth l' k - min (nth h' i) (nth l' k))) = fillM T hs ls) :=
          Lib.hid (by rw [← hSS, fe, fillS_mid hlen1 hlen2 (by omega) (by omega)]; rfl)
        have hg2 : 2 * ((n - i) + (m - k)) + (if nth (h'.set i (nth h' i - min (nth h' i) (nth l' k))) i = 0 ∨ nth (l'.set k (nth l' k - min (nth h' i) (nth l' k))) k = 0 then 0 else 1) ≤ gk - 1 := by
          rw [if_neg (by omega)] at hg
          rw [nth_set_same hlen1, nth_set_same hlen2, if_pos (by omega)]; omega
        have F2 := F.step hin hkm (c := min (nth h' i) (nth l' k)) (by omega) (by omega) (by omega)
        have hgk : 0 < gk := by rw [if_neg (by omega)] at hg; omega
        have HG := Lib.hid hg2
        have b1 : (nth h' i == 0) = false := by simp [h0]
        have b2 : (nth l' k == 0) = false := by simp [l0]
        have Fc := F.cb i k
        have n1 : gr ≠ ga := by omega
        have n2 : gr ≠ gb := by omega
        clear hg hg2 h0 l0 hSS fe hlen1 hlen2
        by_cases hle : nth h' i ≤ nth l' k
        · have hm : min (nth h' i) (nth l' k) = nth h' i := by omega
          rw [hm, Int.sub_self] at hS2 HG F2
          clear hm
          go_wp2
          go_quiet (fail)
          go_wp2
          go_roundg (gk - 1)
          case rel =>
            refine ⟨i, k, _, _, _, hi, hk, rfl, rfl, ?_, ?_, ?_, F2, ?_, hS2, HG.out⟩
            · exact (((hT.fr (Fr.drewN _ _)).setAt F.row hin hkm rfl hc1 (by unfold I64; omega)).put (.inr (by simp; omega)) _).put (.inr (by simp; omega)) _
            · exact (((hh.drewN _).setOther (by simp [blkOf]; omega) _).set rfl hin (by unfold I64; omega)).setOther (by simp [blkOf]; omega) _
            · exact (((hl.drewN _).setOther (by simp [blkOf]; omega) _).setOther (by simp [blkOf]; omega) _).set rfl hkm (by unfold I64; omega)
            · exact Below.setCell (Below.setCell (Below.setCell (below_quiet hf _) (by simp; omega) _) (by simp; omega) _) (by simp; omega) _
          case measure => omega
        · have hm : min (nth h' i) (nth l' k) = nth l' k := by omega
          rw [hm, Int.sub_self] at hS2 HG F2
          clear hm
          go_wp2
          go_quiet (fail)
          go_wp2
          go_roundg (gk - 1)
          case rel =>
            refine ⟨i, k, _, _, _, hi, hk, rfl, rfl, ?_, ?_, ?_, F2, ?_, hS2, HG.out⟩
            · exact (((hT.fr (Fr.drewN _ _)).setAt F.row hin hkm rfl hc1 (by unfold I64; omega)).put (.inr (by simp; omega)) _).put (.inr (by simp; omega)) _
            · exact (((hh.drewN _).setOther (by simp [blkOf]; omega) _).set rfl hin (by unfold I64; omega)).setOther (by simp [blkOf]; omega) _
            · exact (((hl.drewN _).setOther (by simp [blkOf]; omega) _).setOther (by simp [blkOf]; omega) _).set rfl hkm (by unfold I64; omega)
            · exact Below.setCell (Below.setCell (Below.setCell (below_quiet hf _) (by simp; omega) _) (by simp; omega) _) (by simp; omega) _
          case measure => omega
    · have HX := Lib.hid hc
      have hX : Hid (fillM T hs ls = t') := Lib.hid (by rw [← hS.out, fillS_out (by rw [F.hl, F.ll]; exact HX.out)])
      by_cases hin : i < n
      · have hkm : ¬ k < m := fun h => hc ⟨hin, h⟩
        clear hc
        go_wp2
        go_end0
        exact ⟨rfl, by rw [hX.out]; exact hT, hf⟩
      · clear hc
        go_wp2
        go_end0
        exact ⟨rfl, by rw [hX.out]; exact hT, hf⟩

end Go.Proofs.Ytboekndojgbkfaa
