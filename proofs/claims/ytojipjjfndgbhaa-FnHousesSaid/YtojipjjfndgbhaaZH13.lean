import Derived.Test.YtojipjjfndgbhaaZH12
/- Contracts of deals: slices.Contains, l1Has, children. -/
set_option linter.unusedVariables false
namespace Go.Proofs.Ytojipjjfndgbhaa
open Go.ChangeShapes Go.WideShapes Go.ChangeAt Go.RowKit

def idxI (xs : List Int) (v : Int) : Int := if v ∈ xs then ((xs.findIdx (· == v) : Nat) : Int) else -1
theorem idx_yes {xs : List Int} {v : Int} {k : Nat} (hk : k < xs.length) (h : nth xs k = v) (hl : ∀ i, i < k → nth xs i ≠ v) : idxI xs v = (k : Int) := by
  have hm : v ∈ xs := by rw [← h]; exact nth_mem hk
  rw [idxI, if_pos hm]
  congr 1
  rw [List.findIdx_eq hk]
  refine ⟨by rw [← nth_eq hk, h]; simp, fun j hj => ?_⟩
  have := hl j hj
  rw [nth_eq (by omega)] at this
  simpa using this
theorem idx_no {xs : List Int} {v : Int} (hl : ∀ i, i < xs.length → nth xs i ≠ v) : v ∉ xs := by
  intro hm
  obtain ⟨i, hi, he⟩ := List.mem_iff_getElem.1 hm
  exact hl i hi (by rw [nth_eq hi]; exact he)
theorem idx_sign (xs : List Int) (v : Int) : decide (0 ≤ idxI xs v) = decide (v ∈ xs) := by
  unfold idxI; by_cases h : v ∈ xs
  · rw [if_pos h]; simp [h]
  · rw [if_neg h]; simp [h]

theorem Index_any (w : World) (a : Option Addr) (n c : Nat) (xs : List Int) (v : Int) (h : SL w a n c xs) :
    Calls Try.prog 133 #[.slice a n c, .int .i64 v] w fun e w' => e = .returned (.int .i64 (idxI xs v)) ∧ w = w' := by
  have HL := Lib.hid h.len
  have hn : n ≤ 9223372036854775807 := by have := h.le; have := h.mx; omega
  go_enter Try.func133, Try.ntmps133
  go_wp2
  go_loop [8] (fun i => ∃ k : Nat, k ≤ n ∧ i = .int .i64 k ∧ Hid (∀ j, j < k → nth xs j ≠ v)) (fun i => n - (intOf i).toNat)
  case atStart => exact ⟨0, by omega, rfl, Lib.hid (fun j hj => by omega)⟩
  case round =>
    obtain ⟨k, hk, rfl, hs⟩ := hrel
    by_cases hlt : k < n
    · obtain ⟨b, off, rfl, hc⟩ := h.cells.resolve_left (by omega)
      replace hc := hc k hlt
      by_cases he : v = nth xs k
      · have HV : Hid (idxI xs v = (k : Int)) := Lib.hid (idx_yes (by rw [HL.out]; exact hlt) he.symm hs.out)
        have hb : (v == nth xs k) = true := by simp [he]
        clear he
        go_wp2
        go_ret
        exact ⟨by rw [HV.out]; rfl, rfl⟩
      · have HE := Lib.hid he
        have hb : (v == nth xs k) = false := by simp [he]
        clear he
        go_wp2
        go_round
        case rel => exact ⟨k + 1, by omega, by go_num, Lib.hid (fun j hj => by by_cases e : j = k; (· subst e; exact Ne.symm HE.out); (· exact hs.out j (by omega)))⟩
        case measure => simp [intOf]; omega
    · obtain rfl : k = n := by omega
      have HV : Hid (idxI xs v = -1) := Lib.hid (by rw [idxI, if_neg (idx_no (by rw [HL.out]; exact hs.out))])
      go_wp2
      go_ret
      exact ⟨by rw [HV.out]; rfl, rfl⟩

theorem Contains_any (w : World) (a : Option Addr) (n c : Nat) (xs : List Int) (v : Int) (h : SL w a n c xs) :
    Calls Try.prog 93 #[.slice a n c, .int .i64 v] w fun e w' => e = .returned (.bool (decide (v ∈ xs))) ∧ w = w' := by
  have HV := Lib.hid (idx_sign xs v)
  go_enter Try.func93, Try.ntmps93
  go_wp2_with fail
  refine (Index_any _ _ _ _ _ v h).mono ?_
  rintro e w' ⟨rfl, rfl⟩
  go_wp2
  go_ret
  exact ⟨ret_bool HV.out, rfl⟩

theorem l1Has_any (w : World) (a : Option Addr) (n c : Nat) (xs : List Int) (v : Int) (h : SL w a n c xs) :
    Calls Try.prog 142 #[.slice a n c, .int .i64 v] w fun e w' => e = .returned (.bool (decide (v ∈ xs))) ∧ w = w' := by
  have HL := Lib.hid h.len
  have hn : n ≤ 9223372036854775807 := by have := h.le; have := h.mx; omega
  go_enter Try.func142, Try.ntmps142
  go_wp2
  go_loop [5] (fun i => ∃ k : Nat, k ≤ n ∧ i = .int .i64 k ∧ Hid (∀ j, j < k → nth xs j ≠ v)) (fun i => n - (intOf i).toNat)
  case atStart => exact ⟨0, by omega, rfl, Lib.hid (fun j hj => by omega)⟩
  case round =>
    obtain ⟨k, hk, rfl, hs⟩ := hrel
    by_cases hlt : k < n
    · obtain ⟨b, off, rfl, hc⟩ := h.cells.resolve_left (by omega)
      replace hc := hc k hlt
      by_cases he : nth xs k = v
      · have HV : Hid (decide (v ∈ xs) = true) := Lib.hid (by rw [decide_eq_true_eq, ← he]; exact nth_mem (by rw [HL.out]; exact hlt))
        have hb : (nth xs k == v) = true := by simp [he]
        clear he
        go_wp2
        go_ret
        exact ⟨ret_bool HV.out.symm, rfl⟩
      · have HE := Lib.hid he
        have hb : (nth xs k == v) = false := by simp [he]
        clear he
        go_wp2
        go_round
        case rel => exact ⟨k + 1, by omega, by go_num, Lib.hid (fun j hj => by by_cases e : j = k; (· subst e; exact HE.out); (· exact hs.out j (by omega)))⟩
        case measure => simp [intOf]; omega
    · obtain rfl : k = n := by omega
      have HV : Hid (decide (v ∈ xs) = false) := Lib.hid (by rw [decide_eq_false_iff_not]; exact idx_no (by rw [HL.out]; exact hs.out))
      go_wp2
      go_ret
      exact ⟨ret_bool HV.out.symm, rfl⟩

theorem children_any (w : World) (p q : Option Addr) (n c m d : Nat) (x : Nat) (P : List Int) (hP : SL w p n c P) (hn : n ≤ 1048576) :
    Calls Try.prog 94 #[.agg #[.slice p n c, .slice q m d], .int .i64 x] w (RetS (kidsTo P x n) w) := by
  have HP := Lib.hid hP.len
  have hmade := Own.made0 (B := w.heap.size + 1) (w.alloc (.cells #[.slice p n c, .slice q m d] 29)) (by simp)
  have hfa : Fr (w.alloc (.cells #[.slice p n c, .slice q m d] 29)) ((w.alloc (.cells #[.slice p n c, .slice q m d] 29)).alloc (.cells #[] 3)) := (Fr.refl _).alloc _
  go_enter Try.func94, Try.ntmps94
  go_wp2
  go_loopw [5, 12] (fun v i wr => ∃ (k l cc : Nat) (a : Option Addr), k ≤ n ∧ i = .int .i64 k ∧ v = .slice a l cc ∧ Own (w.heap.size + 1) wr a l cc (kidsTo P x k) ∧ Fr (w.alloc (.cells #[.slice p n c, .slice q m d] 29)) wr) (fun _ i _ => n - (intOf i).toNat)
  case atStart => exact ⟨0, 0, 0, _, by omega, rfl, rfl, by simpa [kidsTo] using hmade, hfa⟩
  case round =>
    clear hmade hfa
    obtain ⟨k, l, cc, a, hk, rfl, rfl, ho, hF⟩ := hrel
    by_cases hlt : k < n
    · obtain ⟨b, off, rfl, hc⟩ := (hP.fr (((Fr.refl w).alloc _).trans hF)).cells.resolve_left (by omega)
      replace hc := hc k hlt
      have hs := kidsTo_succ P x k
      have hln : l ≤ 1048576 := by have := ho.len; have := kidsTo_len P x k; omega
      have hsz : w.heap.size + 1 ≤ wr.heap.size := by have := hF.size; simpa using this
      by_cases he : nth P k = (x : Int)
      · have HS : Hid (kidsTo P x (k + 1) = kidsTo P x k ++ [(k : Int)]) := Lib.hid (by rw [hs, if_pos he])
        have hb : (nth P k == (x : Int)) = true := by simp [he]
        clear hs he
        go_wp2_with (at_builtin; refine ap_int _ rfl _ _ rfl (w.heap.size + 1) a l cc _ _ rfl rfl ho hsz (by unfold I64; omega) hln ?_)
        intro g' c' w' k1 k2 k3
        go_wp2
        go_roundw
        case rel => exact ⟨k + 1, l + 1, c', _, by omega, by go_num, rfl, by rw [HS.out]; exact k1, hF.grown k2 (fun z hz => by have := (ho.blk z hz).1; simpa using this)⟩
        case measure => simp [intOf]; omega
      · have HS : Hid (kidsTo P x (k + 1) = kidsTo P x k) := Lib.hid (by rw [hs, if_neg he])
        have hb : (nth P k == (x : Int)) = false := by simp [he]
        clear hs he
        go_wp2
        go_roundw
        case rel => exact ⟨k + 1, l, cc, a, by omega, by go_num, rfl, by rw [HS.out]; exact ho, hF⟩
        case measure => simp [intOf]; omega
    · obtain rfl : k = n := by omega
      have hln : l ≤ 1048576 := by have := ho.len; have := kidsTo_len P x k; omega
      go_wp2
      go_ret
      exact ⟨_, _, _, rfl, ho.mono (by omega), ((Fr.refl w).alloc _).trans hF, hln⟩

end Go.Proofs.Ytojipjjfndgbhaa
