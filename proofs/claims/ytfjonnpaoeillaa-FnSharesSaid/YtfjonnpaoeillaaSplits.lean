import Derived.Test.YtfjonnpaoeillaaSplit
import Derived.Test.YtfjonnpaoeillaaTabLaw
/- Contracts of splits and BestSplit. -/
set_option linter.unusedVariables false
namespace Go.Proofs.Ytfjonnpaoeillaa
open Go.ChangeShapes Go.WideShapes Go.ChangeAt Go.RowKit

/-- All splits of n for k + 1 runners, in lexicographic order. -/
def splitsM : Nat → Nat → List (List Int)
  | 0, n => [[(n : Int)]]
  | k + 1, n => (List.range (n + 1)).flatMap fun f => (splitsM k (n - f)).map fun r => (f : Int) :: r
/-- .. the first number being less than i. -/
def catTo (k n i : Nat) : List (List Int) := (List.range i).flatMap fun f => (splitsM k (n - f)).map fun r => (f : Int) :: r
theorem catTo_succ (k n i : Nat) : catTo k n (i + 1) = catTo k n i ++ (splitsM k (n - i)).map fun r => (i : Int) :: r := by
  simp [catTo, List.range_succ, List.flatMap_append]
theorem splitsM_rows (k : Nat) : ∀ n, ∀ r ∈ splitsM k n, r.length = k + 1 := by
  induction k with
  | zero => intro n r hr; simp [splitsM] at hr; simp [hr]
  | succ k ih =>
    intro n r hr
    simp only [splitsM, List.mem_flatMap, List.mem_map] at hr
    obtain ⟨f, _, r', hr', rfl⟩ := hr
    simp [ih _ _ hr']
theorem flatMap_len_le {α β : Type} (l : List α) (f : α → List β) (M : Nat) (h : ∀ a ∈ l, (f a).length ≤ M) : (l.flatMap f).length ≤ l.length * M := by
  induction l with
  | nil => simp
  | cons a l ih =>
    simp only [List.flatMap_cons, List.length_append, List.length_cons, Nat.add_mul]
    have h1 := h a (by simp)
    have h2 := ih fun b hb => h b (by simp [hb])
    omega
theorem splitsM_len (k : Nat) : ∀ n, n ≤ 12 → (splitsM k n).length ≤ 13 ^ k := by
  induction k with
  | zero => intro n _; simp [splitsM]
  | succ k ih =>
    intro n hn
    have h1 := flatMap_len_le (List.range (n + 1)) (fun f => (splitsM k (n - f)).map fun r => (f : Int) :: r) (13 ^ k) (fun a _ => by simpa using ih (n - a) (by omega))
    have h2 := Nat.mul_le_mul_right (13 ^ k) (show n + 1 ≤ 13 by omega)
    simp only [List.length_range] at h1
    rw [Nat.pow_succ, splitsM]
    omega
theorem pow13 (k : Nat) (h : k ≤ 3) : 13 ^ k ≤ 2197 := by
  rcases (show k = 0 ∨ k = 1 ∨ k = 2 ∨ k = 3 by omega) with rfl | rfl | rfl | rfl <;> decide
theorem catTo_len (k n i : Nat) (hk : k ≤ 2) (hn : n ≤ 12) (hi : i ≤ n + 1) : (catTo k n i).length ≤ 2197 := by
  have h1 := flatMap_len_le (List.range i) (fun f => (splitsM k (n - f)).map fun r => (f : Int) :: r) (13 ^ k) (fun a _ => by simpa using splitsM_len k (n - a) (by omega))
  have h2 := Nat.mul_le_mul_right (13 ^ k) (show i ≤ 13 by omega)
  have h3 := pow13 (k + 1) (by omega)
  rw [Nat.pow_succ] at h3
  simp only [List.length_range] at h1
  unfold catTo
  omega
theorem tot_le (xss : List (List Int)) (m : Nat) (h : ∀ r ∈ xss, r.length = m) : tot xss = xss.length * m := by
  induction xss with
  | nil => simp [tot]
  | cons a l ih =>
    have h2 := ih fun r hr => h r (by simp [hr])
    simp only [tot, List.map_cons, List.sum_cons] at h2 ⊢
    rw [h2, h a (by simp)]; simp [Nat.add_mul]; omega
theorem splitsM_tot (k n : Nat) (hk : k ≤ 3) (hn : n ≤ 12) : tot (splitsM k n) ≤ 1048576 ∧ (splitsM k n).length ≤ 2197 := by
  have h1 := splitsM_len k n hn
  have h2 := pow13 k hk
  have h3 := tot_le (splitsM k n) (k + 1) (splitsM_rows k n)
  have h4 := Nat.mul_le_mul (show (splitsM k n).length ≤ 2197 by omega) (show k + 1 ≤ 4 by omega)
  omega

theorem Own.one {B : Nat} (w : World) (z : Int) (hB : B ≤ w.heap.size) (hz : I64 z) : Own B (w.alloc (.cells #[.int .i64 z] 3)) (some ⟨w.heap.size, 0, none⟩) 1 1 [z] :=
  ⟨⟨by simp, .inr ⟨w.heap.size, 1, #[.int .i64 z], rfl, hB, heap_alloc_new w _, Nat.le_refl _, by unfold maxLen; omega, by simp, by simp⟩⟩, by simpa using hz⟩

theorem splits_any (k : Nat) : ∀ (m r : Int) (w : World), 0 ≤ m → m ≤ 12 → r = (k : Int) + 1 → k ≤ 3 →
    Calls Try.prog 51 #[.int .i64 m, .int .i64 r] w (RetSS (splitsM k m.toNat) w) := by
  induction k with
  | zero =>
    intro m r w h0 h1 hr _
    have hr1 : r = 1 := by omega
    subst hr1
    clear hr
    have ho := Own.one (B := w.heap.size) w m (Nat.le_refl _) (by unfold I64; omega)
    have hs := OwnSS.one ho (by simp)
    rw [World.size_alloc] at hs
    have ht := splitsM_tot 0 m.toNat (by omega) (by omega)
    have HT := Lib.hid ht
    have HM : Hid ([[m]] = splitsM 0 m.toNat) := Lib.hid (by rw [splitsM, Int.toNat_of_nonneg h0])
    clear ht
    go_enter Try.func51, Try.ntmps51
    go_wp2
    go_ret
    rw [← HM.out]
    refine ⟨_, _, _, rfl, hs.upto ?_, ((Fr.refl w).alloc _).alloc _, by simp [tot], by omega⟩
    simp
  | succ k ih =>
    intro m r w h0 h1 hr hk
    obtain ⟨n, rfl⟩ := Int.eq_ofNat_of_zero_le h0
    rw [Int.toNat_natCast]
    have hrb : (r == 1) = false := beq_eq_false_iff_ne.2 (by omega)
    have HR := Lib.hid hr
    have hr2 : 2 ≤ r ∧ r ≤ 4 := by omega
    clear hr
    have IH := Lib.hid ih
    clear ih
    have ht := splitsM_tot (k + 1) n hk (by omega)
    have HT := Lib.hid ht
    clear ht
    have hone := OwnSS.made0 (B := w.heap.size) (H := w.heap.size + 1) w (Nat.le_refl _) (by omega)
    have hfr := (Fr.refl w).alloc (.cells #[] 33)
    go_enter Try.func51, Try.ntmps51
    go_wp2
    go_loopw [5, 17] (fun q i wr => ∃ (j l : Nat) (p : Option Addr) (c : Nat), j ≤ n + 1 ∧ i = .int .i64 j ∧ q = .slice p l c ∧ OwnSS w.heap.size wr.heap.size wr p l c (catTo k n j) ∧ Within p w.heap.size wr.heap.size ∧ Fr w wr) (fun _ i _ => n + 1 - (intOf i).toNat)
    case atStart => exact ⟨0, 0, _, _, by omega, rfl, rfl, by simpa [catTo] using hone, fun k hk => by simp [blkOf] at hk; simp; omega, hfr⟩
    case round =>
      clear hone hfr
      obtain ⟨j, l, p, c, hj, rfl, rfl, ho, hW, hf⟩ := hrel
      by_cases hlt : j < n + 1
      · go_wp2_with fail
        refine (IH.out _ _ _ (by omega) (by omega) (by have := HR.out; omega) (by omega)).mono ?_
        rintro e w1 ⟨a1, n1, c1, rfl, o1, f1, t1, m1⟩
        obtain ⟨wr0, rfl⟩ : ∃ wr0 : World, wr0 = wr := ⟨_, rfl⟩
        rw [show ((n : Int) - (j : Int)).toNat = n - j by omega] at o1
        have hf1s := f1.size
        have Hn1 := Lib.hid o1.len
        have HRL := Lib.hid (splitsM_rows k (n - j))
        have hO : OutB p wr0.heap.size w1.heap.size := fun k hk => .inl (hW k hk).2
        go_wp2
        go_loopw [5, 27] (fun q i wi => ∃ (i' l2 : Nat) (p2 : Option Addr) (c2 : Nat), i' ≤ n1 ∧ i = .int .i64 i' ∧ q = .slice p2 l2 c2 ∧ OwnSS w.heap.size wi.heap.size wi p2 l2 c2 (catTo k n j ++ ((splitsM k (n - j)).take i').map fun r => (j : Int) :: r) ∧ Within p2 w.heap.size wi.heap.size ∧ OutB p2 wr0.heap.size w1.heap.size ∧ OwnSS wr0.heap.size w1.heap.size wi a1 n1 c1 (splitsM k (n - j)) ∧ Fr w wi ∧ w1.heap.size ≤ wi.heap.size) (fun _ i _ => n1 - (intOf i).toNat)
        case atStart => exact ⟨0, l, p, c, by omega, rfl, rfl, by simpa using (ho.fr f1).upto hf1s, fun k hk => by have := hW k hk; omega, hO, o1, hf.trans f1, Nat.le_refl _⟩
        case round =>
          clear o1 f1 hO ho hW hf
          obtain ⟨i', l2, p2, c2, hi', rfl, rfl, ho, hW, hO, hT, hf, hsz⟩ := hrel
          by_cases hit : i' < n1
          · obtain ⟨g, p3, m3, c3, rfl, hcell, hrow, hW3, _, _⟩ := hT.rowAt hit
            have hlen2 : l2 ≤ 4394 := by
              have h1 := ho.len
              have h2 := catTo_len k n j (by omega) (by omega) (by omega)
              have h3 := (splitsM_tot k (n - j) (by omega) (by omega)).2
              simp only [List.length_append, List.length_map, List.length_take] at h1
              omega
            have hm3 : m3 = k + 1 := by rw [← hrow.len]; exact HRL.out _ (by rw [nthL_eq (by rw [Hn1.out]; exact hit)]; exact List.getElem_mem _)
            have HM3 := Lib.hid hm3
            have hm3p : 0 < m3 := by omega
            have hm3b : m3 ≤ 10 := by omega
            clear hm3
            have hfirst := Own.one (B := wr.heap.size) wr (j : Int) (Nat.le_refl _) (by unfold I64; omega)
            have hfa := (Fr.refl wr).alloc (.cells #[.int .i64 (j : Int)] 3)
            have hrow1 := (hrow.fr hfa).sl
            have hsn : Hid (((splitsM k (n - j)).take (i' + 1)).map (fun r => (j : Int) :: r) = ((splitsM k (n - j)).take i').map (fun r => (j : Int) :: r) ++ [[(j : Int)] ++ nthL (splitsM k (n - j)) i']) := Lib.hid (by
              rw [List.take_succ_eq_append_getElem (by rw [Hn1.out]; exact hit), nthL_eq (by rw [Hn1.out]; exact hit), List.map_append]; rfl)
            go_wp2_with (at_builtin; refine ap_cat _ rfl _ _ rfl wr.heap.size (some ⟨wr.heap.size, 0, none⟩) 1 1 [(j : Int)] p3 m3 c3 _ rfl rfl hfirst (by simp) hrow1 hm3p (by omega) ?_)
            intro g2 c4 w2 hr2 hg2 _
            have hF2 : Fr wr w2 := hfa.grown hg2 (fun k hk => by simp [blkOf] at hk; omega)
            have hF2s := hF2.size
            go_wp2_with (at_builtin; refine ap_row _ rfl _ _ rfl w.heap.size wr.heap.size p2 l2 c2 _ (some ⟨g2, 0, none⟩) (1 + m3) c4 _ rfl rfl (ho.fr hF2) hf.size hF2.size (hr2.mono hf.size) hr2.within (by omega) ?_)
            intro g5 c5 w3 hown hgr hnew
            have hF : Fr w w3 := (hf.trans hF2).grown hgr (fun k hk => (hW k hk).1)
            have hW' : Within (some ⟨g5, 0, none⟩) w.heap.size w3.heap.size := by obtain ⟨_, _, _, q, _⟩ := hown.ex; exact q
            have hO' : OutB (some ⟨g5, 0, none⟩) wr0.heap.size w1.heap.size := by
              intro k hk
              simp only [blkOf, Option.map_some, Option.some.injEq] at hk
              subst hk
              rcases hnew with h | h
              · exact hO _ h
              · right; omega
            have hT' := (hT.fr hF2).keep hgr hO
            have hsz' := hgr.size
            go_wp2
            go_roundw
            case rel => exact ⟨i' + 1, l2 + 1, _, c5, by omega, by go_num, rfl, by rw [hsn.out]; simpa [List.map_take] using hown, hW', hO', hT', hF, by omega⟩
            case measure => simp [intOf]; omega
          · have hin : i' = n1 := by omega
            rw [List.take_of_length_le (by rw [Hn1.out]; omega), ← catTo_succ] at ho
            go_wp2
            go_roundw
            case rel => exact ⟨j + 1, l2, p2, c2, by omega, by go_num, rfl, ho, hW, hf⟩
            case measure => simp [intOf]; omega
      · go_wp2
        go_ret
        obtain rfl : j = n + 1 := by omega
        have hl := ho.len
        exact ⟨_, _, _, rfl, ho, hf, HT.out.1, by have := HT.out.2; rw [← hl]; exact Nat.le_trans this (by omega)⟩

theorem l11Splits_any (k : Nat) : ∀ (m r : Int) (w : World), 0 ≤ m → m ≤ 12 → r = (k : Int) + 1 → k ≤ 3 →
    Calls Try.prog 50 #[.int .i64 r, .int .i64 m] w (RetSS (splitsM k m.toNat) w) := by
  induction k with
  | zero =>
    intro m r w h0 h1 hr _
    have hr1 : r = 1 := by omega
    subst hr1
    clear hr
    have ho := Own.one (B := w.heap.size) w m (Nat.le_refl _) (by unfold I64; omega)
    have hs := OwnSS.one ho (by simp)
    rw [World.size_alloc] at hs
    have ht := splitsM_tot 0 m.toNat (by omega) (by omega)
    have HT := Lib.hid ht
    have HM : Hid ([[m]] = splitsM 0 m.toNat) := Lib.hid (by rw [splitsM, Int.toNat_of_nonneg h0])
    clear ht
    go_enter Try.func50, Try.ntmps50
    go_wp2
    go_ret
    rw [← HM.out]
    refine ⟨_, _, _, rfl, hs.upto ?_, ((Fr.refl w).alloc _).alloc _, by simp [tot], by omega⟩
    simp
  | succ k ih =>
    intro m r w h0 h1 hr hk
    obtain ⟨n, rfl⟩ := Int.eq_ofNat_of_zero_le h0
    rw [Int.toNat_natCast]
    have hrb : (r == 1) = false := beq_eq_false_iff_ne.2 (by omega)
    have HR := Lib.hid hr
    have hr2 : 2 ≤ r ∧ r ≤ 4 := by omega
    clear hr
    have IH := Lib.hid ih
    clear ih
    have ht := splitsM_tot (k + 1) n hk (by omega)
    have HT := Lib.hid ht
    clear ht
    have hone := OwnSS.made0 (B := w.heap.size) (H := w.heap.size + 1) w (Nat.le_refl _) (by omega)
    have hfr := (Fr.refl w).alloc (.cells #[] 33)
    go_enter Try.func50, Try.ntmps50
    go_wp2
    go_loopw [5, 6] (fun q i wr => ∃ (j l : Nat) (p : Option Addr) (c : Nat), j ≤ n + 1 ∧ i = .int .i64 j ∧ q = .slice p l c ∧ OwnSS w.heap.size wr.heap.size wr p l c (catTo k n j) ∧ Within p w.heap.size wr.heap.size ∧ Fr w wr) (fun _ i _ => n + 1 - (intOf i).toNat)
    case atStart => exact ⟨0, 0, _, _, by omega, rfl, rfl, by simpa [catTo] using hone, fun k hk => by simp [blkOf] at hk; simp; omega, hfr⟩
    case round =>
      clear hone hfr
      obtain ⟨j, l, p, c, hj, rfl, rfl, ho, hW, hf⟩ := hrel
      by_cases hlt : j < n + 1
      · have hjn : j ≤ n := by omega
        go_wp2_with fail
        refine (IH.out _ _ _ (by omega) (by omega) (by have := HR.out; omega) (by omega)).mono ?_
        rintro e w1 ⟨a1, n1, c1, rfl, o1, f1, t1, m1⟩
        obtain ⟨wr0, rfl⟩ : ∃ wr0 : World, wr0 = wr := ⟨_, rfl⟩
        rw [show ((n : Int) - (j : Int)).toNat = n - j by omega] at o1
        have hf1s := f1.size
        have Hn1 := Lib.hid o1.len
        have HRL := Lib.hid (splitsM_rows k (n - j))
        have hO : OutB p wr0.heap.size w1.heap.size := fun k hk => .inl (hW k hk).2
        go_wp2
        go_loopw [5, 8] (fun q i wi => ∃ (i' l2 : Nat) (p2 : Option Addr) (c2 : Nat), i' ≤ n1 ∧ i = .int .i64 i' ∧ q = .slice p2 l2 c2 ∧ OwnSS w.heap.size wi.heap.size wi p2 l2 c2 (catTo k n j ++ ((splitsM k (n - j)).take i').map fun r => (j : Int) :: r) ∧ Within p2 w.heap.size wi.heap.size ∧ OutB p2 wr0.heap.size w1.heap.size ∧ OwnSS wr0.heap.size w1.heap.size wi a1 n1 c1 (splitsM k (n - j)) ∧ Fr w wi ∧ w1.heap.size ≤ wi.heap.size) (fun _ i _ => n1 - (intOf i).toNat)
        case atStart => exact ⟨0, l, p, c, by omega, rfl, rfl, by simpa using (ho.fr f1).upto hf1s, fun k hk => by have := hW k hk; omega, hO, o1, hf.trans f1, Nat.le_refl _⟩
        case round =>
          clear o1 f1 hO ho hW hf
          obtain ⟨i', l2, p2, c2, hi', rfl, rfl, ho, hW, hO, hT, hf, hsz⟩ := hrel
          by_cases hit : i' < n1
          · obtain ⟨g, p3, m3, c3, rfl, hcell, hrow, hW3, _, _⟩ := hT.rowAt hit
            have hlen2 : l2 ≤ 4394 := by
              have h1 := ho.len
              have h2 := catTo_len k n j (by omega) (by omega) (by omega)
              have h3 := (splitsM_tot k (n - j) (by omega) (by omega)).2
              simp only [List.length_append, List.length_map, List.length_take] at h1
              omega
            have hm3 : m3 = k + 1 := by rw [← hrow.len]; exact HRL.out _ (by rw [nthL_eq (by rw [Hn1.out]; exact hit)]; exact List.getElem_mem _)
            have HM3 := Lib.hid hm3
            have hm3p : 0 < m3 := by omega
            have hm3b : m3 ≤ 10 := by omega
            clear hm3
            have hfirst := Own.one (B := wr.heap.size) wr (j : Int) (Nat.le_refl _) (by unfold I64; omega)
            have hfa := (Fr.refl wr).alloc (.cells #[.int .i64 (j : Int)] 3)
            have hrow1 := (hrow.fr hfa).sl
            have hcell1 := hfa.keep hcell
            have hsn : Hid (((splitsM k (n - j)).take (i' + 1)).map (fun r => (j : Int) :: r) = ((splitsM k (n - j)).take i').map (fun r => (j : Int) :: r) ++ [[(j : Int)] ++ nthL (splitsM k (n - j)) i']) := Lib.hid (by
              rw [List.take_succ_eq_append_getElem (by rw [Hn1.out]; exact hit), nthL_eq (by rw [Hn1.out]; exact hit), List.map_append]; rfl)
            go_wp2_with (at_builtin; refine ap_cat _ rfl _ _ rfl wr.heap.size (some ⟨wr.heap.size, 0, none⟩) 1 1 [(j : Int)] p3 m3 c3 _ rfl rfl hfirst (by simp) hrow1 hm3p (by omega) ?_)
            intro g2 c4 w2 hr2 hg2 _
            have hF2 : Fr wr w2 := hfa.grown hg2 (fun k hk => by simp [blkOf] at hk; omega)
            have hF2s := hF2.size
            go_wp2_with (at_builtin; refine ap_row _ rfl _ _ rfl w.heap.size wr.heap.size p2 l2 c2 _ (some ⟨g2, 0, none⟩) (1 + m3) c4 _ rfl rfl (ho.fr hF2) hf.size hF2.size (hr2.mono hf.size) hr2.within (by omega) ?_)
            intro g5 c5 w3 hown hgr hnew
            have hF : Fr w w3 := (hf.trans hF2).grown hgr (fun k hk => (hW k hk).1)
            have hW' : Within (some ⟨g5, 0, none⟩) w.heap.size w3.heap.size := by obtain ⟨_, _, _, q, _⟩ := hown.ex; exact q
            have hO' : OutB (some ⟨g5, 0, none⟩) wr0.heap.size w1.heap.size := by
              intro k hk
              simp only [blkOf, Option.map_some, Option.some.injEq] at hk
              subst hk
              rcases hnew with h | h
              · exact hO _ h
              · right; omega
            have hT' := (hT.fr hF2).keep hgr hO
            have hsz' := hgr.size
            go_wp2
            go_roundw
            case rel => exact ⟨i' + 1, l2 + 1, _, c5, by omega, by go_num, rfl, by rw [hsn.out]; simpa [List.map_take] using hown, hW', hO', hT', hF, by omega⟩
            case measure => simp [intOf]; omega
          · have hin : i' = n1 := by omega
            rw [List.take_of_length_le (by rw [Hn1.out]; omega), ← catTo_succ] at ho
            go_wp2
            go_roundw
            case rel => exact ⟨j + 1, l2, p2, c2, by omega, by go_num, rfl, ho, hW, hf⟩
            case measure => simp [intOf]; omega
      · go_wp2
        go_ret
        obtain rfl : j = n + 1 := by omega
        have hl := ho.len
        exact ⟨_, _, _, rfl, ho, hf, HT.out.1, by have := HT.out.2; rw [← hl]; exact Nat.le_trans this (by omega)⟩

end Go.Proofs.Ytfjonnpaoeillaa
