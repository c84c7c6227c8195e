import Derived.Test.YtboekndojgbkfaaPlanM
/- Contracts of isPlan and l10Plan, l10Good, IsPlan. -/
set_option linter.unusedVariables false
namespace Go.Proofs.Ytboekndojgbkfaa
open Go.ChangeShapes Go.WideShapes Go.ChangeAt Go.RowKit

theorem isPlan_any (w : World) (a b t : Option Addr) (n1 c1 n2 c2 n3 c3 : Nat) (p q : List Int) (T : List (List Int)) (hp : SL w a n1 c1 p) (hq : SL w b n2 c2 q) (ht : SS w t n3 c3 T) (hal : alikeB p q = true) :
    Calls Try.prog 78 #[.slice a n1 c1, .slice b n2 c2, .slice t n3 c3] w fun e w' => e = .returned (.bool (planB p q T)) ∧ Fr w w' := by
  have Hp := Lib.hid hp.len; have Hq := Lib.hid hq.len; have Ht := Lib.hid ht.len
  obtain ⟨s1, s2, s3, s4⟩ := alikeB_iff.1 hal
  have g1 := (spreadB_iff.1 s1).1
  have hn : n2 = n1 := by rw [← Hp.out, ← Hq.out, s3]
  subst hn
  rw [Hp.out] at g1
  have h3m : n3 ≤ 9223372036854775807 := by have := ht.le; have := ht.mx; omega
  clear s1 s2 s3 s4 hal
  by_cases hne : n3 = n2
  rotate_left
  · have hb : ((n3 : Int) != (n2 : Int)) = true := by simp; omega
    have HN := Lib.hid hne
    clear hne
    go_enter Try.func78, Try.ntmps78
    go_wp2
    go_ret
    exact ⟨ret_bool (planB_noLen (by rw [Ht.out, Hp.out]; exact HN.out)).symm, Fr.refl _⟩
  subst hne
  have hmk := run_make_row' 22 3 (.int .i64 0) 8 Try.underlying22 infoInt rfl .i64 .i64 n3 (by omega) (by omega)
  have hmade := Own.made w n3 (Nat.le_refl _) (by unfold maxLen; omega)
  have hfr := (Fr.refl w).alloc (.cells (madeCells #[.int .i64 0] n3) 3)
  go_enter Try.func78, Try.ntmps78
  go_wp2
  clear hmk
  go_loopw [24] (fun i wr => ∃ j : Nat, j ≤ n3 ∧ i = .int .i64 j ∧ Hid (∀ i, i < j → rowOk p q T i = true) ∧ Own w.heap.size wr (some ⟨w.heap.size, 0, none⟩) n3 n3 (colsAt T n3 j 0) ∧ Fr w wr) (fun i _ => n3 - (intOf i).toNat)
  case atStart => exact ⟨0, Nat.zero_le _, rfl, Lib.hid (fun i hi => by omega), by rw [colsAt_zero]; exact hmade, hfr⟩
  case round =>
    clear hmade hfr
    obtain ⟨j, hj, rfl, hs, ho, hf⟩ := hrel
    by_cases hlt : j < n3
    · obtain ⟨b3, o3, rfl, hc3⟩ := ht.rows.resolve_left (by omega)
      obtain ⟨pr, mr, cr, hcell0, hrow0⟩ := hc3 j hlt
      have hcell := hf.keep hcell0
      have hrow := hrow0.fr hf
      clear hc3 hcell0
      have Hr := Lib.hid hrow.len
      have hmr : mr ≤ 9223372036854775807 := by have := hrow.le; have := hrow.mx; omega
      obtain ⟨bp, op, rfl, hcp⟩ := (hp.fr hf).cells.resolve_left (by omega)
      have hcp := hcp j hlt
      by_cases hl : mr = n3
      rotate_left
      · have hb : ((mr : Int) != (n3 : Int)) = true := by simp; omega
        have HL : Hid (rowOk p q T j = false) := Lib.hid (by rw [rowOk, Hr.out, Hq.out, beq_eq_false_iff_ne.2 hl]; rfl)
        clear hl
        go_wp2
        go_quiet (fail)
        go_wp2
        go_ret
        exact ⟨ret_bool (planB_noRow (by rw [Ht.out]; exact hlt) HL.out).symm, hf.drew' _⟩
      subst hl
      have hi1 : (0 : Int) ≤ (j : Int) := by omega
      have hi2 : (j : Int) < (mr : Int) := by omega
      cases hall : allB (nthL T j) 0 40
      · have HL : Hid (rowOk p q T j = false) := Lib.hid (by rw [rowOk, hall]; simp)
        go_wp2
        go_quiet ((first | (go_at_call 81; exact qofe (allWithin_any _ _ _ _ _ _ _ (hrow.drewN _))) | (go_at_call 84; exact qofe (total_any _ _ _ _ _ (hrow.drewN _)))))
        go_wp2
        go_ret
        exact ⟨ret_bool (planB_noRow (by rw [Ht.out]; exact hlt) HL.out).symm, hf.drew' _⟩
      · by_cases hs2 : wsum (nthL T j) = nth p j
        rotate_left
        · have hb : (wsum (nthL T j) != nth p j) = true := by simp [hs2]
          have HL : Hid (rowOk p q T j = false) := Lib.hid (by rw [rowOk, beq_eq_false_iff_ne.2 hs2]; simp)
          clear hs2
          go_wp2
          go_quiet ((first | (go_at_call 81; exact qofe (allWithin_any _ _ _ _ _ _ _ (hrow.drewN _))) | (go_at_call 84; exact qofe (total_any _ _ _ _ _ (hrow.drewN _)))))
          go_wp2
          go_ret
          exact ⟨ret_bool (planB_noRow (by rw [Ht.out]; exact hlt) HL.out).symm, hf.drew' _⟩
        have hb : (wsum (nthL T j) != nth p j) = false := by simp [hs2]
        have HL : Hid (rowOk p q T j = true) := Lib.hid (by rw [rowOk, hall, hs2, Hr.out, Hq.out]; simp)
        clear hs2
        go_wp2
        go_quiet ((first | (go_at_call 81; exact qofe (allWithin_any _ _ _ _ _ _ _ (hrow.drewN _))) | (go_at_call 84; exact qofe (total_any _ _ _ _ _ (hrow.drewN _)))))
        have hs' : Hid (∀ i, i < j + 1 → rowOk p q T i = true) := Lib.hid (fun i hi => by
          by_cases e : i = j
          · subst e; exact HL.out
          · exact hs.out i (by omega))
        clear hs hcp hb hall hcell
        obtain ⟨wo, rfl⟩ : ∃ wo : World, wo = wr := ⟨_, rfl⟩
        go_wp2
        go_loopw [50] (fun i wi => ∃ k : Nat, k ≤ mr ∧ i = .int .i64 k ∧ Own w.heap.size wi (some ⟨w.heap.size, 0, none⟩) mr mr (colsAt T mr j k) ∧ Fr w wi) (fun i _ => mr - (intOf i).toNat)
        case atStart => exact ⟨0, Nat.zero_le _, rfl, ho.fr (Fr.drewN _ _), hf.drew' _⟩
        case round =>
          clear ho
          obtain ⟨k, hk, rfl, ho, hf'⟩ := hrel
          by_cases hkt : k < mr
          · obtain ⟨br, orr, rfl, hcr⟩ := (hrow0.fr hf').cells.resolve_left (by omega)
            have hcr := hcr k hkt
            obtain ⟨g, hg, hB, hlt2, hcc, hfro⟩ := ho.op (by omega)
            obtain ⟨rfl⟩ : w.heap.size = g := by simpa using hg
            replace hcc := hcc k hkt
            rw [colsAt_nth _ _ _ _ _ hkt, if_neg (by omega)] at hcc
            have hfro := hfro k
            have hb1 := colTo_bd (t := T) (k := k) (j := j) (M := 40) (by omega) (fun i hi => rows_cell hs'.out i k (by omega)) j (Nat.le_refl _)
            have hb2 := rows_cell hs'.out j k (by omega)
            have hb3 := hb2
            unfold cellT at hb2
            go_wp2
            go_roundw
            case rel =>
              refine ⟨k + 1, by omega, by go_num, ?_, hf'.setCell (Nat.le_refl _) _⟩
              rw [← colsAt_step _ _ _ _ hkt]
              exact ho.set rfl hkt (by unfold I64; omega)
            case measure => simp [intOf]; omega
          · go_wp2
            obtain rfl : k = mr := by omega
            go_roundw
            case rel => exact ⟨j + 1, by omega, by go_num, hs', by rw [← colsAt_end]; exact ho, hf'⟩
            case measure => simp [intOf]; omega
    · obtain rfl : j = n3 := by omega
      go_wp2
      go_loop [66] (fun i => ∃ k : Nat, k ≤ j ∧ i = .int .i64 k ∧ Hid (∀ i, i < k → colTo T i j = nth q i)) (fun i => j - (intOf i).toNat)
      case atStart => exact ⟨0, Nat.zero_le _, rfl, Lib.hid (fun i hi => by omega)⟩
      case round =>
        obtain ⟨k, hk, rfl, hc⟩ := hrel
        by_cases hkt : k < j
        · obtain ⟨bq, oq, rfl, hcq⟩ := (hq.fr hf).cells.resolve_left (by omega)
          have hcq := hcq k hkt
          obtain ⟨g, hg, hB, hlt2, hcc, hfro⟩ := ho.op (by omega)
          obtain ⟨rfl⟩ : w.heap.size = g := by simpa using hg
          replace hcc := hcc k hkt
          rw [colsAt_nth _ _ _ _ _ hkt, if_neg (by omega)] at hcc
          by_cases he : colTo T k j = nth q k
          · have HE := Lib.hid he
            have hb : (colTo T k j != nth q k) = false := by simp [he]
            clear he
            go_wp2
            go_round
            case rel => exact ⟨k + 1, by omega, by go_num, Lib.hid (fun i hi => by by_cases e : i = k; (· subst e; exact HE.out); (· exact hc.out i (by omega)))⟩
            case measure => simp [intOf]; omega
          · have HE := Lib.hid he
            have hb : (colTo T k j != nth q k) = true := by simp [he]
            clear he
            go_wp2
            go_ret
            exact ⟨ret_bool (planB_noCol (by rw [Hq.out]; exact hkt) (by rw [Ht.out]; exact HE.out)).symm, hf⟩
        · obtain rfl : k = j := by omega
          go_wp2
          go_ret
          exact ⟨ret_bool (planB_iff.2 ⟨by rw [Ht.out, Hp.out], by rw [Ht.out]; exact hs.out, by rw [Ht.out, Hq.out]; exact hc.out⟩).symm, hf⟩

theorem l10Plan_any (w : World) (a b t : Option Addr) (n1 c1 n2 c2 n3 c3 : Nat) (p q : List Int) (T : List (List Int)) (hp : SL w a n1 c1 p) (hq : SL w b n2 c2 q) (ht : SS w t n3 c3 T) (hal : alikeB p q = true) :
    Calls Try.prog 77 #[.slice a n1 c1, .slice b n2 c2, .slice t n3 c3] w fun e w' => e = .returned (.bool (planB p q T)) ∧ Qt w w' := by
  have Hp := Lib.hid hp.len; have Hq := Lib.hid hq.len; have Ht := Lib.hid ht.len
  obtain ⟨s1, s2, s3, s4⟩ := alikeB_iff.1 hal
  have g1 := (spreadB_iff.1 s1).1
  have hn : n2 = n1 := by rw [← Hp.out, ← Hq.out, s3]
  subst hn
  rw [Hp.out] at g1
  have h3m : n3 ≤ 9223372036854775807 := by have := ht.le; have := ht.mx; omega
  clear s1 s2 s3 s4 hal
  by_cases hne : n3 = n2
  rotate_left
  · have hb : ((n3 : Int) != (n2 : Int)) = true := by simp; omega
    have HN := Lib.hid hne
    clear hne
    go_enter Try.func77, Try.ntmps77
    go_wp2
    go_ret
    exact ⟨ret_bool (planB_noLen (by rw [Ht.out, Hp.out]; exact HN.out)).symm, Qt.refl _⟩
  subst hne
  go_enter Try.func77, Try.ntmps77
  go_wp2
  go_loopw [7] (fun i wr => ∃ j : Nat, j ≤ n3 ∧ i = .int .i64 j ∧ Hid (∀ i, i < j → rowOk p q T i = true) ∧ Qt w wr) (fun i _ => n3 - (intOf i).toNat)
  case atStart => exact ⟨0, Nat.zero_le _, rfl, Lib.hid (fun i hi => by omega), Qt.refl _⟩
  case round =>
    obtain ⟨j, hj, rfl, hs, hf⟩ := hrel
    by_cases hlt : j < n3
    · obtain ⟨b3, o3, rfl, hc3⟩ := ht.rows.resolve_left (by omega)
      obtain ⟨pr, mr, cr, hcell0, hrow0⟩ := hc3 j hlt
      have hcell := hf.fr.keep hcell0
      have hrow := hrow0.qt hf
      clear hc3 hcell0
      have Hr := Lib.hid hrow.len
      have hmr : mr ≤ 9223372036854775807 := by have := hrow.le; have := hrow.mx; omega
      obtain ⟨bp, op, rfl, hcp⟩ := (hp.qt hf).cells.resolve_left (by omega)
      have hcp := hcp j hlt
      have hi1 : (0 : Int) ≤ (j : Int) := by omega
      have hi2 : (j : Int) < (n3 : Int) := by omega
      cases hall : (allB (nthL T j) 0 40 && ((mr : Int) == (n3 : Int)))
      · have HL : Hid (rowOk p q T j = false) := Lib.hid (by
          rw [beq_nat] at hall
          rw [rowOk, Hr.out, Hq.out, Bool.and_comm (mr == n3), hall]; rfl)
        go_wp2
        go_quiet ((first | (go_at_call 113; exact qofe (l10Row_any _ _ _ _ _ _ (hrow.drewN _))) | (go_at_call 112; exact qofe (l10Sum_any _ _ _ _ _ (hrow.drewN _)))))
        go_wp2
        go_ret
        exact ⟨ret_bool (planB_noRow (by rw [Ht.out]; exact hlt) HL.out).symm, hf.drewN _⟩
      · by_cases hs2 : wsum (nthL T j) = nth p j
        rotate_left
        · have hb : (wsum (nthL T j) != nth p j) = true := by simp [hs2]
          have HL : Hid (rowOk p q T j = false) := Lib.hid (by rw [rowOk, beq_eq_false_iff_ne.2 hs2]; simp)
          clear hs2
          go_wp2
          go_quiet ((first | (go_at_call 113; exact qofe (l10Row_any _ _ _ _ _ _ (hrow.drewN _))) | (go_at_call 112; exact qofe (l10Sum_any _ _ _ _ _ (hrow.drewN _)))))
          go_wp2
          go_ret
          exact ⟨ret_bool (planB_noRow (by rw [Ht.out]; exact hlt) HL.out).symm, hf.drewN _⟩
        have hb : (wsum (nthL T j) != nth p j) = false := by simp [hs2]
        have HL : Hid (rowOk p q T j = true) := Lib.hid (by
          rw [beq_nat] at hall
          rw [rowOk, Hr.out, Hq.out, Bool.and_comm (mr == n3), hall, hs2]; simp)
        clear hs2
        go_wp2
        go_quiet ((first | (go_at_call 113; exact qofe (l10Row_any _ _ _ _ _ _ (hrow.drewN _))) | (go_at_call 112; exact qofe (l10Sum_any _ _ _ _ _ (hrow.drewN _)))))
        go_wp2
        go_roundw
        case rel => exact ⟨j + 1, by omega, by go_num, Lib.hid (fun i hi => by by_cases e : i = j; (· subst e; exact HL.out); (· exact hs.out i (by omega))), hf.drewN _⟩
        case measure => simp [intOf]; omega
    · obtain rfl : j = n3 := by omega
      go_wp2
      go_loopw [8] (fun i wi => ∃ k : Nat, k ≤ j ∧ i = .int .i64 k ∧ Hid (∀ i, i < k → colTo T i j = nth q i) ∧ Qt w wi) (fun i _ => j - (intOf i).toNat)
      case atStart => exact ⟨0, Nat.zero_le _, rfl, Lib.hid (fun i hi => by omega), hf⟩
      case round =>
        clear hf
        obtain ⟨k, hk, rfl, hc, hf⟩ := hrel
        by_cases hkt : k < j
        · obtain ⟨wo, rfl⟩ : ∃ wo : World, wo = wr := ⟨_, rfl⟩
          go_wp2
          go_loopw [9, 10] (fun s i wi => ∃ m : Nat, m ≤ j ∧ i = .int .i64 m ∧ s = .int .i64 (colTo T k m) ∧ Qt w wi) (fun _ i _ => j - (intOf i).toNat)
          case atStart => exact ⟨0, Nat.zero_le _, rfl, rfl, hf⟩
          case round =>
            clear hf
            obtain ⟨m, hm, rfl, rfl, hf⟩ := hrel
            by_cases hmt : m < j
            · obtain ⟨b3, o3, rfl, hc3⟩ := (ht.qt hf).rows.resolve_left (by omega)
              obtain ⟨pr, mr, cr, hcell, hrow⟩ := hc3 m hmt
              clear hc3
              have Hr := Lib.hid hrow.len
              have hmr : mr = j := by rw [← Hr.out, (rowOk_iff.1 (hs.out m hmt)).1, Hq.out]
              subst hmr
              obtain ⟨br, orr, rfl, hcr⟩ := hrow.cells.resolve_left (by omega)
              have hcr := hcr k hkt
              have hb1 := colTo_bd (t := T) (k := k) (j := mr) (M := 40) (by omega) (fun i hi => rows_cell hs.out i k hi) m hm
              have hb2 := rows_cell hs.out m k hmt
              unfold cellT at hb2
              go_wp2
              go_roundw
              case rel => exact ⟨m + 1, by omega, by go_num, rfl, hf⟩
              case measure => simp [intOf]; omega
            · obtain rfl : m = j := by omega
              obtain ⟨bq, oq, rfl, hcq⟩ := (hq.qt hf).cells.resolve_left (by omega)
              have hcq := hcq k hkt
              by_cases he : colTo T k m = nth q k
              · have HE := Lib.hid he
                have hb : (colTo T k m != nth q k) = false := by simp [he]
                clear he
                go_wp2
                go_roundw
                case rel => exact ⟨k + 1, by omega, by go_num, Lib.hid (fun i hi => by by_cases e : i = k; (· subst e; exact HE.out); (· exact hc.out i (by omega))), hf⟩
                case measure => simp [intOf]; omega
              · have HE := Lib.hid he
                have hb : (colTo T k m != nth q k) = true := by simp [he]
                clear he
                go_wp2
                go_ret
                exact ⟨ret_bool (planB_noCol (by rw [Hq.out]; exact hkt) (by rw [Ht.out]; exact HE.out)).symm, hf⟩
        · obtain rfl : k = j := by omega
          go_wp2
          go_ret
          exact ⟨ret_bool (planB_iff.2 ⟨by rw [Ht.out, Hp.out], by rw [Ht.out]; exact hs.out, by rw [Ht.out, Hq.out]; exact hc.out⟩).symm, hf⟩

end Go.Proofs.Ytboekndojgbkfaa
