import Derived.Test.YtboekndojgbkfaaLeastM
import Derived.Test.YtboekndojgbkfaaFill4
import Derived.Deep.DeepCutAuto
import Derived.Deep.CutRange
/- The walk of the reference's shortest reckoning. -/
set_option linter.unusedVariables false
namespace Go.Proofs.Ytboekndojgbkfaa
open Go.ChangeShapes Go.WideShapes Go.ChangeAt Go.RowKit
abbrev farS : Int := 1099511627776
/-- Two lists of the call's own. -/
structure Two (w : World) (g1 g2 N : Nat) (d b : Nat → Int) (wr : World) : Prop where
  o1 : Own w.heap.size wr (some ⟨g1, 0, none⟩) N N (lst N d)
  o2 : Own w.heap.size wr (some ⟨g2, 0, none⟩) N N (lst N b)
  f : Fr w wr
  ne : g1 ≠ g2
section
variable {w wr w' : World} {g1 g2 N i : Nat} {d b d' b' : Nat → Int}
theorem Two.ge1 (h : Two w g1 g2 N d b wr) (hi : i < N) : w.heap.size ≤ g1 := by
  obtain ⟨g, hg, hB, _⟩ := h.o1.op (by omega)
  injection hg with hg; injection hg with hg; subst hg; exact hB
theorem Two.ge2 (h : Two w g1 g2 N d b wr) (hi : i < N) : w.heap.size ≤ g2 := by
  obtain ⟨g, hg, hB, _⟩ := h.o2.op (by omega)
  injection hg with hg; injection hg with hg; subst hg; exact hB
theorem Two.c1 (h : Two w g1 g2 N d b wr) (hi : i < N) : wr.cell? ⟨g1, i, none⟩ = some (.int .i64 (d i)) := by
  have := h.o1.cellAt rfl hi; rwa [lst_nth _ hi] at this
theorem Two.c2 (h : Two w g1 g2 N d b wr) (hi : i < N) : wr.cell? ⟨g2, i, none⟩ = some (.int .i64 (b i)) := by
  have := h.o2.cellAt rfl hi; rwa [lst_nth _ hi] at this
theorem Two.fr (h : Two w g1 g2 N d b wr) (k : Fr wr w') : Two w g1 g2 N d b w' := ⟨h.o1.fr k, h.o2.fr k, h.f.trans k, h.ne⟩
theorem Two.drew (h : Two w g1 g2 N d b wr) : Two w g1 g2 N d b wr.drew := h.fr (Fr.drewN _ 1)
theorem Two.alter (h : Two w g1 g2 N d b wr) (hd : ∀ i, i < N → d i = d' i) (hb : ∀ i, i < N → b i = b' i) : Two w g1 g2 N d' b' wr := by
  obtain ⟨h1, h2, h3, h4⟩ := h
  rw [lst_congr hd] at h1; rw [lst_congr hb] at h2
  exact ⟨h1, h2, h3, h4⟩
theorem Two.set1 (h : Two w g1 g2 N d b wr) (hi : i < N) {v : Int} (hv : I64 v) : Two w g1 g2 N (updI d i v) b (wr.setCell ⟨g1, i, none⟩ (.int .i64 v)) := by
  refine ⟨?_, h.o2.setOther (p := ⟨g1, i, none⟩) (fun e => h.ne (by injection e with e; exact e.symm)) _, h.f.setCell (p := ⟨g1, i, none⟩) (h.ge1 hi) _, h.ne⟩
  rw [← lst_set]; exact h.o1.set rfl hi hv
theorem Two.set2 (h : Two w g1 g2 N d b wr) (hi : i < N) {v : Int} (hv : I64 v) : Two w g1 g2 N d (updI b i v) (wr.setCell ⟨g2, i, none⟩ (.int .i64 v)) := by
  refine ⟨h.o1.setOther (p := ⟨g2, i, none⟩) (fun e => h.ne (by injection e with e)) _, ?_, h.f.setCell (p := ⟨g2, i, none⟩) (h.ge2 hi) _, h.ne⟩
  rw [← lst_set]; exact h.o2.set rfl hi hv
end
set_option maxRecDepth 100000 in
set_option maxHeartbeats 1000000 in
theorem l10Shift_any (w : World) (t a c : Option Addr) (n ct ca cc : Nat) (X : Nat → Nat → Int) (h : Nat → Int) (T : List (List Int)) (hn : 1 ≤ n ∧ n ≤ 8) (ht : SS w t n ct (tab n X)) (ha : SL w a n ca (lst n h)) (hc : SS w c n cc T)
    (hTl : ∀ i, i < n → (nthL T i).length = n) (hT : ∀ i k, 0 ≤ cellT T i k ∧ cellT T i k ≤ 99)
    (hlow : ∀ s, Steps farS (Arc n (cellT T) X) (2 * n) (startBF farS n h) s → ∀ y, y < 2 * n → -1000000000000000 ≤ s.d y ∧ s.d y ≤ 1099511627776) :
    Calls Try.prog 114 #[.slice t n ct, .slice a n ca, .slice c n cc] w fun e w' => ∃ (p q : Option Addr) (cp cq : Nat), e = .returned (.tuple #[.slice p (2 * n) cp, .slice q (2 * n) cq]) ∧
      Own w.heap.size w' p (2 * n) cp (lst (2 * n) (itR farS n (cellT T) X (startBF farS n h) (2 * n)).d) ∧ Own w.heap.size w' q (2 * n) cq (lst (2 * n) (itR farS n (cellT T) X (startBF farS n h) (2 * n)).b) ∧ Fr w w' := by
  have HT := Lib.hid hT; have HL := Lib.hid hTl; have HS := Lib.hid hlow
  have St := Lib.hid ht; have Sa := Lib.hid ha; have Sc := Lib.hid hc
  clear hT hTl hlow
  obtain ⟨N, hN⟩ : ∃ N, N = 2 * n := ⟨_, rfl⟩
  rw [← hN] at HS ⊢
  obtain ⟨bc, oc, rfl, rc⟩ := hc.rows.resolve_left (by omega)
  obtain ⟨p0, m0, c0, k0, s0⟩ := rc 0 (by omega)
  obtain rfl : m0 = n := by rw [← s0.len]; exact HL.out 0 (by omega)
  clear rc s0
  replace k0 : w.cell? ⟨bc, oc, none⟩ = some (.slice p0 m0 c0) := k0
  have h0 : 0 < m0 := by omega
  have hmk := run_make_row' 22 3 (.int .i64 0) 8 Try.underlying22 infoInt rfl .i64 .i64 N (by omega) (by omega)
  have hw1 : IntKind.i64.wrap ((m0 : Int) + (m0 : Int)) = (N : Int) := by rw [IntWalk.i64_in _ (by omega)]; omega
  have HN := Lib.hid hN
  have hn8 : N ≤ 16 := by omega
  clear hN
  go_enter Try.func114, Try.ntmps114
  go_upto_region 2 with fail
  go_region
  go_wp2
  go_cut [10, 11] from 24 to 31 (fun x y wx => ∃ g1 g2 : Nat, g1 ≠ g2 ∧ x = .slice (some ⟨g1, 0, none⟩) N N ∧ y = .slice (some ⟨g2, 0, none⟩) N N ∧ Own w.heap.size wx (some ⟨g1, 0, none⟩) N N (lst N fun _ => 0) ∧ Own w.heap.size wx (some ⟨g2, 0, none⟩) N N (lst N fun _ => 0) ∧ Fr w wx)
  case first =>
    have o1 := Own.made (B := w.heap.size) w N (Nat.le_refl _) (by unfold maxLen; omega)
    have o2 := Own.made (B := w.heap.size) (w.alloc (.cells (madeCells #[.int .i64 0] N) 3)) N (by simp) (by unfold maxLen; omega)
    have f1 := (Fr.refl w).alloc (.cells (madeCells #[.int .i64 0] N) 3)
    have f2 := (Fr.refl (w.alloc (.cells (madeCells #[.int .i64 0] N) 3))).alloc (.cells (madeCells #[.int .i64 0] N) 3)
    rw [lst_rep] at o1 o2
    have o3 := Lib.hid ((o1.fr f2).fr (Fr.drewN _ 2))
    have o4 := Lib.hid (o2.fr (Fr.drewN _ 2))
    have f3 := Lib.hid ((f1.trans f2).trans (Fr.drewN _ 2))
    have hz : (w.alloc (.cells (madeCells #[.int .i64 0] N) 3)).heap.size = w.heap.size + 1 := by simp
    rw [hz] at o4
    clear o1 o2 f1 f2 hz
    go_region
    all_goals
      go_wp2
      go_meet
      first
        | exact ⟨_, _, by omega, rfl, rfl, o3.out, o4.out, f3.out⟩
        | exact ⟨_, _, by omega, rfl, rfl, o4.out, o3.out, f3.out⟩
  case rest =>
    obtain ⟨g1, g2, hne, rfl, rfl, o1, o2, f⟩ := hcut
    obtain ⟨w2, rfl⟩ : ∃ wz : World, wz = wc := ⟨_, rfl⟩
    clear k0 hmk ht ha hc
    go_wp2
    go_loopw [12] (fun i wr => ∃ j : Nat, j ≤ N ∧ i = .int .i64 j ∧ Two w g1 g2 N (fun y => if y < j then (startBF farS m0 h).d y else 0) (fun y => if y < j then -1 else 0) wr) (fun i _ => N - (intOf i).toNat)
    case atStart => exact ⟨0, Nat.zero_le _, rfl, by simpa using o1, by simpa using o2, f, hne⟩
    case round =>
      clear o1 o2 f
      obtain ⟨j, hj, rfl, O⟩ := hrel
      obtain ⟨wo, rfl⟩ : ∃ wo : World, wo = wr := ⟨_, rfl⟩
      by_cases hlt : j < N
      · have vj0 : (0 : Int) ≤ (j : Int) := by omega
        have vj1 : (j : Int) < (N : Int) := by omega
        have z1 := O.o1.frz j; have z2 := O.o2.frz j
        have k1 := O.c1 hlt; have k2 := O.c2 hlt
        have O1 := O.set1 hlt (v := 1099511627776) (by unfold I64; omega)
        have y2 := O1.o2.frz j; have l2 := O1.c2 hlt
        have O2 := O1.set2 hlt (v := -1) (by unfold I64; omega)
        clear O O1
        go_upto_region 8 with fail
        clear z1 z2 k1 k2 y2 l2
        have z1 := O2.o1.frz j
        have k1 := O2.c1 hlt
        have sd := startBF_d farS m0 h j
        by_cases c1 : (j : Int) < (m0 : Int)
        · obtain ⟨ba, oa, rfl, ha⟩ := (Sa.out.fr O2.f).cells.resolve_left (by omega)
          replace ha := ha j (by omega)
          rw [lst_nth _ (by omega)] at ha
          by_cases c2 : 0 < h j
          · rw [if_pos ⟨by omega, c2⟩] at sd
            have O3 := (O2.set1 hlt (v := 0) (by unfold I64; omega)).alter (d' := fun y => if y < j + 1 then (startBF farS m0 h).d y else 0) (b' := fun y => if y < j + 1 then -1 else 0) (fun y hy => by
              by_cases e : y = j
              · subst e; rw [updI_at, if_pos (by omega), sd]
              · rw [updI_ne _ _ e, updI_ne _ _ e]; by_cases e2 : y < j
                · rw [if_pos e2, if_pos (by omega)]
                · rw [if_neg e2, if_neg (by omega)]) (fun y hy => by
              by_cases e : y = j
              · subst e; rw [updI_at, if_pos (by omega)]
              · rw [updI_ne _ _ e]; by_cases e2 : y < j
                · rw [if_pos e2, if_pos (by omega)]
                · rw [if_neg e2, if_neg (by omega)])
            clear O2
            go_wp2
            go_roundw
            case rel => exact ⟨j + 1, by omega, by go_num, O3⟩
            case measure => simp [intOf]; omega
          · rw [if_neg (fun e => c2 e.2)] at sd
            have O3 := O2.alter (d' := fun y => if y < j + 1 then (startBF farS m0 h).d y else 0) (b' := fun y => if y < j + 1 then -1 else 0) (fun y hy => by
              by_cases e : y = j
              · subst e; rw [updI_at, if_pos (by omega), sd]
              · rw [updI_ne _ _ e]; by_cases e2 : y < j
                · rw [if_pos e2, if_pos (by omega)]
                · rw [if_neg e2, if_neg (by omega)]) (fun y hy => by
              by_cases e : y = j
              · subst e; rw [updI_at, if_pos (by omega)]
              · rw [updI_ne _ _ e]; by_cases e2 : y < j
                · rw [if_pos e2, if_pos (by omega)]
                · rw [if_neg e2, if_neg (by omega)])
            clear O2
            go_wp2
            go_roundw
            case rel => exact ⟨j + 1, by omega, by go_num, O3⟩
            case measure => simp [intOf]; omega
        · rw [if_neg (fun e => c1 (by omega))] at sd
          have O3 := O2.alter (d' := fun y => if y < j + 1 then (startBF farS m0 h).d y else 0) (b' := fun y => if y < j + 1 then -1 else 0) (fun y hy => by
              by_cases e : y = j
              · subst e; rw [updI_at, if_pos (by omega), sd]
              · rw [updI_ne _ _ e]; by_cases e2 : y < j
                · rw [if_pos e2, if_pos (by omega)]
                · rw [if_neg e2, if_neg (by omega)]) (fun y hy => by
              by_cases e : y = j
              · subst e; rw [updI_at, if_pos (by omega)]
              · rw [updI_ne _ _ e]; by_cases e2 : y < j
                · rw [if_pos e2, if_pos (by omega)]
                · rw [if_neg e2, if_neg (by omega)])
          clear O2
          go_wp2
          go_roundw
          case rel => exact ⟨j + 1, by omega, by go_num, O3⟩
          case measure => simp [intOf]; omega
      · obtain rfl : j = N := by omega
        have O1 := O.alter (d' := (itR farS m0 (cellT T) X (startBF farS m0 h) 0).d) (b' := (itR farS m0 (cellT T) X (startBF farS m0 h) 0).b) (fun y hy => by rw [if_pos hy]; rfl) (fun y hy => by rw [if_pos hy]; rfl)
        clear O
        go_wp2
        go_loopw [13] (fun i wr => ∃ r : Nat, r ≤ j ∧ i = .int .i64 r ∧ Two w g1 g2 j (itR farS m0 (cellT T) X (startBF farS m0 h) r).d (itR farS m0 (cellT T) X (startBF farS m0 h) r).b wr) (fun i _ => j - (intOf i).toNat)
        case atStart => exact ⟨0, Nat.zero_le _, rfl, O1⟩
        case round =>
          clear O1
          obtain ⟨r, hr, rfl, O⟩ := hrel
          obtain ⟨wr, rfl⟩ : ∃ wo : World, wo = wr := ⟨_, rfl⟩
          by_cases hrt : r < j
          · have vr1 : (r : Int) < (j : Int) := by omega
            have HR : Hid (Steps farS (Arc m0 (cellT T) X) j (startBF farS m0 h) (itR farS m0 (cellT T) X (startBF farS m0 h) r)) := Lib.hid (by
              have := itR_steps (F := farS) (n := m0) (C := cellT T) (X := X) (startBF farS m0 h) (Nat.zero_le r)
              rw [HN.out]; exact this)
            have HE : Hid (itR farS m0 (cellT T) X (startBF farS m0 h) (r + 1) = rndTo farS m0 (cellT T) X (itR farS m0 (cellT T) X (startBF farS m0 h) r) m0) := Lib.hid rfl
            generalize itR farS m0 (cellT T) X (startBF farS m0 h) r = s0 at O HR HE
            go_wp2
            go_loopw [14] (fun i wr => ∃ i' : Nat, i' ≤ m0 ∧ i = .int .i64 i' ∧ Two w g1 g2 j (rndTo farS m0 (cellT T) X s0 i').d (rndTo farS m0 (cellT T) X s0 i').b wr) (fun i _ => m0 - (intOf i).toNat)
            case atStart => exact ⟨0, Nat.zero_le _, rfl, O⟩
            case round =>
              clear O
              obtain ⟨i, hi, rfl, O⟩ := hrel
              obtain ⟨wi, rfl⟩ : ∃ wo : World, wo = wr := ⟨_, rfl⟩
              by_cases hit : i < m0
              · have vi0 : (0 : Int) ≤ (i : Int) := by omega
                have vi1 : (i : Int) < (m0 : Int) := by omega
                go_wp2
                go_loopw [15] (fun i2 wr => ∃ k : Nat, k ≤ m0 ∧ i2 = .int .i64 k ∧ Two w g1 g2 j (rowTo farS m0 (cellT T) X i (rndTo farS m0 (cellT T) X s0 i) k).d (rowTo farS m0 (cellT T) X i (rndTo farS m0 (cellT T) X s0 i) k).b wr) (fun i _ => m0 - (intOf i).toNat)
                case atStart => exact ⟨0, Nat.zero_le _, rfl, O⟩
                case round =>
                  clear O
                  obtain ⟨k, hk, rfl, O⟩ := hrel
                  obtain ⟨wk, rfl⟩ : ∃ wo : World, wo = wr := ⟨_, rfl⟩
                  by_cases hkt : k < m0
                  · have vk0 : (0 : Int) ≤ (k : Int) := by omega
                    have vk1 : (k : Int) < (m0 : Int) := by omega
                    obtain ⟨K, hK⟩ : ∃ K, K = m0 + k := ⟨_, rfl⟩
                    have hN := HN.out
                    have lK : K < j := by omega
                    have li : i < j := by omega
                    have vK0 : (0 : Int) ≤ (K : Int) := by omega
                    have vK1 : (K : Int) < (j : Int) := by omega
                    have vij : (i : Int) < (j : Int) := by omega
                    have wK : IntKind.i64.wrap ((m0 : Int) + (k : Int)) = (K : Int) := by rw [IntWalk.i64_in _ (by omega)]; omega
                    have HStp : Hid (Steps farS (Arc m0 (cellT T) X) j (startBF farS m0 h) (rowTo farS m0 (cellT T) X i (rndTo farS m0 (cellT T) X s0 i) k)) := Lib.hid (HR.out.trans (by rw [hN]; exact at_steps s0 hit hk))
                    have HN1 : Hid (rowTo farS m0 (cellT T) X i (rndTo farS m0 (cellT T) X s0 i) (k + 1) = relP farS m0 (cellT T) X i k (rowTo farS m0 (cellT T) X i (rndTo farS m0 (cellT T) X s0 i) k)) := Lib.hid rfl
                    generalize rowTo farS m0 (cellT T) X i (rndTo farS m0 (cellT T) X s0 i) k = s at O HStp HN1
                    have HSt1 : Hid (Steps farS (Arc m0 (cellT T) X) j (startBF farS m0 h) (rlx farS (cellT T i k) i K s)) := Lib.hid (HStp.out.tail li lK (.inl ⟨i, k, hit, hkt, rfl, hK, rfl⟩))
                    rw [relP, ← hK] at HN1
                    have HK := Lib.hid hK
                    have hb1 := HS.out s HStp.out i li
                    have hb2 := HS.out s HStp.out K lK
                    have hcb := HT.out i k
                    clear hK hN
                    obtain ⟨bt, ot, rfl, rt⟩ := (St.out.fr O.f).rows.resolve_left (by omega)
                    obtain ⟨bc1, oc1, ec, rcC⟩ := (Sc.out.fr O.f).rows.resolve_left (by omega)
                    injection ec with ec; injection ec with ec1 ec2; subst ec1; subst ec2
                    obtain ⟨pc, mc, cc2, kc, sc⟩ := rcC i hit
                    obtain rfl : mc = m0 := by rw [← sc.len]; exact HL.out i hit
                    obtain ⟨bd, od, rfl, hd⟩ := sc.cells.resolve_left (by omega)
                    replace hd : wk.cell? ⟨bd, od + k, none⟩ = some (.int .i64 (cellT T i k)) := hd k hkt
                    have k1 := O.c1 li
                    have e1 : IntKind.i64.wrap (s.d i + cellT T i k) = s.d i + cellT T i k := IntWalk.i64_in _ (by omega)
                    have O1 := O.drew
                    clear rt rcC sc
                    go_upto_region 19 with fail
                    go_region
                    go_upto_region 20 with fail
                    clear O k1 kc hd
                    obtain ⟨w3, hw3⟩ : ∃ w3, w3 = wk.drew := ⟨_, rfl⟩
                    rw [← hw3] at O1 ⊢
                    clear hw3
                    go_cut [101] from 87 to 101 (fun b wx => ∃ bb : Bool, b = .bool bb ∧ (bb = true ↔ (s.d i < 1099511627776 ∧ s.d i + cellT T i k < s.d K)) ∧ wx = w3)
                    case first =>
                      have k1 := O1.c1 li; have k2 := O1.c1 lK
                      by_cases c1 : s.d i < 1099511627776
                      · by_cases c2 : s.d i + cellT T i k < s.d K
                        · go_wp2_with fail; go_meet; exact ⟨true, rfl, ⟨fun _ => ⟨c1, c2⟩, fun _ => rfl⟩, rfl⟩
                        · go_wp2_with fail; go_meet; exact ⟨false, rfl, ⟨fun e => (by cases e), fun e => absurd e.2 (by omega)⟩, rfl⟩
                      · go_wp2_with fail; go_meet; exact ⟨false, rfl, ⟨fun e => (by cases e), fun e => absurd e.1 (by omega)⟩, rfl⟩
                    case rest =>
                      obtain ⟨bb, rfl, hbb, rfl⟩ := hcut
                      go_upto_if 101 with fail
                      go_cut [] from 102 to 113 (fun wx => Two w g1 g2 j (rlx farS (cellT T i k) i K s).d (rlx farS (cellT T i k) i K s).b wx)
                      case first =>
                        cases bb
                        · have O4 : Two w g1 g2 j (rlx farS (cellT T i k) i K s).d (rlx farS (cellT T i k) i K s).b wc := by
                            rw [show rlx farS (cellT T i k) i K s = s from if_neg (fun e => by have := hbb.2 e; cases this)]; exact O1
                          clear O1
                          go_wp2_with fail; go_meet; exact O4
                        · obtain ⟨c1, c2⟩ := hbb.1 rfl
                          have z1 := O1.o1.frz K; have z2 := O1.o2.frz K; have y2 := O1.c2 lK; have k2 := O1.c1 lK
                          have O2 := O1.set1 lK (v := s.d i + cellT T i k) (by unfold I64; omega)
                          have l2 := O2.c2 lK; have x2 := O2.o2.frz K
                          have O3 := O2.set2 lK (v := (i : Int)) (by unfold I64; omega)
                          have O4 : Two w g1 g2 j (rlx farS (cellT T i k) i K s).d (rlx farS (cellT T i k) i K s).b ((wc.setCell ⟨g1, K, none⟩ (.int .i64 (s.d i + cellT T i k))).setCell ⟨g2, K, none⟩ (.int .i64 (i : Int))) := by rw [rlx_yes (F := farS) c1 c2]; exact O3
                          clear O1 O2 O3
                          go_wp2_with fail; go_meet; exact O4
                      case rest =>
                        clear O1 hb1 hb2 e1 hbb
                        obtain ⟨w4, rfl⟩ : ∃ wz : World, wz = wc := ⟨_, rfl⟩
                        generalize rlx farS (cellT T i k) i K s = s1 at hcut HSt1 HN1
                        have hb1 := HS.out s1 HSt1.out i li
                        have hb2 := HS.out s1 HSt1.out K lK
                        obtain ⟨bt1, ot1, et, rt⟩ := (St.out.fr hcut.f).rows.resolve_left (by omega)
                        injection et with et; injection et with et1 et2; subst et1; subst et2
                        obtain ⟨bc1, oc1, ec, rcC⟩ := (Sc.out.fr hcut.f).rows.resolve_left (by omega)
                        injection ec with ec; injection ec with ec1 ec2; subst ec1; subst ec2
                        obtain ⟨pc, mc2, cc2, kc, sc⟩ := rcC i hit
                        obtain rfl : mc2 = mc := by rw [← sc.len]; exact HL.out i hit
                        obtain ⟨bd, od, rfl, hd⟩ := sc.cells.resolve_left (by omega)
                        replace hd : w4.cell? ⟨bd, od + k, none⟩ = some (.int .i64 (cellT T i k)) := hd k hkt
                        have k2 := hcut.c1 lK
                        have e1 : IntKind.i64.wrap (s1.d K - cellT T i k) = s1.d K - cellT T i k := IntWalk.i64_in _ (by omega)
                        have O1 := hcut.drew
                        clear rt rcC sc
                        go_upto_region 23 with fail
                        go_region
                        go_upto_region 24 with fail
                        clear hcut k2 kc hd
                        obtain ⟨w3, hw3⟩ : ∃ w3, w3 = w4.drew := ⟨_, rfl⟩
                        rw [← hw3] at O1 ⊢
                        clear hw3
                        obtain ⟨bt1, ot1, et, rt⟩ := (St.out.fr O1.f).rows.resolve_left (by omega)
                        injection et with et; injection et with et1 et2; subst et1; subst et2
                        obtain ⟨pt, mt, ct2, kt, st⟩ := rt i hit
                        rw [tab_row X hit] at st
                        obtain rfl : mt = mc2 := by rw [← st.len, lst_len]
                        obtain ⟨bd, od, rfl, hd⟩ := st.cells.resolve_left (by omega)
                        replace hd := hd k hkt
                        rw [lst_nth _ hkt] at hd
                        clear rt st
                        have k1 := O1.c1 li; have k2 := O1.c1 lK
                        by_cases c0 : 0 < X i k
                        · rw [if_pos c0] at HN1
                          by_cases c1 : s1.d K < 1099511627776
                          · by_cases c2 : s1.d K - cellT T i k < s1.d i
                            · have z1 := O1.o1.frz i; have z2 := O1.o2.frz i; have y2 := O1.c2 li
                              have O2 := O1.set1 li (v := s1.d K - cellT T i k) (by unfold I64; omega)
                              have l2 := O2.c2 li; have x2 := O2.o2.frz i
                              have O3 := O2.set2 li (v := (K : Int)) (by unfold I64; omega)
                              have eq := HN1.out
                              rw [rlx_yes c1 (by omega)] at eq
                              have O4 := O3.alter (d' := (rowTo farS mt (cellT T) X i (rndTo farS mt (cellT T) X s0 i) (k + 1)).d) (b' := (rowTo farS mt (cellT T) X i (rndTo farS mt (cellT T) X s0 i) (k + 1)).b) (fun y hy => by rw [eq]; rfl) (fun y hy => by rw [eq])
                              clear O1 O2 O3 eq
                              go_wp2
                              go_roundw
                              case rel => exact ⟨k + 1, by omega, by go_num, O4⟩
                              case measure => simp [intOf]; omega
                            · have eq := HN1.out
                              rw [rlx_no2 (by omega)] at eq
                              rw [← eq] at O1
                              clear eq
                              go_wp2
                              go_roundw
                              case rel => exact ⟨k + 1, by omega, by go_num, O1⟩
                              case measure => simp [intOf]; omega
                          · have eq := HN1.out
                            rw [rlx_no1 c1] at eq
                            rw [← eq] at O1
                            clear eq
                            go_wp2
                            go_roundw
                            case rel => exact ⟨k + 1, by omega, by go_num, O1⟩
                            case measure => simp [intOf]; omega
                        · rw [if_neg c0] at HN1
                          have eq := HN1.out
                          rw [← eq] at O1
                          clear eq
                          go_wp2
                          go_roundw
                          case rel => exact ⟨k + 1, by omega, by go_num, O1⟩
                          case measure => simp [intOf]; omega
                  · obtain rfl : k = m0 := by omega
                    go_wp2
                    go_roundw
                    case rel => exact ⟨i + 1, by omega, by go_num, O⟩
                    case measure => simp [intOf]; omega
              · obtain rfl : i = m0 := by omega
                go_wp2
                go_roundw
                case rel => exact ⟨r + 1, by omega, by go_num, by rw [HE.out]; exact O⟩
                case measure => simp [intOf]; omega
          · obtain rfl : r = j := by omega
            go_wp2
            go_ret2
            exact ⟨_, _, _, _, rfl, O.o1, O.o2, O.f⟩
end Go.Proofs.Ytboekndojgbkfaa
