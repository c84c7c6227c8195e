import Derived.Test.YtojipjjfndgbhaaCapM
import Derived.Test.YtojipjjfndgbhaaPrice2
import Derived.Lib.SliceRun
/- Contracts of worth, EnvelopeOf, HouseValue. -/
set_option linter.unusedVariables false
namespace Go.Proofs.Ytojipjjfndgbhaa
open Go.ChangeShapes Go.WideShapes Go.ChangeAt Go.RowKit

theorem zero_int (w : World) : (zeroValue 3).run Try.prog w = .ok (.int .i64 0) w := by kernel_rfl
theorem Own.clearsAt {B n cap g : Nat} : ∀ (m o : Nat) (xs : List Int) (w : World), Own B w (some ⟨g, 0, none⟩) n cap xs → o + m = n → (∀ i, i < o → nth xs i = 0) →
    Own B (w.setCells g o (List.replicate m (.int .i64 0))) (some ⟨g, 0, none⟩) n cap (List.replicate n 0) ∧ w.grownBy (w.setCells g o (List.replicate m (.int .i64 0))) (some g) := by
  intro m
  induction m with
  | zero =>
    intro o xs w h ho hz
    refine ⟨?_, grownBy_refl _ _⟩
    have hl := h.len
    have e : xs = List.replicate n 0 := by
      apply List.ext_getElem
      · simpa using hl
      · intro i h1 h2
        have := hz i (by omega)
        rw [nth_eq h1] at this
        simpa using this
    rw [← e]; exact h
  | succ m ih =>
    intro o xs w h ho hz
    have hl := h.len
    rw [List.replicate_succ, World.setCells]
    have h2 := h.set (i := o) rfl (by omega) (v := 0) (by unfold I64; omega)
    obtain ⟨k1, k2⟩ := ih (o + 1) _ _ h2 (by omega) (fun i hi => by
      by_cases e : o = i
      · subst e; rw [nth_set_same (by omega)]
      · rw [nth_set_ne e]; exact hz i (by omega))
    exact ⟨k1, grownBy_trans (grownBy_setCell (grownBy_refl w (some g)) rfl _) k2⟩
theorem Own.clears {B n cap : Nat} {w : World} {a : Option Addr} {xs : List Int} (h : Own B w a n cap xs) (hn : 0 < n) :
    ∃ w', (∀ ty, (Builtin.clear_ #[22] ty #[.slice a n cap]).run Try.prog w = .ok (.tuple #[]) w') ∧ Own B w' a n cap (List.replicate n 0) ∧ w.grownBy w' (blkOf a) := by
  obtain ⟨g, rfl, hB, hlt, hc, hf⟩ := h.op hn
  obtain ⟨k1, k2⟩ := Own.clearsAt n 0 xs w h (by omega) (fun i hi => by omega)
  refine ⟨_, fun ty => Lib.run_clear_slice w _ _ ty (.int .i64 0) Try.underlying22 zero_int rfl rfl g 0 n cap hn (fun j hj => by rw [Nat.zero_add, hc j hj]; rfl) (fun j hj => hf _), k1, k2⟩

set_option maxRecDepth 100000 in
set_option maxHeartbeats 2000000 in
theorem worth_any (w : World) (p q a : Option Addr) (n c m d l b : Nat) (P W X : List Int) (hP : SL w p n c P) (hW : SL w q m d W) (hX : SL w a l b X) (ht : treeB P W = true) (hl : l = n) (hv : ∀ i, -999 ≤ nth X i ∧ nth X i ≤ 999) :
    Calls Try.prog 124 #[.agg #[.slice p n c, .slice q m d], .slice a l b, .int .i64 (-1)] w fun e w' => ∃ a1 n1 c1 a2 n2 c2, e = .returned (.tuple #[.slice a1 n1 c1, .slice a2 n2 c2]) ∧ Own w.heap.size w' a1 n1 c1 (capM P W X) ∧ Fr w w' ∧ n1 ≤ 1048576 := by
  subst hl
  have HP := Lib.hid hP.len
  have HX := Lib.hid hX.len
  have Hv := Lib.hid hv
  have Ht := Lib.hid ht
  obtain ⟨t1, t2, t3, t4⟩ := treeB_iff.1 ht
  have Hp := Lib.hid t3
  rw [HP.out] at t1
  clear ht hv t2 t3 t4
  have hfr : Fr w (w.alloc (.cells #[.slice p l c, .slice q m d] 29)) := (Fr.refl w).alloc _
  have hb0 := Blk.new w #[.slice p l c, .slice q m d] 29
  have H0 := Lib.hid hb0
  clear hb0
  have hs0 : (w.alloc (.cells #[.slice p l c, .slice q m d] 29)).heap.size = w.heap.size + 1 := World.size_alloc _ _
  have hP1 := hP.fr hfr
  have hW1 := hW.fr hfr
  have hX1 := hX.fr hfr
  go_enter Try.func124, Try.ntmps124
  go_wp2
  generalize hw1 : w.alloc (.cells #[.slice p l c, .slice q m d] 29) = w1 at hfr H0 hs0 hP1 hW1 hX1 ⊢
  clear hw1
  have hs0' := Lib.hid hs0
  have c0 := H0.out.cell (j := 0) rfl
  have c1 := H0.out.cell (j := 1) rfl
  go_region_held3 (fun w' => w'.cell? ⟨w.heap.size, 0, none⟩ = some (.slice p l c) ∧ w'.cell? ⟨w.heap.size, 1, none⟩ = some (.slice q m d))
    (first
      | go_keep
      | (exact ⟨(H0.out.fr F3).cell rfl, (H0.out.fr F3).cell rfl⟩)
      | (exact ⟨(H0.out.fr F2).cell rfl, (H0.out.fr F2).cell rfl⟩))
    (first
      | (go_at_call 91; refine (sums_any _ _ _ _ _ _ _ _ _ (hP1.fr (Fr.drewN _ 1)) (hW1.fr (Fr.drewN _ 1)) Ht.out).mono ?_; rintro e w2 ⟨a2, n2, c2, rfl, o2, f2, m2⟩; have F2 : Fr w1 w2 := (Fr.drewN _ 1).trans f2)
      | (go_at_call 112; refine (isEnd_any _ _ _ _ _ _ _ _ (hP1.fr F2) Hp.out (by omega)).mono ?_; rintro e w3 ⟨a3, n3, c3, rfl, o3, f3, m3⟩; have F3 : Fr w1 w3 := F2.trans f3))
  clear c0 c1
  have N2 : n2 = l := by rw [← o2.len, gathM, gathTo_len, (treeB_iff.1 Ht.out).2.1, HP.out]
  have N3 : n3 = l := by rw [← o3.len, endsAt_len, HP.out]
  subst N2
  subst N3
  have y2 := o2.within
  have y3 := o3.within
  have z2 := F2.size
  have z3 := f3.size
  have o2' := (o2.mono (B' := w1.heap.size) (by first | simp | exact Nat.le_refl _)).fr f3
  go_wp2_with fail
  go_cut [10, 11] (fun sa so wx => ∃ (g h : Nat), sa = .slice (some ⟨g, 0, none⟩) n3 n3 ∧ so = .slice (some ⟨h, 0, none⟩) n3 n3 ∧ w3.heap.size ≤ g ∧ w3.heap.size ≤ h ∧ g ≠ h ∧ 
    Own w3.heap.size wx (some ⟨g, 0, none⟩) n3 n3 (List.replicate n3 0) ∧ Own w3.heap.size wx (some ⟨h, 0, none⟩) n3 n3 (List.replicate n3 0) ∧ Fr w3 wx)
  case first =>
    obtain ⟨t11, t12⟩ := t1
    have hmk := fun w => run_make_row' 22 3 (.int .i64 0) 8 Try.underlying22 infoInt rfl .i64 .i64 n3 (by omega) (by omega) w
    go_region
    all_goals
      go_wp2_with fail
      go_meet
    · refine ⟨_, _, rfl, rfl, ?_, ?_, ?_, ?_, ?_, (((Fr.refl w3).drew' 1).alloc _).alloc _⟩
      iterate 3 simp
      all_goals refine Own.fr ?_ (((Fr.refl _).drew' 1))
      all_goals first
        | exact Own.made _ n3 (Nat.le_refl _) (by unfold maxLen; omega)
        | (have hh := Own.made (B := w3.heap.size) (w3.alloc (.cells (madeCells #[.int .i64 0] n3) 3)) n3 (by simp) (by unfold maxLen; omega); rw [World.size_alloc] at hh; exact hh)
        | (refine Own.fr (w := World.alloc _ _) ?_ ((Fr.refl _).alloc _); refine Own.made _ n3 ?_ (by unfold maxLen; omega); first | exact Nat.le_refl _ | simp)
    · refine ⟨_, _, rfl, rfl, ?_, ?_, ?_, ?_, ?_, (((Fr.refl w3).drew' 1).alloc _).alloc _⟩
      iterate 3 simp
      all_goals refine Own.fr ?_ (((Fr.refl _).drew' 1))
      all_goals first
        | exact Own.made _ n3 (Nat.le_refl _) (by unfold maxLen; omega)
        | (have hh := Own.made (B := w3.heap.size) (w3.alloc (.cells (madeCells #[.int .i64 0] n3) 3)) n3 (by simp) (by unfold maxLen; omega); rw [World.size_alloc] at hh; exact hh)
        | (refine Own.fr (w := World.alloc _ _) ?_ ((Fr.refl _).alloc _); refine Own.made _ n3 ?_ (by unfold maxLen; omega); first | exact Nat.le_refl _ | simp)
  case rest =>
    obtain ⟨g, h, rfl, rfl, hg, hh, hgh, oA, oO, hF1⟩ := hcut
    obtain ⟨t11, t12⟩ := t1
    have hmk := fun w => run_make_row' 22 3 (.int .i64 0) 8 Try.underlying22 infoInt rfl .i64 .i64 n3 (by omega) (by omega) w
    obtain ⟨gs, rfl, hs1, hs2, hsc, -⟩ := o2'.op (by omega)
    obtain ⟨ge, rfl, he1, he2, hec, -⟩ := o3.op (by omega)
    have Hsb := Lib.hid (fun x => sums_le Ht.out x)
    have hXb : Hid (∀ x, ((nth X x).natAbs : Int) ≤ 999) := Lib.hid (fun x => by have := Hv.out x; omega)
    have HPL : Hid (payS P W X = payS P W X ∧ P.length = n3) := Lib.hid ⟨rfl, HP.out⟩
    have hFw := (hfr.trans F3).trans hF1
    have w3s := F3.size
    go_wp2
    go_loopw [28] (fun i wr => ∃ k : Nat, k ≤ n3 ∧ i = .int .i64 k ∧ Own w3.heap.size wr (some ⟨g, 0, none⟩) n3 n3 (preL P (payS P W X) k) ∧ Own w3.heap.size wr (some ⟨h, 0, none⟩) n3 n3 (List.replicate n3 0) ∧ Fr w3 wr) (fun i _ => n3 - (intOf i).toNat)
    case atStart => exact ⟨0, by omega, rfl, by rw [preL_zero, HP.out]; exact oA, oO, hF1⟩
    case round =>
      clear oA oO hF1
      obtain ⟨k, hk, rfl, oA, oO, hF⟩ := hrel
      by_cases hlt : k < n3
      · have cs := hF.keep (hsc k hlt)
        obtain ⟨bx, ox, rfl, hcx⟩ := ((hX1.fr F3).fr hF).cells.resolve_left (by omega)
        replace hcx := hcx k hlt
        obtain ⟨g', hg', hB, hlt2, hcc, hfro⟩ := oA.op (by omega)
        obtain rfl : g' = g := by simpa using hg'.symm
        clear hg'
        have hca := hcc k hlt
        have hfa := hfro k
        clear hcc hfro
        have hpb : -479520 ≤ nth (gathM P W) k * nth X k ∧ nth (gathM P W) k * nth X k ≤ 479520 := cap_small Ht.out Hv.out 0 k (by rw [HP.out]; exact hlt)
        have hS : Hid ((preL P (payS P W X) k).set k (nth (gathM P W) k * nth X k) = preL P (payS P W X) (k + 1)) := Lib.hid preL_set
        have e1 : IntKind.i64.wrap (nth (gathM P W) k * nth X k) = nth (gathM P W) k * nth X k := IntWalk.i64_in _ (by omega)
        have i1 : (0 : Int) ≤ (k : Int) := by omega
        have i2 : (k : Int) < (n3 : Int) := by omega
        go_wp2
        go_region
        clear e1
        go_wp2
        go_roundw
        case rel =>
          refine ⟨k + 1, by omega, by go_num, ?_, ?_, ?_⟩
          · rw [← hS.out]; exact (oA.drewN 1).set rfl hlt (by unfold I64; omega)
          · exact (oO.drewN 1).setOther (by simp [blkOf]; omega) _
          · exact (hF.drew' 1).setCell hB _
        case measure => simp [intOf]; omega
      · obtain rfl : k = n3 := by omega
        have hC0 : Hid (preL P (payS P W X) k = capL P W X 0) := Lib.hid (by rw [← HP.out, preL_all]; rfl)
        rw [hC0.out] at oA
        clear hC0
        obtain ⟨wa, rfl⟩ : ∃ wa : World, wa = wr := ⟨_, rfl⟩
        go_wp2
        go_loopw [10, 47] (fun v i wo => ∃ (r g1 : Nat) (os : List Int), r ≤ 24 ∧ i = .int .i64 r ∧ v = .slice (some ⟨g1, 0, none⟩) k k ∧ g1 ≠ h ∧ Own w3.heap.size wo (some ⟨g1, 0, none⟩) k k (capL P W X r) ∧ Own w3.heap.size wo (some ⟨h, 0, none⟩) k k os ∧ Fr w3 wo) (fun _ i _ => 24 - (intOf i).toNat)
        case atStart => exact ⟨0, g, _, by omega, rfl, rfl, hgh, oA, oO, hF⟩
        case round =>
          clear oA oO hF
          obtain ⟨r, g1, os, hr, rfl, rfl, hg1, oA, oO, hF⟩ := hrel
          by_cases hrt : r < 24
          · obtain ⟨wo, rfl⟩ : ∃ wo : World, wo = wr := ⟨_, rfl⟩
            have hsz := hF.size
            have hhl := (oO.blk h rfl).2
            have hgl := (oA.blk g1 rfl).2
            have fa : Fr wo (wo.alloc (.cells (madeCells #[.int .i64 0] k) 3)) := (Fr.refl wo).alloc _
            obtain ⟨wc, hcl, oO2, gO2⟩ := (oO.fr fa).clears (by omega)
            have oA2 := (oA.fr fa).grown gO2 (.inr (by simpa [blkOf] using hg1))
            have oN2 := (Own.made (B := w3.heap.size) wo k hsz (by unfold maxLen; omega)).grown gO2 (.inr (by simp [blkOf]; omega))
            have hF2 := (hF.trans fa).grown gO2 (fun z hz => by simp only [blkOf, Option.map_some, Option.some.injEq] at hz; omega)
            clear oA oO hF gO2
            have hNh : wo.heap.size ≠ h := by omega
            have hNg : wo.heap.size ≠ g1 := by omega
            have hcb : Hid (∀ y, y < k → -479520 ≤ capI P W X r y ∧ capI P W X r y ≤ 479520) := Lib.hid (fun y hy => cap_small Ht.out Hv.out r y (by rw [HP.out]; exact hy))
            have hkb : Hid (∀ z j, z < k → j + 1 ≤ k → -479520 ≤ kidSum P (capI P W X r) z j ∧ kidSum P (capI P W X r) z j ≤ 479520) := Lib.hid (fun z j hz hj => kid_small (X := X) Ht.out (fun y hy => cap_bd Ht.out Hv.out r y hy) z j (by rw [HP.out]; exact hz) (by rw [HP.out]; exact hj))
            go_wp2
            clear hcl
            go_loopw [14] (fun i wx => ∃ x : Nat, x < k ∧ i = .int .i64 x ∧ Own w3.heap.size wx (some ⟨h, 0, none⟩) k k (kidL P (capI P W X r) (k - 1 - x)) ∧ Own w3.heap.size wx (some ⟨g1, 0, none⟩) k k (capL P W X r) ∧ Own w3.heap.size wx (some ⟨wo.heap.size, 0, none⟩) k k (List.replicate k 0) ∧ Fr w3 wx) (fun i _ => (intOf i).toNat)
            case atStart => exact ⟨k - 1, by omega, congrArg (Value.int .i64) (by omega), by rw [Nat.sub_self, kidL_zero, HP.out]; exact oO2, oA2, oN2, hF2⟩
            case round =>
              clear oO2 oA2 oN2 hF2
              obtain ⟨x, hx, rfl, oO, oA, oN, hF⟩ := hrel
              by_cases h0 : 0 < x
              · have b0 := ((H0.out.fr F3).fr hF).cell (j := 0) rfl
                obtain ⟨bp, op, rfl, hcp⟩ := ((hP1.fr F3).fr hF).cells.resolve_left (by omega)
                replace hcp := hcp x hx
                obtain ⟨y, hy⟩ := Int.eq_ofNat_of_zero_le (by have := (parB_iff.1 Hp.out).2 x (by rw [HP.out]; exact hx) h0; omega : 0 ≤ nth P x)
                have hyx : y < x := by have := (parB_iff.1 Hp.out).2 x (by rw [HP.out]; exact hx) h0; omega
                have HG : Hid ((kidL P (capI P W X r) (k - 1 - x)).set y (kidSum P (capI P W X r) y (k - 1 - x) + capI P W X r x) = kidL P (capI P W X r) (k - 1 - (x - 1))) := Lib.hid (by
                  have e1 : P.length - 1 - (k - 1 - x) = x := by rw [HP.out]; omega
                  have := kidL_step (P := P) (F := capI P W X r) (j := k - 1 - x) (y := y) (by rw [e1]; exact hy) (by rw [HP.out]; omega)
                  rw [e1, kidL_nth (by rw [HP.out]; omega)] at this
                  rw [this]; congr 1; omega)
                rw [hy] at hcp
                clear hy
                obtain ⟨g', hg', hB, hlt2, hcc, hfro⟩ := oO.op (by omega)
                obtain rfl : h = g' := by simpa using hg'
                have hcy := hcc y (by omega)
                rw [kidL_nth (by rw [HP.out]; omega)] at hcy
                replace hfro := hfro y
                clear hcc hg'
                obtain ⟨g'', hg'', hB', hlt3, hcc, -⟩ := oA.op (by omega)
                obtain rfl : g1 = g'' := by simpa using hg''
                have hcx := hcc x hx
                rw [capL_nth (by rw [HP.out]; exact hx)] at hcx
                clear hcc hg''
                have b1 := hcb.out x hx
                have b2 := hkb.out y (k - 1 - x) (by omega) (by omega)
                have i1 : (0 : Int) ≤ (x : Int) := by omega
                have i2 : (x : Int) < (k : Int) := by omega
                have i3 : (0 : Int) ≤ (y : Int) := by omega
                have i4 : (y : Int) < (k : Int) := by omega
                have hxd : decide (0 < x) = true := by simp; omega
                go_wp2
                have e1 : IntKind.i64.wrap (kidSum P (capI P W X r) y (k - 1 - x) + capI P W X r x) = kidSum P (capI P W X r) y (k - 1 - x) + capI P W X r x := IntWalk.i64_in _ (by omega)
                go_region
                clear e1
                go_wp2
                go_roundw
                case rel =>
                  refine ⟨x - 1, by omega, congrArg (Value.int .i64) (by omega), ?_, ?_, ?_, ?_⟩
                  · rw [← HG.out]; exact (oO.drewN 1).set rfl (by omega) (by unfold I64; omega)
                  · exact (oA.drewN 1).setOther (by simpa [blkOf] using hg1) _
                  · exact (oN.drewN 1).setOther (by simpa [blkOf] using hNh) _
                  · exact (hF.drew' 1).setCell (by simpa using hB) _
                case measure => simp [intOf]; omega
              · obtain rfl : x = 0 := by omega
                have hNN : Hid (k - 1 - 0 = k - 1) := Lib.hid rfl
                rw [hNN.out] at oO
                clear hNN
                obtain ⟨wb, rfl⟩ : ∃ wb : World, wb = wr := ⟨_, rfl⟩
                go_wp2
                go_loopw [76] (fun i wx => ∃ z : Nat, z ≤ k ∧ i = .int .i64 z ∧ Own w3.heap.size wx (some ⟨h, 0, none⟩) k k (kidL P (capI P W X r) (k - 1)) ∧ Own w3.heap.size wx (some ⟨g1, 0, none⟩) k k (capL P W X r) ∧ Own w3.heap.size wx (some ⟨wo.heap.size, 0, none⟩) k k (preL P (capI P W X (r + 1)) z) ∧ Fr w3 wx) (fun i _ => k - (intOf i).toNat)
                case atStart => exact ⟨0, by omega, rfl, oO, oA, by rw [preL_zero, HP.out]; exact oN, hF⟩
                case round =>
                  clear oO oA oN hF
                  obtain ⟨z, hz, rfl, oO, oA, oN, hF⟩ := hrel
                  by_cases hzt : z < k
                  · have cs := hF.keep (hsc z hzt)
                    have ce := hF.keep (hec z hzt)
                    obtain ⟨bx, ox, rfl, hcx⟩ := ((hX1.fr F3).fr hF).cells.resolve_left (by omega)
                    replace hcx := hcx z hzt
                    have hEz : nthB (endsAt P k) z = endB P z := by rw [endsAt_nth _ _ _ (by rw [HP.out]; exact hzt), endB, HP.out]
                    rw [hEz] at ce
                    clear hEz
                    obtain ⟨g', hg', hB, hlt2, hcc, hfro⟩ := oN.op (by omega)
                    obtain rfl : wo.heap.size = g' := by simpa using hg'
                    have hcn := hcc z hzt
                    have hfa := hfro z
                    clear hcc hfro hg'
                    have hpb : -479520 ≤ nth (gathM P W) z * nth X z ∧ nth (gathM P W) z * nth X z ≤ 479520 := cap_small Ht.out Hv.out 0 z (by rw [HP.out]; exact hzt)
                    have hS : Hid ((preL P (capI P W X (r + 1)) z).set z (capI P W X (r + 1) z) = preL P (capI P W X (r + 1)) (z + 1)) := Lib.hid preL_set
                    have i1 : (0 : Int) ≤ (z : Int) := by omega
                    have i2 : (z : Int) < (k : Int) := by omega
                    cases he : endB P z
                    · have hC : Hid (capI P W X (r + 1) z = max (nth (gathM P W) z * nth X z) (kidSum P (capI P W X r) z (k - 1))) := Lib.hid (by
                        show capStep P (payS P W X) (capI P W X r) z = _
                        rw [capStep, he, if_neg (by simp), HP.out]; rfl)
                      rw [he] at ce
                      clear he
                      go_wp2
                      have e1 : IntKind.i64.wrap (nth (gathM P W) z * nth X z) = nth (gathM P W) z * nth X z := IntWalk.i64_in _ (by omega)
                      go_region
                      clear e1
                      have hco := (oO.op (by omega))
                      obtain ⟨g'', hg'', -, -, hco, -⟩ := hco
                      obtain rfl : h = g'' := by simpa using hg''
                      replace hco := hco z hzt
                      rw [kidL_nth (by rw [HP.out]; exact hzt)] at hco
                      have hNh' := Ne.symm hNh
                      have b2 := hkb.out z (k - 1) hzt (by omega)
                      go_wp2
                      go_region
                      go_wp2
                      · go_roundw
                        case measure => simp [intOf]; omega
                        have hv : Hid (kidSum P (capI P W X r) z (k - 1) = capI P W X (r + 1) z) := Lib.hid (by rw [hC.out]; omega)
                        refine ⟨z + 1, by omega, by go_num, ?_, ?_, ?_, ?_⟩
                        · exact (((oO.setOther (by simpa [blkOf] using hNh') _).setOther (by simpa [blkOf] using hNh') _).drewN 1).drewN 1
                        · exact (((oA.setOther (by simpa [blkOf] using Ne.symm hNg) _).setOther (by simpa [blkOf] using Ne.symm hNg) _).drewN 1).drewN 1
                        · have h1 := (oN.set rfl hzt (v := nth (gathM P W) z * nth X z) (by unfold I64; omega)).set rfl hzt (v := kidSum P (capI P W X r) z (k - 1)) (by unfold I64; omega)
                          rw [List.set_set] at h1
                          rw [← hS.out, ← hv.out]; exact (h1.drewN 1).drewN 1
                        · exact (((hF.setCell hB _).setCell hB _).drew' 1).drew' 1
                      · go_roundw
                        case measure => simp [intOf]; omega
                        have hv : Hid (nth (gathM P W) z * nth X z = capI P W X (r + 1) z) := Lib.hid (by rw [hC.out]; omega)
                        refine ⟨z + 1, by omega, by go_num, ?_, ?_, ?_, ?_⟩
                        · exact (((oO.setOther (by simpa [blkOf] using hNh') _).setOther (by simpa [blkOf] using hNh') _).drewN 1).drewN 1
                        · exact (((oA.setOther (by simpa [blkOf] using Ne.symm hNg) _).setOther (by simpa [blkOf] using Ne.symm hNg) _).drewN 1).drewN 1
                        · have h1 := (oN.set rfl hzt (v := nth (gathM P W) z * nth X z) (by unfold I64; omega)).set rfl hzt (v := nth (gathM P W) z * nth X z) (by unfold I64; omega)
                          rw [List.set_set] at h1
                          rw [← hS.out, ← hv.out]; exact (h1.drewN 1).drewN 1
                        · exact (((hF.setCell hB _).setCell hB _).drew' 1).drew' 1
                    · have hC : Hid (capI P W X (r + 1) z = nth (gathM P W) z * nth X z) := Lib.hid (by
                        show capStep P (payS P W X) (capI P W X r) z = _
                        rw [capStep, he, if_pos rfl]; rfl)
                      rw [he] at ce
                      clear he
                      go_wp2
                      have e1 : IntKind.i64.wrap (nth (gathM P W) z * nth X z) = nth (gathM P W) z * nth X z := IntWalk.i64_in _ (by omega)
                      go_region
                      clear e1
                      go_wp2
                      go_roundw
                      case rel =>
                        refine ⟨z + 1, by omega, by go_num, ?_, ?_, ?_, ?_⟩
                        · exact (oO.setOther (by simpa [blkOf] using Ne.symm hNh) _).drewN 1
                        · exact (oA.setOther (by simpa [blkOf] using Ne.symm hNg) _).drewN 1
                        · rw [← hS.out, hC.out]; exact (oN.set rfl hzt (by unfold I64; omega)).drewN 1
                        · exact (hF.setCell hB _).drew' 1
                      case measure => simp [intOf]; omega
                  · obtain rfl : z = k := by omega
                    have hE : Hid (preL P (capI P W X (r + 1)) z = capL P W X (r + 1)) := Lib.hid (by rw [← HP.out, preL_all]; rfl)
                    rw [hE.out] at oN
                    clear hE
                    go_wp2
                    go_roundw
                    case rel => exact ⟨r + 1, wo.heap.size, _, by omega, by go_num, rfl, hNh, oN, oO, hF⟩
                    case measure => simp [intOf]; omega
          · obtain rfl : r = 24 := by omega
            go_wp2
            go_ret2
            exact ⟨_, _, _, _, _, _, rfl, oA.mono (by omega), (hfr.trans F3).trans hF, by omega⟩
end Go.Proofs.Ytojipjjfndgbhaa
