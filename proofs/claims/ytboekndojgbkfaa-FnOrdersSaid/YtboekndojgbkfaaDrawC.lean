import Derived.Test.YtboekndojgbkfaaDrawP2
/- The draw of a centred plan. -/
set_option linter.unusedVariables false
namespace Go.Proofs.Ytboekndojgbkfaa
open Go.ChangeShapes Go.WideShapes Go.ChangeAt Go.RowKit
theorem cols_in (T : List (List Int)) (n i : Nat) : ∀ k, k ≤ n → sumTo (colsAt T n i k) n = sumTo (colsAt T n i 0) n + sumTo (nthL T i) k
  | 0, _ => by simp [sumTo]
  | k + 1, hk => by
    have h := cols_in T n i k (by omega)
    rw [← colsAt_step T n i k (by omega), sumTo_put _ _ _ (by rw [colsAt_len]; omega), h, if_pos (by omega), colsAt_nth _ _ _ _ _ (by omega), if_neg (by omega), sumTo, cellT]
    omega
theorem cols_sum {T : List (List Int)} {P : List Int} {n : Nat} (h : ∀ j, j < n → sumTo (nthL T j) n = nth P j) : ∀ i, i ≤ n → sumTo (colsAt T n i 0) n = sumTo P i
  | 0, _ => by
    have : ∀ k, sumTo (colsAt T n 0 0) k = 0 := fun k => by
      induction k with
      | zero => rfl
      | succ k ih =>
        rw [sumTo, ih, colsAt_zero]
        unfold nth; rw [List.getElem?_replicate]; split <;> simp
    rw [this]; rfl
  | i + 1, hi => by rw [← colsAt_end, cols_in T n i n (Nat.le_refl _), cols_sum h i (by omega), h i (by omega), sumTo]
theorem colTo_nn {T : List (List Int)} (h : ∀ a b, 0 ≤ cellT T a b) (k : Nat) : ∀ i, 0 ≤ colTo T k i
  | 0 => Int.le_refl _
  | i + 1 => by have := colTo_nn h k i; have := h i k; rw [colTo]; omega
theorem cols_nn {T : List (List Int)} (h : ∀ a b, 0 ≤ cellT T a b) (n i k : Nat) : ∀ j, 0 ≤ nth (colsAt T n i k) j := fun j => by
  by_cases hj : j < n
  · rw [colsAt_nth _ _ _ _ _ hj]; split <;> exact colTo_nn h _ _
  · unfold nth; rw [List.getElem?_eq_none (by rw [colsAt_len]; omega)]; simp
theorem cols_le {T : List (List Int)} {P : List Int} {n : Nat} (hs : ∀ j, j < n → sumTo (nthL T j) n = nth P j) (h : ∀ a b, 0 ≤ cellT T a b) (hP : ∀ j, 0 ≤ nth P j) (hb : sumTo P n ≤ 40) {i k : Nat} (hi : i ≤ n) (hk : k < n) : 0 ≤ colTo T k i ∧ colTo T k i ≤ 40 := by
  refine ⟨colTo_nn h k i, ?_⟩
  have h1 := nth_le_sumTo (cols_nn h n i 0) hk
  rw [colsAt_nth _ _ _ _ _ hk, if_neg (by omega), cols_sum hs i hi] at h1
  have := sumTo_mono hP hi
  omega
theorem cols_alike {T : List (List Int)} {P : List Int} {n : Nat} (hs : ∀ j, j < n → sumTo (nthL T j) n = nth P j) (h : ∀ a b, 0 ≤ cellT T a b) (hP : spreadB P = true) (hn : P.length = n) : alikeB P (colsAt T n n 0) = true := by
  obtain ⟨h1, h2, h3, h4⟩ := spreadB_iff.1 hP
  have hw := (spread_sumTo hP).1
  rw [hn] at hw
  have hP0 : ∀ j, 0 ≤ nth P j := fun j => (spread_nth hP j).1
  have e1 : wsum (colsAt T n n 0) = sumTo P n := by
    have := cols_sum hs n (Nat.le_refl _)
    rw [← this]
    have hl := colsAt_len T n n 0
    have h5 := wsum_eq (xs := colsAt T n n 0) (M := 40) (by omega) (fun x hx => by
      obtain ⟨k, hk, rfl⟩ := List.mem_iff_getElem.1 hx
      rw [← nth_eq hk]
      rw [hl] at hk
      rw [colsAt_nth _ _ _ _ _ hk, if_neg (by omega)]
      exact cols_le hs h hP0 (by omega) (Nat.le_refl _) hk) (by rw [hl]; omega)
    rw [h5, hl]
  refine alikeB_iff.2 ⟨hP, spreadB_iff.2 ⟨by rw [colsAt_len]; omega, fun x hx => ?_, by omega, by omega⟩, by rw [colsAt_len, hn], by omega⟩
  obtain ⟨k, hk, rfl⟩ := List.mem_iff_getElem.1 hx
  rw [← nth_eq hk]
  rw [colsAt_len] at hk
  rw [colsAt_nth _ _ _ _ _ hk, if_neg (by omega)]
  exact cols_le hs h hP0 (by omega) (Nat.le_refl _) hk
/-- A plan being drawn: its rows keep their sums. -/
structure CenI (w : World) (g A B H : Nat) (P : List Int) (R : Nat → Int) (gp gt n c ct : Nat) (wr : World) : Prop where
  op : Own w.heap.size wr (some ⟨gp, 0, none⟩) n c P
  T : ∃ T, OwnSS B H wr (some ⟨gt, 0, none⟩) n ct T ∧ (∀ j, j < n → (nthL T j).length = n) ∧ (∀ a b, 0 ≤ cellT T a b) ∧ ∀ j, j < n → sumTo (nthL T j) n = R j
  D : Dr g A w wr
  wp : gp < B
  lo : w.heap.size ≤ B
  sz : H ≤ wr.heap.size
section
variable {w : World} {g A B H : Nat} {P : List Int} {R : Nat → Int} {gp gt n c ct : Nat} {wr : World}
theorem CenI.mono {A' : Nat} (h : CenI w g A B H P R gp gt n c ct wr) (hA : A ≤ A') : CenI w g A' B H P R gp gt n c ct wr := by
  obtain ⟨h1, h3, h6, h7, h9, h10⟩ := h
  exact ⟨h1, h3, h6.mono hA, h7, h9, h10⟩
theorem CenI.alter {R' : Nat → Int} (h : CenI w g A B H P R gp gt n c ct wr) (hR : ∀ j, j < n → R j = R' j) : CenI w g A B H P R' gp gt n c ct wr := by
  obtain ⟨h1, ⟨T, a, b, cc, d⟩, h6, h7, h9, h10⟩ := h
  exact ⟨h1, ⟨T, a, b, cc, fun j hj => by rw [d j hj, hR j hj]⟩, h6, h7, h9, h10⟩
theorem CenI.step {A' : Nat} {w' : World} (h : CenI w g A B H P R gp gt n c ct wr) (hg : g < w.heap.size) (E : Dr g A' wr w') : CenI w g A' B H P R gp gt n c ct w' := by
  obtain ⟨h1, ⟨xss, h3, h4⟩, h6, h7, h9, h10⟩ := h
  exact ⟨E.own h1 hg, ⟨xss, E.ss h3 (by omega), h4⟩, h6.trans E, h7, h9, Nat.le_trans h10 E.size⟩
theorem CenI.fr {w' : World} (h : CenI w g A B H P R gp gt n c ct wr) (f : Fr wr w') : CenI w g A B H P R gp gt n c ct w' := by
  obtain ⟨h1, ⟨xss, h3, h4⟩, h6, h7, h9, h10⟩ := h
  exact ⟨h1.fr f, ⟨xss, h3.fr f, h4⟩, h6.fr f, h7, h9, Nat.le_trans h10 f.size⟩
theorem CenI.drew (h : CenI w g A B H P R gp gt n c ct wr) : CenI w g A B H P R gp gt n c ct wr.drew := h.fr (Fr.drewN _ 1)
theorem CenI.spot (h : CenI w g A B H P R gp gt n c ct wr) (hg : g < w.heap.size) (hR : ∀ j, R j ≤ 100) {i k : Nat} (hi : i < n) (hk : k < n) :
    ∃ r cr x, wr.cell? ⟨gt, i, none⟩ = some (.slice (some ⟨r, 0, none⟩) n cr) ∧ wr.cell? ⟨r, k, none⟩ = some (.int .i64 x) ∧ wr.frozen? ⟨r, k, none⟩ = false ∧ (0 ≤ x ∧ x ≤ R i) ∧
      ∀ v, (0 ≤ v ∧ v ≤ 1000) → CenI w g A B H P (fun j => if j = i then R i + (v - x) else R j) gp gt n c ct (wr.setCell ⟨r, k, none⟩ (.int .i64 v)) := by
  obtain ⟨h1, ⟨xss, h3, h4, h5, h5s⟩, h6, h7, h9, h10⟩ := h
  obtain ⟨gt', r, cr, hta, hc1, hc2, hfz, hB, hH, hB2, hH2, hset⟩ := h3.spot h4 hi hk
  injection hta with hta; injection hta with hta; subst hta
  have hT := h3.len
  have hx : cellT xss i k ≤ R i := by
    rw [← h5s i hi]
    exact nth_le_sumTo (fun b => h5 i b) hk
  refine ⟨r, cr, cellT xss i k, hc1, hc2, hfz, ⟨h5 i k, hx⟩, fun v hv => ?_⟩
  refine ⟨h1.setOther (p := ⟨r, k, none⟩) (fun e => by injection e with e; change gp = r at e; omega) _,
    ⟨_, hset v (by unfold I64; omega), fun j hj => by rw [setC_row]; exact h4 j hj, fun a b => ?_, fun j hj => ?_⟩, h6.set (q := ⟨r, k, none⟩) (by show w.heap.size ≤ r; omega) hg _, h7, h9, by simpa [World.setCell] using h10⟩
  · by_cases e : i = a ∧ k = b
    · obtain ⟨rfl, rfl⟩ := e
      rw [setC_same (by omega) (by rw [h4 i hi]; exact hk)]; exact hv.1
    · rw [setC_ne _ _ _ _ _ _ (by omega)]; exact h5 a b
  · rw [row_setC _ _ _ _ (by omega) (by rw [h4 i hi]; exact hk) _ _ hk, h5s j hj]
    by_cases e : j = i
    · subst e; simp
    · simp [e]
end
set_option maxRecDepth 100000 in
set_option maxHeartbeats 1000000 in
theorem DrawIsCentred_any (w : World) (a : Option Addr) (n cap : Nat) (zs : List Int) (h : SLB w a n cap zs) :
    Calls Try.prog 62 #[.slice a n cap] w fun e w' => ∃ (p : Option Addr) (m c : Nat) (q : Option Addr) (k d : Nat) (t : Option Addr) (n ct : Nat), e = .returned (.tuple #[.slice p m c, .slice q k d, .slice t n ct]) ∧ (∃ xs ys T, SL w' p m c xs ∧ SL w' q k d ys ∧ SS w' t n ct T) ∧ Fr w w' := by
  have D0 := Dr.start h
  have HE : Hid (∀ (A : Nat) (w' : World), Dr w.heap.size A (w.alloc (.cells #[.slice a n cap, .int .i64 0, .int .u64 0] 73)) w' → Fr w w') := Lib.hid fun A w' h => h.ends rfl
  have hz0 : w.heap.size ≤ (w.alloc (.cells #[.slice a n cap, .int .i64 0, .int .u64 0] 73)).heap.size := by simp
  have hg : w.heap.size < (w.alloc (.cells #[.slice a n cap, .int .i64 0, .int .u64 0] 73)).heap.size := by simp
  clear h
  go_enter Try.func62, Try.ntmps62
  go_wp2_with fail
  generalize w.alloc (.cells #[.slice a n cap, .int .i64 0, .int .u64 0] 73) = v0 at D0 HE hg hz0 ⊢
  refine (twoSpreads_dr _ D0 (by omega)).mono ?_
  rintro e w1 ⟨p, m, c, q, k, d, rfl, ⟨P, ys, op, oq⟩, hm, hk, D1, -⟩
  clear D0
  cases hal : alikeB P ys
  · go_wp2_with fail
    refine (l10Alike_any _ _ _ _ _ _ _ _ _ op.sl oq.sl).mono ?_
    rintro e w' ⟨rfl, rfl⟩
    rw [hal]
    clear hal
    go_wp2
    have F := (Fr.refl w1).alloc (.cells #[] 22)
    refine bodyPost_ret (v := .tuple #[.slice p m c, .slice q k d, .slice (some ⟨w1.heap.size, 0, none⟩) 0 0]) (by simp [results, Try.results62, go_sem]) rfl ?_
    exact ⟨_, _, _, _, _, _, _, _, _, rfl, ⟨_, _, [], (op.fr F).sl, (oq.fr F).sl, (OwnSS.made0 (B := w1.heap.size) (H := w1.heap.size + 1) w1 (Nat.le_refl _) (by omega)).ss⟩, HE.out _ _ (D1.alloc _)⟩
  · have Hal := Lib.hid hal
    have hPs := (alikeB_iff.1 hal).1
    have hl := op.len
    have hl8 := (spreadB_iff.1 hPs).1
    have HPS := Lib.hid hPs
    go_wp2_with fail
    refine (l10Alike_any _ _ _ _ _ _ _ _ _ op.sl oq.sl).mono ?_
    rintro e w' ⟨rfl, rfl⟩
    rw [hal]
    clear hal oq Hal hPs
    go_wp2_with fail
    refine (l10Empty_any _ m m (by omega) (by omega)).mono ?_
    rintro e w2 ⟨t, n2, ct, rfl, oT, f, -⟩
    obtain rfl : n2 = m := by rw [← oT.len]; simp [zeros]
    obtain ⟨gt, _, _, rfl, _⟩ := oT.spot (m := n2) (fun i hi => by rw [zeros_row _ _ _ hi]; simp) (i := 0) (k := 0) (by omega) (by omega)
    obtain ⟨gp, rfl, hgp0, hgp1, _, _⟩ := op.op (by omega)
    have HPb : Hid (∀ j, 0 ≤ nth P j ∧ nth P j ≤ 40) := Lib.hid (spread_nth HPS.out)
    have C0 : CenI v0 w.heap.size 1000 w1.heap.size w2.heap.size P (fun j => if j < 0 then nth P j else 0) gp gt n2 c ct w2 := by
      refine ⟨op.fr f, ⟨_, oT, fun i hi => by rw [zeros_row _ _ _ hi]; simp, fun a b => by rw [zeros_cell]; omega, fun j hj => ?_⟩, (D1.fr f).mono (by omega), hgp1, D1.size, Nat.le_refl _⟩
      rw [row_zeros]; simp
    have RB : Hid (∀ j s : Nat, (if s < j then nth P s else 0) ≤ 40) := Lib.hid fun j s => by have := HPb.out s; split <;> omega
    clear oT op f D1 hgp0 hgp1
    generalize hB : w1.heap.size = B at C0
    clear hB
    generalize hH : w2.heap.size = H at C0
    clear hH
    go_wp2
    go_loopw [9] (fun i wr => ∃ j : Nat, j ≤ n2 ∧ i = .int .i64 j ∧ CenI v0 w.heap.size (1000 + 2 * j) B H P (fun s => if s < j then nth P s else 0) gp gt n2 c ct wr) (fun i _ => n2 - (intOf i).toNat)
    case atStart => exact ⟨0, by omega, rfl, C0⟩
    case round =>
      clear C0
      obtain ⟨j, hj, rfl, C⟩ := hrel
      obtain ⟨wo, rfl⟩ : ∃ wo : World, wo = wr := ⟨_, rfl⟩
      by_cases hlt : j < n2
      · have vj0 : (0 : Int) ≤ (j : Int) := by omega
        have vj1 : (j : Int) < (n2 : Int) := by omega
        have hpj := C.op.cellAt rfl hlt
        have bj := HPb.out j
        obtain ⟨r1, cr1, x1, s1, e1, z1, b1, set1⟩ := C.spot hg (fun s => by have := RB.out j s; omega) hlt hlt
        rw [if_neg (by omega)] at b1
        have C1 := (set1 (nth P j) (by omega)).alter (R' := fun s => if s < j + 1 then nth P s else 0) (fun s hs => by
          by_cases e : s = j
          · subst e; simp; omega
          · rw [if_neg e]; by_cases e2 : s < j
            · rw [if_pos e2, if_pos (by omega)]
            · rw [if_neg e2, if_neg (by omega)])
        clear set1 C
        go_upto_region 9 with fail
        go_region
        go_wp2_with fail
        clear s1 e1 z1 b1 hpj
        replace C1 := C1.drew
        refine (pick_dr _ 3 C1.D (by omega) (by unfold I64; omega)).mono ?_
        rintro e w3 ⟨u, rfl, hu, D3, E3⟩
        have C2 := C1.step hg E3
        obtain ⟨U, rfl⟩ := Int.eq_ofNat_of_zero_le hu.1
        clear C1 D3 E3
        go_wp2
        go_loopw [10] (fun i wr => ∃ k : Nat, k ≤ 2 ∧ i = .int .i64 k ∧ CenI v0 w.heap.size (1000 + 2 * (j + 1)) B H P (fun s => if s < j + 1 then nth P s else 0) gp gt n2 c ct wr) (fun i _ => (intOf i).toNat)
        case atStart => exact ⟨U, by omega, rfl, C2.mono (by omega)⟩
        case round =>
          clear C2
          obtain ⟨k, hk2, rfl, C⟩ := hrel
          obtain ⟨wi, rfl⟩ : ∃ wo : World, wo = wr := ⟨_, rfl⟩
          by_cases hk0 : 0 < k
          · have vk0 : (0 : Int) < (k : Int) := by omega
            obtain ⟨r1, cr1, x1, s1, e1, z1, b1, set1⟩ := C.spot hg (fun s => by have := RB.out (j + 1) s; omega) hlt hlt
            rw [if_pos (by omega)] at b1
            by_cases c1 : (0 : Int) < (j : Int)
            rotate_left
            · skip
              clear set1
              go_wp2
              go_roundw
              case rel => exact ⟨k - 1, by omega, by go_num, C⟩
              case measure => simp [intOf]; omega
            · by_cases c2 : (j : Int) + 1 < (n2 : Int)
              rotate_left
              · skip
                clear set1
                go_wp2
                go_roundw
                case rel => exact ⟨k - 1, by omega, by go_num, C⟩
                case measure => simp [intOf]; omega
              · by_cases c3 : 1 < x1
                rotate_left
                · skip
                  clear set1
                  go_wp2
                  go_roundw
                  case rel => exact ⟨k - 1, by omega, by go_num, C⟩
                  case measure => simp [intOf]; omega
                · have Q1 := (set1 (x1 - 2) (by omega)).alter (R' := fun s => if s = j then nth P j - 2 else if s < j + 1 then nth P s else 0) (fun s hs => by
                    by_cases e : s = j
                    · subst e; simp; omega
                    · rw [if_neg e, if_neg e])
                  clear set1 C
                  replace Q1 := Q1.drew
                  go_upto_region 14 with fail
                  go_region
                  go_upto_region 15 with fail
                  clear s1 e1 z1 c3
                  obtain ⟨J, hJ⟩ : ∃ J : Nat, J + 1 = j := ⟨j - 1, by omega⟩
                  obtain ⟨r2, cr2, x2, s2, e2, z2, b2, set2⟩ := Q1.spot hg (fun s => by have := RB.out (j + 1) s; split <;> omega) hlt (k := J) (by omega)
                  rw [if_pos rfl] at b2
                  have hjm : (j : Int) - 1 = (J : Int) := by omega
                  have vJ0 : (0 : Int) ≤ (J : Int) := by omega
                  have vJ1 : (J : Int) < (n2 : Int) := by omega
                  have Q2 := (set2 (x2 + 1) (by omega)).alter (R' := fun s => if s = j then nth P j - 1 else if s < j + 1 then nth P s else 0) (fun s hs => by
                    by_cases e : s = j
                    · subst e; simp; omega
                    · rw [if_neg e, if_neg e, if_neg e])
                  replace Q2 : CenI v0 w.heap.size _ B H P _ gp gt n2 c ct ((wi.setCell ⟨r1, j, none⟩ (.int .i64 (x1 - 2))).setCell ⟨r2, J, none⟩ (.int .i64 (x2 + 1))).drew := Q2
                  clear set2 Q1
                  go_upto_region 16 with fail
                  clear s2 e2 z2 hjm vJ0 vJ1
                  obtain ⟨J2, hJ2⟩ : ∃ J : Nat, J = j + 1 := ⟨j + 1, by omega⟩
                  have hjp : IntKind.i64.wrap ((j : Int) + 1) = (J2 : Int) := by rw [IntWalk.i64_in _ (by omega)]; omega
                  have vJ20 : (0 : Int) ≤ (J2 : Int) := by omega
                  have vJ21 : (J2 : Int) < (n2 : Int) := by omega
                  obtain ⟨r3, cr3, x3, s3, e3, z3, b3, set3⟩ := Q2.spot hg (fun s => by have := RB.out (j + 1) s; split <;> omega) hlt (k := J2) (by omega)
                  rw [if_pos rfl] at b3
                  have Q3 := (set3 (x3 + 1) (by omega)).alter (R' := fun s => if s < j + 1 then nth P s else 0) (fun s hs => by
                    by_cases e : s = j
                    · subst e; simp; omega
                    · rw [if_neg e, if_neg e])
                  clear set3 Q2 hJ2
                  go_wp2
                  go_roundw
                  case rel => exact ⟨k - 1, by omega, by go_num, Q3⟩
                  case measure => simp [intOf]; omega
          · obtain rfl : k = 0 := by omega
            go_wp2
            go_roundw
            case rel => exact ⟨j + 1, by omega, by go_num, C⟩
            case measure => simp [intOf]; omega
      · obtain rfl : j = n2 := by omega
        obtain ⟨o1, ⟨T, oT, tr, tn, ts⟩, D, hgp, hlo, hsz⟩ := C
        replace ts : ∀ i, i < j → sumTo (nthL T i) j = nth P i := fun i hi => by rw [ts i hi, if_pos hi]
        have TS := Lib.hid ts; have TR := Lib.hid tr; have TN := Lib.hid tn
        clear ts tr tn
        have hwo := D.size
        have hmk := run_make_row' 22 3 (.int .i64 0) 8 Try.underlying22 infoInt rfl .i64 .i64 j (by omega) (by omega)
        go_wp2
        clear hmk
        have hmade := Own.made (B := wo.heap.size) wo j (Nat.le_refl _) (by unfold maxLen; omega)
        have f := (Fr.refl wo).alloc (.cells (madeCells #[.int .i64 0] j) 3)
        have HS := Lib.hid (spread_sumTo HPS.out)
        have PN : Hid (∀ i, 0 ≤ nth P i) := Lib.hid fun i => (HPb.out i).1
        have PS : Hid (sumTo P j ≤ 40) := Lib.hid (by rw [← hl]; exact HS.out.2)
        go_loopw [11] (fun i wr => ∃ r : Nat, r ≤ j ∧ i = .int .i64 r ∧ Own v0.heap.size wr (some ⟨gp, 0, none⟩) j c P ∧ OwnSS B H wr (some ⟨gt, 0, none⟩) j ct T ∧ Own wo.heap.size wr (some ⟨wo.heap.size, 0, none⟩) j j (colsAt T j r 0) ∧ Dr w.heap.size 1100 v0 wr) (fun i _ => j - (intOf i).toNat)
        case atStart => exact ⟨0, by omega, rfl, o1.fr f, oT.fr f, by rw [colsAt_zero]; exact hmade, (D.fr f).mono (by omega)⟩
        case round =>
          clear o1 oT D hmade f
          obtain ⟨r, hr, rfl, oP, oT, oQ, D⟩ := hrel
          obtain ⟨w4, rfl⟩ : ∃ wo : World, wo = wr := ⟨_, rfl⟩
          by_cases hrt : r < j
          · have vr0 : (0 : Int) ≤ (r : Int) := by omega
            have vr1 : (r : Int) < (j : Int) := by omega
            go_wp2
            go_loopw [12] (fun i wr => ∃ k : Nat, k ≤ j ∧ i = .int .i64 k ∧ Own v0.heap.size wr (some ⟨gp, 0, none⟩) j c P ∧ OwnSS B H wr (some ⟨gt, 0, none⟩) j ct T ∧ Own wo.heap.size wr (some ⟨wo.heap.size, 0, none⟩) j j (colsAt T j r k) ∧ Dr w.heap.size 1100 v0 wr) (fun i _ => j - (intOf i).toNat)
            case atStart => exact ⟨0, by omega, rfl, oP, oT, oQ, D⟩
            case round =>
              clear oP oT oQ D
              obtain ⟨k, hkj, rfl, oP, oT, oQ, D⟩ := hrel
              obtain ⟨w5, rfl⟩ : ∃ wo : World, wo = wr := ⟨_, rfl⟩
              by_cases hkt : k < j
              · have vk0 : (0 : Int) ≤ (k : Int) := by omega
                have vk1 : (k : Int) < (j : Int) := by omega
                obtain ⟨gx, rr, cr, hgx, s1, e1, _, _, hrH, _⟩ := oT.spot TR.out hrt hkt
                injection hgx with hgx; injection hgx with hgx; subst hgx
                have hcc := oQ.cellAt rfl hkt
                have hfz := oQ.frz k
                rw [colsAt_nth _ _ _ _ _ hkt, if_neg (by omega)] at hcc
                have b1 := cols_le TS.out TN.out PN.out PS.out (i := r) (by omega) hkt
                have b2 := cols_le TS.out TN.out PN.out PS.out (i := r + 1) (by omega) hkt
                rw [colTo] at b2
                have hb0 := TN.out r k
                have oQ' := oQ.set rfl hkt (v := colTo T k r + cellT T r k) (by unfold I64; omega)
                rw [colsAt_step _ _ _ _ hkt] at oQ'
                have oP' := oP.setOther (p := ⟨wo.heap.size, k, none⟩) (fun e => by injection e with e; change gp = wo.heap.size at e; have := D.size; omega) (.int .i64 (colTo T k r + cellT T r k))
                have oT' := oT.put (p := ⟨wo.heap.size, k, none⟩) (.inr hsz) (.int .i64 (colTo T k r + cellT T r k))
                have D' := D.set (q := ⟨wo.heap.size, k, none⟩) (by show v0.heap.size ≤ wo.heap.size; omega) hg (.int .i64 (colTo T k r + cellT T r k))
                replace oQ' := oQ'.fr (Fr.drewN _ 1)
                replace oP' := oP'.fr (Fr.drewN _ 1)
                replace oT' := oT'.fr (Fr.drewN _ 1)
                replace D' := D'.drewN 1
                clear oQ oP oT D hrH
                go_upto_region 24 with fail
                go_region
                go_wp2
                go_roundw
                case rel => exact ⟨k + 1, by omega, by go_num, oP', oT', oQ', D'⟩
                case measure => simp [intOf]; omega
              · obtain rfl : k = j := by omega
                go_wp2
                go_roundw
                case rel => exact ⟨r + 1, by omega, by go_num, oP, oT, by rw [← colsAt_end]; exact oQ, D⟩
                case measure => simp [intOf]; omega
          · obtain rfl : r = j := by omega
            have HA : Hid (alikeB P (colsAt T r r 0) = true) := Lib.hid (cols_alike TS.out TN.out HPS.out hl)
            go_wp2_with fail
            refine (one_dr _ 4 D (by omega) (by unfold I64; omega)).mono ?_
            rintro e w6 ⟨b, rfl, D6, E6⟩
            replace oP := E6.own oP hg
            replace oQ := E6.own oQ (by omega)
            replace oT := E6.ss oT (by omega)
            clear D E6
            cases b
            · go_wp2
              refine bodyPost_ret (v := .tuple #[.slice (some ⟨gp, 0, none⟩) r c, .slice (some ⟨wo.heap.size, 0, none⟩) r r, .slice (some ⟨gt, 0, none⟩) r ct]) (by simp [results, Try.results62, go_sem]) rfl ?_
              exact ⟨_, _, _, _, _, _, _, _, _, rfl, ⟨_, _, _, oP.sl, oQ.sl, oT.ss⟩, HE.out _ _ D6⟩
            · go_wp2_with fail
              refine (l10Sorted_any _ _ _ _ _ _ _ _ _ oP.sl oQ.sl HA.out).mono ?_
              rintro e w7 ⟨t7, n7, ct7, rfl, o7, f7, -, -⟩
              replace oP := oP.fr f7
              replace oQ := oQ.fr f7
              go_wp2
              refine bodyPost_ret (v := .tuple #[.slice (some ⟨gp, 0, none⟩) r c, .slice (some ⟨wo.heap.size, 0, none⟩) r r, .slice t7 n7 ct7]) (by simp [results, Try.results62, go_sem]) rfl ?_
              exact ⟨_, _, _, _, _, _, _, _, _, rfl, ⟨_, _, _, oP.sl, oQ.sl, o7.ss⟩, HE.out _ _ (D6.fr f7)⟩
end Go.Proofs.Ytboekndojgbkfaa
