import Derived.Test.YtboekndojgbkfaaDrawP2
import Derived.Deep.RegionHeld3
/- Draws of cost tables. -/
set_option linter.unusedVariables false
namespace Go.Proofs.Ytboekndojgbkfaa
open Go.ChangeShapes Go.WideShapes Go.ChangeAt Go.RowKit
theorem OwnSS.within {B H : Nat} {w : World} {a : Option Addr} {n cap : Nat} {T : List (List Int)} (h : OwnSS B H w a n cap T) : Within a B H := by
  obtain ⟨_, _, _, q, _⟩ := h.ex
  exact q
theorem app_cell {T : List (List Int)} {r : List Int} {lo hi : Int} (h : ∀ a b, lo ≤ cellT T a b ∧ cellT T a b ≤ hi) (hr : ∀ b, lo ≤ nth r b ∧ nth r b ≤ hi) (h0 : lo ≤ 0 ∧ 0 ≤ hi) : ∀ a b, lo ≤ cellT (T ++ [r]) a b ∧ cellT (T ++ [r]) a b ≤ hi := by
  intro a b
  rcases Nat.lt_trichotomy a T.length with e | e | e
  · rw [cellT, nthL_app_lt e]; exact h a b
  · subst e; rw [cellT, nthL_app_at]; exact hr b
  · rw [cellT, nthL_out (by simp; omega), nth_out (by simp)]; exact h0
theorem app_len {T : List (List Int)} {r : List Int} {n m : Nat} (hT : T.length = n) (h : ∀ i, i < n → (nthL T i).length = m) (hr : r.length = m) : ∀ i, i < n + 1 → (nthL (T ++ [r]) i).length = m := by
  intro i hi
  by_cases e : i < n
  · rw [nthL_app_lt (by omega)]; exact h i e
  · obtain rfl : i = T.length := by omega
    rw [nthL_app_at]; exact hr
theorem nth_snoc {xs : List Int} {z : Int} {lo hi : Int} (h : ∀ i, lo ≤ nth xs i ∧ nth xs i ≤ hi) (hz : lo ≤ z ∧ z ≤ hi) (i : Nat) : lo ≤ nth (xs ++ [z]) i ∧ nth (xs ++ [z]) i ≤ hi := by
  rcases Nat.lt_trichotomy i xs.length with e | e | e
  · have := h i
    unfold nth at this ⊢
    rw [List.getElem?_append_left e]; exact this
  · subst e; simp [nth]; exact hz
  · have := h i
    rw [nth_out (by omega)] at this
    rw [nth_out (by simp; omega)]; exact this
/-- A table of costs that is being drawn. -/
structure CoI (w : World) (g A : Nat) (t : Option Addr) (n c : Nat) (wr : World) : Prop where
  T : ∃ T, OwnSS w.heap.size wr.heap.size wr t n c T ∧ ∀ a b, -1 ≤ cellT T a b ∧ cellT T a b ≤ 100
  D : Dr g A w wr
/-- .. with rows of one length. -/
structure CoR (w : World) (g A : Nat) (t : Option Addr) (n c m : Nat) (wr : World) : Prop where
  T : ∃ T, OwnSS w.heap.size wr.heap.size wr t n c T ∧ (∀ a b, -1 ≤ cellT T a b ∧ cellT T a b ≤ 100) ∧ ∀ i, i < n → (nthL T i).length = m
  D : Dr g A w wr
theorem CoR.co {w : World} {g A : Nat} {t : Option Addr} {n c m : Nat} {wr : World} (h : CoR w g A t n c m wr) : CoI w g A t n c wr := by
  obtain ⟨⟨T, h1, h2, _⟩, D⟩ := h; exact ⟨⟨T, h1, h2⟩, D⟩
theorem CoR.step {w : World} {g A A' : Nat} {t : Option Addr} {n c m : Nat} {wr w' : World} (h : CoR w g A t n c m wr) (hg : g < w.heap.size) (E : Dr g A' wr w') : CoR w g A' t n c m w' := by
  obtain ⟨⟨T, h1, h2, h3⟩, D⟩ := h
  exact ⟨⟨T, (E.ss h1 hg).upto E.size, h2, h3⟩, D.trans E⟩
theorem CoI.step {w : World} {g A A' : Nat} {t : Option Addr} {n c : Nat} {wr w' : World} (h : CoI w g A t n c wr) (hg : g < w.heap.size) (E : Dr g A' wr w') : CoI w g A' t n c w' := by
  obtain ⟨⟨T, h1, h2⟩, D⟩ := h
  exact ⟨⟨T, (E.ss h1 hg).upto E.size, h2⟩, D.trans E⟩
theorem CoI.mono {w : World} {g A A' : Nat} {t : Option Addr} {n c : Nat} {wr : World} (h : CoI w g A t n c wr) (hA : A ≤ A') : CoI w g A' t n c wr := ⟨h.T, h.D.mono hA⟩
theorem CoR.mono {w : World} {g A A' : Nat} {t : Option Addr} {n c m : Nat} {wr : World} (h : CoR w g A t n c m wr) (hA : A ≤ A') : CoR w g A' t n c m wr := ⟨h.T, h.D.mono hA⟩
theorem CoI.fr {w : World} {g A : Nat} {t : Option Addr} {n c : Nat} {wr w' : World} (h : CoI w g A t n c wr) (f : Fr wr w') : CoI w g A t n c w' := by
  obtain ⟨⟨T, h1, h2⟩, D⟩ := h
  exact ⟨⟨T, (h1.fr f).upto f.size, h2⟩, D.fr f⟩
theorem CoR.fr {w : World} {g A : Nat} {t : Option Addr} {n c m : Nat} {wr w' : World} (h : CoR w g A t n c m wr) (f : Fr wr w') : CoR w g A t n c m w' := by
  obtain ⟨⟨T, h1, h2, h3⟩, D⟩ := h
  exact ⟨⟨T, (h1.fr f).upto f.size, h2, h3⟩, D.fr f⟩
/-- One number of the table: where it lies, and that it may be set. -/
theorem CoR.spot {w : World} {g A : Nat} {t : Option Addr} {n c m : Nat} {wr : World} (h : CoR w g A t n c m wr) (hg : g < w.heap.size) {i k : Nat} (hi : i < n) (hk : k < m) :
    ∃ gt r cr x, t = some ⟨gt, 0, none⟩ ∧ wr.cell? ⟨gt, i, none⟩ = some (.slice (some ⟨r, 0, none⟩) m cr) ∧ wr.cell? ⟨r, k, none⟩ = some (.int .i64 x) ∧ wr.frozen? ⟨r, k, none⟩ = false ∧ gt ≠ r ∧ w.heap.size ≤ gt ∧ w.heap.size ≤ r ∧
      ∀ v, (-1 ≤ v ∧ v ≤ 100) → CoI w g A t n c (wr.setCell ⟨r, k, none⟩ (.int .i64 v)) := by
  obtain ⟨⟨T, h1, h2, h3⟩, D⟩ := h
  obtain ⟨gt, r, cr, hta, hc1, hc2, hfz, hB, hH, hB2, hH2, hset⟩ := h1.spot h3 hi hk
  have hne : gt ≠ r := by
    rintro rfl
    obtain ⟨g3, p3, m3, c3, e3, hc3, ho3, hw3, _, _⟩ := h1.rowAt hi
    rw [hta] at e3
    injection e3 with e3; injection e3 with e3; subst e3
    rw [hc1] at hc3
    injection hc3 with hc3
    injection hc3 with ea eb ec
    subst ea; subst eb; subst ec
    obtain ⟨g4, hg4, _, _, hcell, _⟩ := ho3.op (by omega)
    injection hg4 with hg4; injection hg4 with hg4; subst hg4
    have hl := hcell k hk
    rcases Nat.lt_trichotomy i k with e | e | e
    · have := hcell i (by omega); rw [hc1] at this; cases this
    · subst e; rw [hc1] at hl; cases hl
    · by_cases e2 : i < m
      · have := hcell i e2; rw [hc1] at this; cases this
      · obtain ⟨g5, p5, m5, c5, e5, hc5, _⟩ := h1.rowAt (i := k) (by omega)
        rw [hta] at e5
        injection e5 with e5; injection e5 with e5; subst e5
        rw [hc5] at hl; cases hl
  refine ⟨gt, r, cr, cellT T i k, hta, hc1, hc2, hfz, hne, hB2, hB, fun v hv => ?_⟩
  refine ⟨⟨_, by simpa [World.setCell] using hset v (by unfold I64; omega), ?_⟩, D.set (q := ⟨r, k, none⟩) hB hg _⟩
  exact setC_bd h2 hv i k
theorem lit3 (V : World) : ∀ i, i < 3 → ∃ x, (V.alloc (.cells #[.int .i64 (-1), .int .i64 99, .int .i64 100] 3)).cell? ⟨V.heap.size, i, none⟩ = some (.int .i64 x) ∧ (-1 ≤ x ∧ x ≤ 100) := fun i hi => by
  have h : i = 0 ∨ i = 1 ∨ i = 2 := by omega
  rcases h with rfl | rfl | rfl
  all_goals exact ⟨_, by rw [cell_of_row _ _ _ _ _ _ (heap_alloc_new _ _)]; rfl, by decide⟩
set_option maxRecDepth 100000 in
set_option maxHeartbeats 1000000 in
theorem costTable_dr {g A : Nat} {w0 : World} (w : World) (n m : Nat) (h : Dr g A w0 w) (hA : A ≤ 1000000000) (hn : n ≤ 10) (hm : m ≤ 10) :
    Calls Try.prog 109 #[.pointer (some ⟨g, 0, none⟩), .int .i64 n, .int .i64 m] w fun e w' => ∃ (t : Option Addr) (k c : Nat) (T : List (List Int)), e = .returned (.slice t k c) ∧ OwnSS w.heap.size w'.heap.size w' t k c T ∧ (∀ a b, -1 ≤ cellT T a b ∧ cellT T a b ≤ 100) ∧ k ≤ 11 ∧ Dr g (A + 1000) w0 w' ∧ Dr g (A + 1000) w w' := by
  have hg := h.cur.lt
  have hself := Dr.refl h.cur
  have C0 : CoR w g A (some ⟨w.heap.size, 0, none⟩) 0 0 m (w.alloc (.cells #[] 22)) := ⟨⟨[], OwnSS.made0 w (Nat.le_refl _) (by simp), fun a b => by simp [cellT, nthL, nth], fun i hi => by omega⟩, hself.alloc _⟩
  clear hself
  go_enter Try.func109, Try.ntmps109
  go_wp2
  go_loopw [7, 8] (fun t i wr => ∃ (j : Nat) (p : Option Addr) (c : Nat), j ≤ n ∧ i = .int .i64 j ∧ t = .slice p j c ∧ CoR w g (A + 20 * j) p j c m wr) (fun _ i _ => n - (intOf i).toNat)
  case atStart => exact ⟨0, _, _, Nat.zero_le _, rfl, rfl, C0⟩
  case round =>
    clear C0
    obtain ⟨j, p, c, hj, rfl, rfl, C⟩ := hrel
    obtain ⟨wo, rfl⟩ : ∃ wo : World, wo = wr := ⟨_, rfl⟩
    by_cases hlt : j < n
    · have vj : (j : Int) < (n : Int) := by omega
      obtain ⟨⟨T, oT, bT, rT⟩, D⟩ := C
      have hsz := D.size
      have OT := Lib.hid oT; have BT := Lib.hid bT; have RT := Lib.hid rT
      have o1 := Own.made0 (B := wo.heap.size) wo (Nat.le_refl _)
      have D1 := D.alloc (.cells #[] 3)
      have oT1 := oT.fr ((Fr.refl wo).alloc (.cells #[] 3))
      clear oT bT rT D
      go_wp2
      go_loopw [9, 10] (fun r i wr => ∃ (k : Nat) (q : Option Addr) (cr : Nat) (row : List Int), k ≤ m ∧ i = .int .i64 k ∧ r = .slice q k cr ∧ Own wo.heap.size wr q k cr row ∧ Hid (∀ b, -1 ≤ nth row b ∧ nth row b ≤ 100) ∧ OwnSS w.heap.size wo.heap.size wr p j c T ∧ Dr g (A + 20 * j + 2 * k) w wr ∧ wo.heap.size ≤ wr.heap.size) (fun _ i _ => m - (intOf i).toNat)
      case atStart => exact ⟨0, _, _, [], Nat.zero_le _, rfl, rfl, o1, Lib.hid (fun b => by simp [nth]), oT1, D1, by simp⟩
      case round =>
        clear o1 D1 oT1
        obtain ⟨k, q, cr, row, hk, rfl, rfl, or, hb, oT, D, hz⟩ := hrel
        obtain ⟨wi, rfl⟩ : ∃ wo : World, wo = wr := ⟨_, rfl⟩
        by_cases hkt : k < m
        · have vk : (k : Int) < (m : Int) := by omega
          go_wp2_with fail
          refine (pick_dr _ 9 D (by omega) (by unfold I64; omega)).mono ?_
          rintro e w2 ⟨x, rfl, hx, D2, E2⟩
          have or2 := E2.own or (by omega)
          have oT2 := E2.ss oT hg
          have hz2 := E2.size
          clear D E2 or oT
          go_wp2_with (at_builtin; refine ap_int _ rfl _ _ rfl wo.heap.size q k cr _ _ rfl rfl or2 (by omega) (by unfold I64; omega) (by omega) ?_)
          intro g' c' w' hown hgr _
          have D3 := D2.app hgr (fun t ht => by have := (or2.blk t ht).1; omega) hg
          have oT3 := oT2.keep (p := q) hgr (fun t ht => .inr (or2.blk t ht).1)
          have hz3 := hgr.size
          clear or2 D2 oT2 hgr
          go_wp2
          go_roundw
          case rel => exact ⟨k + 1, _, _, _, by omega, by go_num, rfl, hown, Lib.hid (nth_snoc hb.out (by omega)), oT3, D3.mono (by omega), by omega⟩
          case measure => simp [intOf]; omega
        · obtain rfl : m = k := by omega
          have hin := or.within
          go_wp2_with (at_builtin; refine ap_row _ rfl _ _ rfl w.heap.size wo.heap.size p j c T q m cr row rfl rfl oT hsz hz (or.mono hsz) hin (by omega) ?_)
          intro g5 c5 w3 hown hgr hnew
          have D3 := D.app hgr (fun t ht => (oT.within t ht).1) hg
          have C3 : CoR w g (A + 20 * (j + 1)) (some ⟨g5, 0, none⟩) (j + 1) c5 m w3 := ⟨⟨_, hown, app_cell BT.out hb.out (by omega), app_len oT.len RT.out or.len⟩, D3.mono (by omega)⟩
          clear or D oT hown hgr
          go_wp2
          go_roundw
          case rel => exact ⟨j + 1, _, _, by omega, by go_num, rfl, C3⟩
          case measure => simp [intOf]; omega
    · obtain rfl : n = j := by omega
      have C1 := C.mono (show A + 20 * n ≤ A + 200 by omega)
      clear C
      go_upto_region 11 with fail
      go_cut [41] from 32 to 41 (fun b wx => ∃ bb : Bool, b = .bool bb ∧ (bb = true → 0 < n ∧ 0 < m) ∧ CoR w g (A + 202) p n c m wx)
      case first =>
        by_cases n0 : 0 < n
        · by_cases m0 : 0 < m
          · have vn : (0 : Int) < (n : Int) := by omega
            have vm : (0 : Int) < (m : Int) := by omega
            go_wp2_with fail
            refine (one_dr _ 30 C1.D (by omega) (by unfold I64; omega)).mono ?_
            rintro e w7 ⟨b, rfl, D7, E7⟩
            have C2 := C1.step hg E7
            clear C1 D7 E7
            go_wp2_with fail
            go_meet
            exact ⟨b, rfl, fun _ => ⟨n0, m0⟩, C2⟩
          · have vm : ¬ (0 : Int) < (m : Int) := by omega
            go_wp2_with fail
            go_meet
            exact ⟨false, rfl, fun e => (by cases e), C1.mono (by omega)⟩
        · have vm : ¬ (0 : Int) < (n : Int) := by omega
          go_wp2_with fail
          go_meet
          exact ⟨false, rfl, fun e => (by cases e), C1.mono (by omega)⟩
      case rest =>
        obtain ⟨bb, rfl, hbb, C2⟩ := hcut
        obtain ⟨w5, rfl⟩ : ∃ wz : World, wz = wc := ⟨_, rfl⟩
        clear C1
        go_upto_if 41 with fail
        go_cut [] from 42 to 48 (fun wx => CoI w g (A + 204) p n c wx)
        case first =>
          cases bb
          · go_wp2_with fail
            go_meet
            exact C2.co.mono (by omega)
          · obtain ⟨n0, m0⟩ := hbb rfl
            have hlt5 := C2.D.cur.lt
            obtain ⟨gt, r, cr, x, rfl, s1, e1, z1, ngr, lgt, lr, _⟩ := C2.spot hg n0 m0
            have ngt : g ≠ gt := by omega
            have ngs : some (⟨gt, 0, none⟩ : Addr).block ≠ some g := fun e => ngt (by injection e with e; exact e.symm)
            have CA : CoR w g (A + 202) (some ⟨gt, 0, none⟩) n c m (w5.alloc (.cells #[.int .i64 (-1), .int .i64 99, .int .i64 100] 3)) := C2.fr ((Fr.refl w5).alloc _)
            have CB : CoR w g (A + 202) (some ⟨gt, 0, none⟩) n c m (w5.alloc (.cells #[.int .i64 (-1), .int .i64 99, .int .i64 100] 3)).drew := C2.fr (((Fr.refl w5).alloc _).drew' 1)
            have sA : (w5.alloc (.cells #[.int .i64 (-1), .int .i64 99, .int .i64 100] 3)).cell? ⟨gt, 0, none⟩ = _ := ((Fr.refl w5).alloc _).keep s1
            have sB : (w5.alloc (.cells #[.int .i64 (-1), .int .i64 99, .int .i64 100] 3)).drew.cell? ⟨gt, 0, none⟩ = _ := sA
            have LA := lit3 w5
            have LB : ∀ i, i < 3 → ∃ x, (w5.alloc (.cells #[.int .i64 (-1), .int .i64 99, .int .i64 100] 3)).drew.cell? ⟨w5.heap.size, i, none⟩ = some (.int .i64 x) ∧ (-1 ≤ x ∧ x ≤ 100) := LA
            clear e1 z1 hbb
            go_upto_region 12 with fail
            go_region_held3 (fun w' => w'.cell? ⟨gt, 0, none⟩ = some (.slice (some ⟨r, 0, none⟩) m cr))
              (first | (with_reducible exact sD) | (with_reducible exact sC) | (with_reducible exact sB) | (with_reducible exact sA) | (with_reducible exact s1) | go_keep)
              (first | (go_at_call 110; refine (among_any g _ _ 3 3 (fun x => -1 ≤ x ∧ x ≤ 100) _ (by first | with_reducible exact CB.D.cur | with_reducible exact CA.D.cur) (by omega) (by omega) (by omega) (by omega) (by first | with_reducible exact LB | with_reducible exact LA)).mono ?_; rintro e wb ⟨z, rfl, hz, Cb, gB⟩; have EB : Dr g _ _ wb := ⟨Cb, gB⟩; have sC := EB.grow.cell (by first | with_reducible exact sB | with_reducible exact sA) ngs; have PB : CoR w g _ (some ⟨gt, 0, none⟩) n c m wb := (by first | with_reducible exact CB.step hg EB | with_reducible exact CA.step hg EB); obtain ⟨gy, r2, cr2, x2, hgy, s2, e2, z2, n2, l2, m2, set2⟩ := PB.spot hg n0 m0; injection hgy with hgy; injection hgy with hgy; subst hgy; have sq := s2.symm.trans sC; injection sq with sq; injection sq with sq; injection sq with sq; injection sq with sq; subst sq; have IZ : I64 z := (by unfold I64; omega); have sD := (grownBy_setCell (grownBy_refl wb (some r2)) (p := ⟨r2, 0, none⟩) rfl (.int .i64 z)).cell sC (fun e => n2 (by injection e)); have FIN := Lib.hid (set2 z hz); clear set2 n2 l2 m2 s2))
            all_goals
              have FN := Lib.hid (CoI.mono FIN.out (show _ ≤ A + 204 by omega))
              clear FIN
              go_wp2_with fail
              go_meet
              exact FN.out
        case rest =>
          obtain ⟨w6, rfl⟩ : ∃ wz : World, wz = wc := ⟨_, rfl⟩
          have C3 := hcut
          clear hcut C2 hbb
          go_wp2_with fail
          refine (one_dr _ 40 C3.D (by omega) (by unfold I64; omega)).mono ?_
          rintro e w7 ⟨b, rfl, D7, E7⟩
          have C4 := C3.step hg E7
          clear C3 D7 E7
          obtain ⟨⟨T, oT, bT⟩, D⟩ := C4
          have BT := Lib.hid bT
          have hsz := D.size
          clear bT
          cases b
          · go_wp2
            go_ret
            exact ⟨_, _, _, T, rfl, oT, BT.out, by omega, h.trans (D.mono (by omega)), D.mono (by omega)⟩
          · have o1 := Own.made0 (B := w7.heap.size) w7 (Nat.le_refl _)
            have D1 := D.alloc (.cells #[] 3)
            have oT1 := oT.fr ((Fr.refl w7).alloc (.cells #[] 3))
            have hin := o1.within
            clear oT D
            go_wp2_with (at_builtin; refine ap_rowN (w7.alloc (.cells #[] 3)) _ (World.size_alloc _ _) rfl _ _ rfl w.heap.size w7.heap.size p n c T _ _ _ _ rfl rfl oT1 hsz (by simp) (o1.mono hsz) hin (by omega) ?_)
            intro g5 c5 w3 hown hgr hnew
            have D3 := D1.app hgr (fun t ht => (oT1.within t ht).1) hg
            go_wp2
            go_ret
            exact ⟨_, _, _, _, rfl, hown, app_cell BT.out (fun b => by simp [nth]) (by omega), by omega, h.trans (D3.mono (by omega)), D3.mono (by omega)⟩
end Go.Proofs.Ytboekndojgbkfaa
