import Derived.Test.YtboekndojgbkfaaDrawK
/- Draws of plans with costs, and of potentials. -/
set_option linter.unusedVariables false
namespace Go.Proofs.Ytboekndojgbkfaa
open Go.ChangeShapes Go.WideShapes Go.ChangeAt Go.RowKit
set_option maxRecDepth 100000 in
theorem DrawPlanCost_any (w : World) (a : Option Addr) (n cap : Nat) (zs : List Int) (h : SLB w a n cap zs) :
    Calls Try.prog 67 #[.slice a n cap] w fun e w' => ∃ (p : Option Addr) (m c : Nat) (q : Option Addr) (k d : Nat) (t : Option Addr) (i ct : Nat) (s : Option Addr) (j cs : Nat), e = .returned (.tuple #[.slice p m c, .slice q k d, .slice t i ct, .slice s j cs]) ∧ (∃ xs ys T C, SL w' p m c xs ∧ SL w' q k d ys ∧ SS w' t i ct T ∧ SS w' s j cs C) ∧ (m ≤ 9 ∧ k ≤ 9 ∧ i ≤ 9 ∧ j ≤ 11) ∧ Fr w w' := by
  have D0 := Dr.start h
  have HE : Hid (∀ (A : Nat) (w' : World), Dr w.heap.size A (w.alloc (.cells #[.slice a n cap, .int .i64 0, .int .u64 0] 73)) w' → Fr w w') := Lib.hid fun A w' h => h.ends rfl
  have hg : w.heap.size < (w.alloc (.cells #[.slice a n cap, .int .i64 0, .int .u64 0] 73)).heap.size := by simp
  clear h
  go_enter Try.func67, Try.ntmps67
  go_wp2_with fail
  generalize w.alloc (.cells #[.slice a n cap, .int .i64 0, .int .u64 0] 73) = v0 at D0 HE hg ⊢
  refine (planned_dr _ D0 (by omega)).mono ?_
  rintro e w1 ⟨p, m, c, q, k, d, t, r, s, rfl, ⟨xs, ys, T, op, oq, oT⟩, hm, D1⟩
  clear D0
  have hz := D1.size
  go_wp2_with fail
  refine (costTable_dr _ m k D1 (by omega) (by omega) (by omega)).mono ?_
  rintro e w2 ⟨t2, k2, c2, C, rfl, oC, bC, hk2, D2, E2⟩
  have op2 := E2.own op hg
  have oq2 := E2.own oq hg
  have oT2 := E2.ss oT hg
  clear D1 E2 op oq oT
  go_wp2
  refine bodyPost_ret (v := .tuple #[.slice p m c, .slice q k d, .slice t r s, .slice t2 k2 c2]) (by simp [results, Try.results67, go_sem]) rfl ?_
  exact ⟨_, _, _, _, _, _, _, _, _, _, _, _, rfl, ⟨_, _, _, _, op2.sl, oq2.sl, oT2.ss, oC.ss⟩, by omega, HE.out _ _ D2⟩
/-- Potentials that are being drawn. -/
structure PoI (v0 : World) (g A B H L : Nat) (p q t : Option Addr) (m c k d j ct : Nat) (u v : Option Addr) (i cu r cv : Nat) (wr : World) : Prop where
  op : ∃ xs, Own v0.heap.size wr p m c xs
  oq : ∃ ys, Own v0.heap.size wr q k d ys
  oT : ∃ C, OwnSS B H wr t j ct C ∧ ∀ a b, -1 ≤ cellT C a b ∧ cellT C a b ≤ 100
  ou : ∃ us, Own L wr u i cu us ∧ ∀ b, -2 ≤ nth us b ∧ nth us b ≤ 2
  ov : ∃ vs, Own L wr v r cv vs
  ap : Apart u v
  D : Dr g A v0 wr
  wp : Within p v0.heap.size L
  wq : Within q v0.heap.size L
  lo : v0.heap.size ≤ B
  hi : H ≤ L
  lim : v0.heap.size ≤ L
  sz : L ≤ wr.heap.size
section
variable {v0 wr w' : World} {g A A' B H L : Nat} {p q t : Option Addr} {m c k d j ct : Nat} {u v : Option Addr} {i cu r cv : Nat}
theorem PoI.mono (h : PoI v0 g A B H L p q t m c k d j ct u v i cu r cv wr) (hA : A ≤ A') : PoI v0 g A' B H L p q t m c k d j ct u v i cu r cv wr :=
  ⟨h.op, h.oq, h.oT, h.ou, h.ov, h.ap, h.D.mono hA, h.wp, h.wq, h.lo, h.hi, h.lim, h.sz⟩
theorem PoI.fr (h : PoI v0 g A B H L p q t m c k d j ct u v i cu r cv wr) (f : Fr wr w') : PoI v0 g A B H L p q t m c k d j ct u v i cu r cv w' := by
  obtain ⟨⟨xs, h1⟩, ⟨ys, h2⟩, ⟨C, h3, h3'⟩, ⟨us, h4, h4'⟩, ⟨vs, h5⟩, h6, h7, h8, h9, h10, h11, h12, h13⟩ := h
  exact ⟨⟨xs, h1.fr f⟩, ⟨ys, h2.fr f⟩, ⟨C, h3.fr f, h3'⟩, ⟨us, h4.fr f, h4'⟩, ⟨vs, h5.fr f⟩, h6, h7.fr f, h8, h9, h10, h11, h12, Nat.le_trans h13 f.size⟩
theorem PoI.step (h : PoI v0 g A B H L p q t m c k d j ct u v i cu r cv wr) (hg : g < v0.heap.size) (E : Dr g A' wr w') : PoI v0 g A' B H L p q t m c k d j ct u v i cu r cv w' := by
  obtain ⟨⟨xs, h1⟩, ⟨ys, h2⟩, ⟨C, h3, h3'⟩, ⟨us, h4, h4'⟩, ⟨vs, h5⟩, h6, h7, h8, h9, h10, h11, h12, h13⟩ := h
  exact ⟨⟨xs, E.own h1 hg⟩, ⟨ys, E.own h2 hg⟩, ⟨C, E.ss h3 (by omega), h3'⟩, ⟨us, E.own h4 (by omega), h4'⟩, ⟨vs, E.own h5 (by omega)⟩, h6, h7.trans E, h8, h9, h10, h11, h12, Nat.le_trans h13 E.size⟩
theorem PoI.appU (h : PoI v0 g A B H L p q t m c k d j ct u v i cu r cv wr) (hg : g < v0.heap.size) {g' i' c' : Nat} {us' : List Int} (ho : Own L w' (some ⟨g', 0, none⟩) i' c' us') (hb : ∀ b, -2 ≤ nth us' b ∧ nth us' b ≤ 2) (hgr : wr.grownBy w' (blkOf u)) (hnew : blkOf u = some g' ∨ wr.heap.size ≤ g') :
    PoI v0 g A B H L p q t m c k d j ct (some ⟨g', 0, none⟩) v i' c' r cv w' := by
  obtain ⟨⟨xs, h1⟩, ⟨ys, h2⟩, ⟨C, h3, h3'⟩, ⟨us, h4, h4'⟩, ⟨vs, h5⟩, h6, h7, h8, h9, h10, h11, h12, h13⟩ := h
  have key : ∀ x : Option Addr, (∀ z, blkOf x = some z → blkOf u = some z → False) → blkOf x = none ∨ blkOf x ≠ blkOf u := fun x hx => by
    cases e : blkOf x with
    | none => exact .inl rfl
    | some z => exact .inr (fun e2 => hx z e e2.symm)
  refine ⟨⟨xs, h1.grown hgr (key _ fun z e1 e2 => ?_)⟩, ⟨ys, h2.grown hgr (key _ fun z e1 e2 => ?_)⟩, ⟨C, h3.keep (p := u) hgr (fun z e => .inr ?_), h3'⟩, ⟨us', ho, hb⟩, ⟨vs, h5.grown hgr (key _ fun z e1 e2 => h6 z e2 e1)⟩, fun z e1 e2 => ?_, h7.app hgr (fun z e => ?_) hg, h8, h9, h10, h11, h12, Nat.le_trans h13 hgr.size⟩
  · have := h8 z e1; have := h4.blk z e2; omega
  · have := h9 z e1; have := h4.blk z e2; omega
  · have := h4.blk z e; omega
  · obtain rfl : g' = z := by simpa [blkOf] using e1
    rcases hnew with e | e
    · exact h6 g' e e2
    · have := h5.blk g' e2; omega
  · have := h4.blk z e; omega
theorem PoI.appV (h : PoI v0 g A B H L p q t m c k d j ct u v i cu r cv wr) (hg : g < v0.heap.size) {g' r' c' : Nat} {vs' : List Int} (ho : Own L w' (some ⟨g', 0, none⟩) r' c' vs') (hgr : wr.grownBy w' (blkOf v)) (hnew : blkOf v = some g' ∨ wr.heap.size ≤ g') :
    PoI v0 g A B H L p q t m c k d j ct u (some ⟨g', 0, none⟩) i cu r' c' w' := by
  obtain ⟨⟨xs, h1⟩, ⟨ys, h2⟩, ⟨C, h3, h3'⟩, ⟨us, h4, h4'⟩, ⟨vs, h5⟩, h6, h7, h8, h9, h10, h11, h12, h13⟩ := h
  have key : ∀ x : Option Addr, (∀ z, blkOf x = some z → blkOf v = some z → False) → blkOf x = none ∨ blkOf x ≠ blkOf v := fun x hx => by
    cases e : blkOf x with
    | none => exact .inl rfl
    | some z => exact .inr (fun e2 => hx z e e2.symm)
  refine ⟨⟨xs, h1.grown hgr (key _ fun z e1 e2 => ?_)⟩, ⟨ys, h2.grown hgr (key _ fun z e1 e2 => ?_)⟩, ⟨C, h3.keep (p := v) hgr (fun z e => .inr ?_), h3'⟩, ⟨us, h4.grown hgr (key _ fun z e1 e2 => h6 z e1 e2), h4'⟩, ⟨vs', ho⟩, fun z e1 e2 => ?_, h7.app hgr (fun z e => ?_) hg, h8, h9, h10, h11, h12, Nat.le_trans h13 hgr.size⟩
  · have := h8 z e1; have := h5.blk z e2; omega
  · have := h9 z e1; have := h5.blk z e2; omega
  · have := h5.blk z e; omega
  · obtain rfl : g' = z := by simpa [blkOf] using e2
    rcases hnew with e | e
    · exact h6 g' e1 e
    · have := h4.blk g' e1; omega
  · have := h5.blk z e; omega
end
theorem quo11 {r : Int} (h : 0 ≤ r ∧ (r < 12 ∨ r = 0)) : 0 ≤ r / 11 ∧ r / 11 ≤ 1 := by omega
set_option maxRecDepth 100000 in
set_option maxHeartbeats 1000000 in
theorem DrawArePotentials_any (w : World) (a : Option Addr) (n cap : Nat) (zs : List Int) (h : SLB w a n cap zs) :
    Calls Try.prog 68 #[.slice a n cap] w fun e w' => ∃ (p : Option Addr) (m c : Nat) (q : Option Addr) (k d : Nat) (u : Option Addr) (i cu : Nat) (v : Option Addr) (r cv : Nat) (s : Option Addr) (j cs : Nat), e = .returned (.tuple #[.slice p m c, .slice q k d, .slice u i cu, .slice v r cv, .slice s j cs]) ∧ (∃ xs ys us vs C, SL w' p m c xs ∧ SL w' q k d ys ∧ SL w' u i cu us ∧ SL w' v r cv vs ∧ SS w' s j cs C) ∧ (m ≤ 10 ∧ k ≤ 10 ∧ i ≤ 10 ∧ r ≤ 10 ∧ j ≤ 11) ∧ Fr w w' := by
  have D0 := Dr.start h
  have HE : Hid (∀ (A : Nat) (w' : World), Dr w.heap.size A (w.alloc (.cells #[.slice a n cap, .int .i64 0, .int .u64 0] 73)) w' → Fr w w') := Lib.hid fun A w' h => h.ends rfl
  have hg : w.heap.size < (w.alloc (.cells #[.slice a n cap, .int .i64 0, .int .u64 0] 73)).heap.size := by simp
  clear h
  go_enter Try.func68, Try.ntmps68
  go_wp2_with fail
  generalize w.heap.size = g at D0 HE hg ⊢
  generalize w.alloc (.cells #[.slice a n cap, .int .i64 0, .int .u64 0] 73) = v0 at D0 HE hg ⊢
  refine (twoSpreads_dr _ D0 (by omega)).mono ?_
  rintro e w1 ⟨p, m, c, q, k, d, rfl, ⟨xs, ys, op, oq⟩, hm, hk, D1, -⟩
  clear D0
  go_wp2_with fail
  refine (costTable_dr _ m k D1 (by omega) (by omega) (by omega)).mono ?_
  rintro e w2 ⟨t, j, ct, C, rfl, oC, bC, hj, D2, E2⟩
  have op2 := E2.own op hg
  have oq2 := E2.own oq hg
  have hz1 := D1.size; have hz2 := E2.size
  have S0 : PoI v0 g (0 + 1000 + 1000) w1.heap.size w2.heap.size w2.heap.size p q t m c k d j ct (some ⟨w2.heap.size, 0, none⟩) (some ⟨w2.heap.size + 1, 0, none⟩) 0 0 0 0 ((w2.alloc (.cells #[] 3)).alloc (.cells #[] 3)) := by
    have F1 := (Fr.refl w2).alloc (.cells #[] 3)
    have F2 := (Fr.refl (w2.alloc (.cells #[] 3))).alloc (.cells #[] 3)
    have o1 := (Own.made0 (B := w2.heap.size) w2 (Nat.le_refl _)).fr F2
    have o2 := Own.made0 (B := w2.heap.size) (w2.alloc (.cells #[] 3)) (by simp)
    rw [World.size_alloc] at o2
    have hw1 := op2.within; have hw2 := oq2.within
    exact ⟨⟨_, (op2.fr F1).fr F2⟩, ⟨_, (oq2.fr F1).fr F2⟩, ⟨C, (oC.fr F1).fr F2, bC⟩, ⟨_, o1, fun b => by simp [nth]⟩, ⟨_, o2⟩, fun z e1 e2 => by simp [blkOf] at e1 e2; omega, (D2.fr F1).fr F2, hw1, hw2, hz1, Nat.le_refl _, by omega, by simp; omega⟩
  clear D1 E2 op oq oC bC D2 op2 oq2 hz1 hz2
  generalize w1.heap.size = B at S0
  go_wp2
  go_loopw [11, 13] (fun u x wr => ∃ (i : Nat) (ua : Option Addr) (cu : Nat), i ≤ m ∧ x = .int .i64 i ∧ u = .slice ua i cu ∧ PoI v0 g (2000 + 2 * i) B w2.heap.size w2.heap.size p q t m c k d j ct ua (some ⟨w2.heap.size + 1, 0, none⟩) i cu 0 0 wr) (fun _ i _ => m - (intOf i).toNat)
  case atStart => exact ⟨0, _, _, Nat.zero_le _, rfl, rfl, S0⟩
  case round =>
    clear S0
    obtain ⟨i, ua, cu, hi, rfl, rfl, S⟩ := hrel
    obtain ⟨wo, rfl⟩ : ∃ wo : World, wo = wr := ⟨_, rfl⟩
    by_cases hlt : i < m
    · have vi : (i : Int) < (m : Int) := by omega
      go_wp2_with fail
      refine (pick_dr _ 5 S.D (by omega) (by unfold I64; omega)).mono ?_
      rintro e w3 ⟨x, rfl, hx, D3, E3⟩
      have S3 := S.step hg E3
      clear D3 E3 S
      obtain ⟨us, ou, bu⟩ := S3.ou
      have BU := Lib.hid bu
      clear bu
      go_wp2_with (at_builtin; refine ap_int _ rfl _ _ rfl w2.heap.size ua i cu us _ rfl rfl ou S3.sz (by unfold I64; omega) (by omega) ?_)
      intro g' c' w' hown hgr hnew
      have S4 := S3.appU hg hown (nth_snoc BU.out (by omega)) hgr hnew
      clear S3 ou hown hgr
      go_wp2
      go_roundw
      case rel => exact ⟨i + 1, _, _, by omega, by go_num, rfl, S4.mono (by omega)⟩
      case measure => simp [intOf]; omega
    · obtain rfl : m = i := by omega
      have S1 := S.mono (show 2000 + 2 * m ≤ 2030 by omega)
      clear S
      go_wp2
      go_loopw [12, 14] (fun u x wr => ∃ (r : Nat) (va : Option Addr) (cv : Nat), r ≤ k ∧ x = .int .i64 r ∧ u = .slice va r cv ∧ PoI v0 g (2030 + 2 * r) B w2.heap.size w2.heap.size p q t m c k d j ct ua va m cu r cv wr) (fun _ i _ => k - (intOf i).toNat)
      case atStart => exact ⟨0, _, _, Nat.zero_le _, rfl, rfl, S1⟩
      case round =>
        clear S1
        obtain ⟨r, va, cv, hr, rfl, rfl, S⟩ := hrel
        obtain ⟨wo, rfl⟩ : ∃ wo : World, wo = wr := ⟨_, rfl⟩
        by_cases hlt : r < k
        · have vr0 : (0 : Int) ≤ (r : Int) := by omega
          have vr : (r : Int) < (k : Int) := by omega
          obtain ⟨C, oT, bC⟩ := S.oT
          obtain ⟨us, ou, bu⟩ := S.ou
          have BC := Lib.hid bC; have BU := Lib.hid bu
          clear bC bu
          go_wp2
          go_loopw [15, 16] (fun z x wr => ∃ (i : Nat) (y : Int), i ≤ j ∧ x = .int .i64 i ∧ z = .int .i64 y ∧ (-3 ≤ y ∧ y ≤ 99) ∧ Qt wo wr) (fun _ i _ => j - (intOf i).toNat)
          case atStart => exact ⟨0, 99, Nat.zero_le _, rfl, rfl, by omega, Qt.refl _⟩
          case round =>
            obtain ⟨i, y, hi, rfl, rfl, hy, hQ⟩ := hrel
            obtain ⟨wi, rfl⟩ : ∃ wo : World, wo = wr := ⟨_, rfl⟩
            by_cases hb : i < j ∧ i < m
            · obtain ⟨hij, him⟩ := hb
              have vi0 : (0 : Int) ≤ (i : Int) := by omega
              have vi : (i : Int) < (j : Int) := by omega
              have vm : (i : Int) < (m : Int) := by omega
              obtain ⟨gt, pr, mr, cr, rfl, q1, orow, _, _, _⟩ := (oT.fr hQ.fr).rowAt hij
              obtain ⟨gu, rfl, _, _, q3, _⟩ := (ou.fr hQ.fr).op (by omega)
              replace q3 := q3 i him
              by_cases hrm : r < mr
              · have vrm : (r : Int) < (mr : Int) := by omega
                obtain ⟨gr, rfl, _, _, q2, _⟩ := orow.op (by omega)
                replace q2 := q2 r hrm
                have b1 := BC.out i r
                have b2 := BU.out i
                rw [cellT] at b1
                have e1 : IntKind.i64.wrap (nth (nthL C i) r - nth us i) = nth (nthL C i) r - nth us i := IntWalk.i64_in _ (by omega)
                go_wp2
                go_quiet ((go_at_call 89; exact qofe (l1Least_any _ _ _)))
                go_wp2
                go_roundw
                case rel => exact ⟨i + 1, _, by omega, by go_num, rfl, by omega, hQ.drewN _⟩
                case measure => simp [intOf]; omega
              · have vrm : ¬ (r : Int) < (mr : Int) := by omega
                go_wp2
                go_roundw
                case rel => exact ⟨i + 1, y, by omega, by go_num, rfl, hy, hQ⟩
                case measure => simp [intOf]; omega
            · have HH : (i < j ∧ ¬ i < m) ∨ ¬ i < j := by omega
              have S2 := S.fr hQ.fr
              clear S hb oT ou
              rcases HH with ⟨hij, him⟩ | hij
              all_goals
                go_wp2_with fail
                refine (pick_dr _ 12 S2.D (by omega) (by unfold I64; omega)).mono ?_
                rintro e w5 ⟨x, rfl, hx, D5, E5⟩
                have hd := quo11 hx
                have S5 := S2.step hg E5
                clear S2 D5 E5
                obtain ⟨vs, ov⟩ := S5.ov
                have hsz := S5.sz
                go_wp2_with (at_builtin; refine ap_int _ rfl _ _ rfl w2.heap.size va r cv vs _ rfl rfl ov hsz (by unfold I64; omega) (by omega) ?_)
                intro g' c' w' hown hgr hnew
                have S6 := S5.appV hg hown hgr hnew
                clear S5 ov hown hgr
                go_wp2
                go_roundw
                case rel => exact ⟨r + 1, _, _, by omega, by go_num, rfl, S6.mono (by omega)⟩
                case measure => simp [intOf]; omega
        · obtain rfl : k = r := by omega
          have S2 := S.mono (show 2030 + 2 * k ≤ 2060 by omega)
          clear S
          have vm : (0 : Int) < (m : Int) := by omega
          go_wp2_with fail
          refine (one_dr _ 24 S2.D (by omega) (by unfold I64; omega)).mono ?_
          rintro e w5 ⟨b, rfl, D5, E5⟩
          have S5 := S2.step hg E5
          clear S2 D5 E5
          cases b
          · go_wp2
            obtain ⟨⟨xs, h1⟩, ⟨ys, h2⟩, ⟨C, h3, _⟩, ⟨us, h4, _⟩, ⟨vs, h5⟩, _, h7, _⟩ := S5
            refine bodyPost_ret (v := .tuple #[.slice p m c, .slice q k d, .slice ua m cu, .slice va k cv, .slice t j ct]) (by simp [results, Try.results68, go_sem]) rfl ?_
            exact ⟨_, _, _, _, _, _, _, _, _, _, _, _, _, _, _, rfl, ⟨_, _, _, _, _, h1.sl, h2.sl, h4.sl, h5.sl, h3.ss⟩, by omega, HE.out _ _ h7⟩
          · go_wp2_with fail
            refine (among_dr _ (-999) 4611686018427387904 [999, -999, 1000, 4611686018427387904] _ _ _ _ S5.D (by omega) rfl rfl (by decide) (by decide) (by first | rfl | simp) (by decide)).mono ?_
            rintro e w6 ⟨z, rfl, hz, D6, E6⟩
            have S6 := S5.step hg E6
            clear S5 D6 E6
            obtain ⟨⟨xs, h1⟩, ⟨ys, h2⟩, ⟨C, h3, _⟩, ⟨us, h4, _⟩, ⟨vs, h5⟩, h6, h7, h8, h9, h10, h11, h12, h13⟩ := S6
            obtain ⟨gu, rfl, hgu, _, q1, q2⟩ := h4.op (by omega)
            replace q1 := q1 0 (by omega)
            replace q2 := q2 0
            have HF := Lib.hid (And.intro (h1.setOther (p := ⟨gu, 0, none⟩) (fun e => by have := h8 gu e; omega) (.int .i64 z)).sl (And.intro (h2.setOther (p := ⟨gu, 0, none⟩) (fun e => by have := h9 gu e; omega) (.int .i64 z)).sl (And.intro (h3.put (p := ⟨gu, 0, none⟩) (.inr (by show w2.heap.size ≤ gu; omega)) (.int .i64 z)).ss
              (And.intro (h4.set rfl (i := 0) (by omega) (show I64 z by unfold I64; omega)).sl (And.intro (h5.setOther (p := ⟨gu, 0, none⟩) (fun e => h6 gu rfl e) (.int .i64 z)).sl (HE.out _ _ (h7.set (q := ⟨gu, 0, none⟩) (by show v0.heap.size ≤ gu; omega) hg (.int .i64 z))))))))
            clear h1 h2 h3 h4 h5 h6 h7
            go_wp2
            refine bodyPost_ret (v := .tuple #[.slice p m c, .slice q k d, .slice (some ⟨gu, 0, none⟩) m cu, .slice va k cv, .slice t j ct]) (by simp [results, Try.results68, go_sem]) rfl ?_
            exact ⟨_, _, _, _, _, _, _, _, _, _, _, _, _, _, _, rfl, ⟨_, _, _, _, _, HF.out.1, HF.out.2.1, HF.out.2.2.2.1, HF.out.2.2.2.2.1, HF.out.2.2.1⟩, by omega, HF.out.2.2.2.2.2⟩
end Go.Proofs.Ytboekndojgbkfaa
