import Derived.Test.YtboekndojgbkfaaLeastC
/- The walk of the reference's cheapest plan. -/
set_option linter.unusedVariables false
namespace Go.Proofs.Ytboekndojgbkfaa
open Go.ChangeShapes Go.WideShapes Go.ChangeAt Go.RowKit
set_option maxRecDepth 100000 in
set_option maxHeartbeats 1000000 in
theorem l10Cheapest_any (w : World) (a b c : Option Addr) (n c1 c2 cc : Nat) (p q : List Int) (T : List (List Int)) (hp : SL w a n c1 p) (hq : SL w b n c2 q) (hc : SS w c n cc T) (hal : alikeB p q = true) (hcs : costsB p q T = true) :
    Calls Try.prog 95 #[.slice a n c1, .slice b n c2, .slice c n cc] w fun e w' => ∃ (t : Option Addr) (ct : Nat) (X : Nat → Nat → Int) (h l : Nat → Int), e = .returned (.slice t n ct) ∧ SS w' t n ct (tab n X) ∧ RunS farS n (cellT T) X (nth p) (nth q) h l 0 ∧ Fr w w' := by
  have hl := hp.len
  obtain ⟨s1, s2, s3, s4⟩ := alikeB_iff.1 hal
  have l8 := (spreadB_iff.1 s1).1
  have hws := (spreadB_iff.1 s1).2.2
  have HT : Hid (∀ i k, 0 ≤ cellT T i k ∧ cellT T i k ≤ 99) := Lib.hid (costs_cell hcs)
  have HL : Hid (∀ i, i < n → (nthL T i).length = n) := Lib.hid fun i hi => by
    have h1 := (costsB_iff.1 hcs)
    have := (costRow_iff.1 (h1.2 i (by omega))).1
    rw [this]; omega
  obtain ⟨u0, hu0⟩ := Int.eq_ofNat_of_zero_le (show 0 ≤ wsum p by omega)
  have HR0 : Hid (RunS farS n (cellT T) (fun _ _ => 0) (nth p) (nth q) (nth p) (nth q) u0) := Lib.hid (RunS.start hal hl (by decide) (fun i k _ _ => HT.out i k) hu0)
  have HP : Hid (∀ i, i < n → nth p i ≤ 40) := Lib.hid fun i _ => (spread_nth s1 i).2
  have Sc := Lib.hid hc
  have ep : p = lst n (nth p) := lst_of hl
  have eq : q = lst n (nth q) := lst_of hq.len
  have EP := Lib.hid ep; have EQ := Lib.hid eq
  have hn : 1 ≤ n ∧ n ≤ 8 := by omega
  have hu40 : u0 ≤ 40 := by omega
  clear s1 s2 s3 s4 hcs hal hc ep eq hl l8 hws
  go_enter Try.func95, Try.ntmps95
  go_wp2_with fail
  refine (l10Empty_any _ n n (by omega) (by omega)).mono ?_
  rintro e w1 ⟨t, n1, ct, rfl, oT, f1, -⟩
  obtain rfl : n1 = n := by rw [← oT.len]; simp [zeros]
  have z1 := oT
  rw [tab_zero] at oT
  obtain ⟨gt, _, _, rfl, _⟩ := oT.spot (m := n1) (fun i hi => tab_rowLen _ hi) (i := 0) (k := 0) (by omega) (by omega)
  go_wp2_with fail
  refine (l1Own_any _ _ _ _ _ (hp.fr f1) (by omega)).mono ?_
  rintro e w2 ⟨ah, n2, ch, rfl, oh, f2, -⟩
  obtain rfl : n2 = n1 := by rw [← oh.len, hp.len]
  go_wp2_with fail
  refine (l1Own_any _ _ _ _ _ ((hq.fr f1).fr f2) (by omega)).mono ?_
  rintro e w3 ⟨al, n3, cl, rfl, ol, f3, -⟩
  obtain rfl : n3 = n2 := by rw [← ol.len, hq.len]
  obtain ⟨gh, rfl, hgh, hgh2, _, _⟩ := oh.op (by omega)
  obtain ⟨gl, rfl, hgl, hgl2, _, _⟩ := ol.op (by omega)
  have sz1 := f1.size; have sz2 := f2.size
  have S0 : FlI w w.heap.size w1.heap.size gt gh gl n3 ct ch cl (fun _ _ => 0) (nth p) (nth q) w3 :=
    ⟨(oT.fr f2).fr f3, by rw [← EP.out]; exact (oh.fr f3).mono (by omega), by rw [← EQ.out]; exact ol.mono (by omega), (f1.trans f2).trans f3, Nat.le_refl _, hgh, by omega, by omega, sz1⟩
  generalize w1.heap.size = H at S0
  generalize hB : w.heap.size = B at S0
  clear oT oh ol hgh hgh2 hgl hgl2 sz1 sz2 z1
  go_wp2_with fail
  refine (l10Sum_any _ _ _ _ _ ((hp.fr f1).fr (f2.trans f3))).mono ?_
  rintro e w' ⟨rfl, rfl⟩
  rw [hu0]
  clear hp hq f1 f2 f3 EP EQ hu0
  go_wp2
  go_loopw [10] (fun i wr => ∃ (u : Nat) (X : Nat → Nat → Int) (h l : Nat → Int), u ≤ 40 ∧ i = .int .i64 u ∧ FlI w B H gt gh gl n3 ct ch cl X h l wr ∧ Hid (RunS farS n3 (cellT T) X (nth p) (nth q) h l u)) (fun i _ => (intOf i).toNat)
  case atStart => exact ⟨u0, _, _, _, hu40, rfl, S0, HR0⟩
  case round =>
    clear S0 HR0
    obtain ⟨u, X, h, l, hu, rfl, S, HR⟩ := hrel
    obtain ⟨w4, rfl⟩ : ∃ wo : World, wo = wr := ⟨_, rfl⟩
    by_cases hlt : 0 < u
    · obtain ⟨v, hv⟩ : ∃ v, u = v + 1 := ⟨u - 1, by omega⟩
      have vu : (0 : Int) < (u : Int) := by omega
      have HV := Lib.hid hv
      clear hv
      go_wp2_with fail
      refine (l10Shift_any _ _ _ _ n3 ct ch cc X h T hn S.oX.ss S.oh.sl (Sc.out.fr S.f) HL.out HT.out (HR.out.low (by decide))).mono ?_
      rintro e w5 ⟨p5, q5, cp, cq, rfl, o5, o6, f5⟩
      have TT := Lib.hid (HR.out.told (by decide))
      have S5 := S.fr f5
      have HB := Lib.hid (HR.out.low (by decide) _ (itR_steps (startBF farS n3 h) (Nat.zero_le (2 * n3))))
      generalize itR farS n3 (cellT T) X (startBF farS n3 h) (2 * n3) = s at o5 o6 TT HB
      obtain ⟨N, hN⟩ : ∃ N, N = 2 * n3 := ⟨_, rfl⟩
      rw [← hN] at o5 o6 HB ⊢
      have HN := Lib.hid hN
      obtain ⟨g5, rfl, _, _, _, _⟩ := o5.op (by omega)
      obtain ⟨g6, rfl, hg6, _, _, _⟩ := o6.op (by omega)
      have G6 : Hid (gh < g6 ∧ gl < g6 ∧ H ≤ g6) := Lib.hid (by
        obtain ⟨x1, e1, _, h1, _, _⟩ := S.oh.op (by omega)
        obtain ⟨x2, e2, _, h2, _, _⟩ := S.ol.op (by omega)
        injection e1 with e1; injection e1 with e1; subst e1
        injection e2 with e2; injection e2 with e2; subst e2
        have := S.hh
        exact ⟨by omega, by omega, by omega⟩)
      clear hg6
      have O5 := Lib.hid o5; have O6 := Lib.hid o6; have SS5 := Lib.hid S5
      have HLe : Hid (∀ k, k < n3 → 0 ≤ l k) := Lib.hid HR.out.flow.lpos
      clear S f5 o5 o6 hN S5
      go_wp2
      go_loopw [13, 14] (fun b i wr => ∃ (k : Nat) (z : Int), k ≤ n3 ∧ i = .int .i64 k ∧ b = .int .i64 z ∧ Hid ((z = -1 ∧ ∀ j, j < k → l j ≤ 0) ∨ ∃ m : Nat, m < k ∧ z = m ∧ 0 < l m) ∧ Qt w5 wr) (fun _ i _ => n3 - (intOf i).toNat)
      case atStart => exact ⟨0, -1, Nat.zero_le _, rfl, rfl, Lib.hid (.inl ⟨rfl, fun j hj => by omega⟩), Qt.refl _⟩
      case round =>
        obtain ⟨k, z, hk, rfl, rfl, hz, hq⟩ := hrel
        by_cases hkt : k < n3
        · have vk0 : (0 : Int) ≤ (k : Int) := by omega
          have vk1 : (k : Int) < (n3 : Int) := by omega
          have hN := HN.out
          obtain ⟨K, hK⟩ : ∃ K, K = n3 + k := ⟨_, rfl⟩
          have lK : K < N := by omega
          have vK0 : (0 : Int) ≤ (K : Int) := by omega
          have vK1 : (K : Int) < (N : Int) := by omega
          have wK : IntKind.i64.wrap ((n3 : Int) + (k : Int)) = (K : Int) := by rw [IntWalk.i64_in _ (by omega)]; omega
          have k1 := (SS5.out.fr hq.fr).celll hkt
          have k2 := (O5.out.fr hq.fr).cellAt rfl lK
          rw [lst_nth _ lK] at k2
          by_cases c0 : 0 < l k
          · rcases hz.out with ⟨rfl, hz1⟩ | ⟨m, hm, rfl, hz1⟩
            · clear hK hN
              go_wp2
              go_quiet (fail)
              go_wp2
              go_roundw
              case rel => exact ⟨k + 1, k, by omega, by go_num, rfl, Lib.hid (.inr ⟨k, by omega, rfl, c0⟩), hq.drewN _⟩
              case measure => simp [intOf]; omega
            · obtain ⟨M, hM⟩ : ∃ M, M = n3 + m := ⟨_, rfl⟩
              have lM : M < N := by omega
              have vM0 : (0 : Int) ≤ (M : Int) := by omega
              have vM1 : (M : Int) < (N : Int) := by omega
              have wM : IntKind.i64.wrap ((n3 : Int) + (m : Int)) = (M : Int) := by rw [IntWalk.i64_in _ (by omega)]; omega
              have vm0 : ¬ (m : Int) < 0 := by omega
              have k3 := (O5.out.fr hq.fr).cellAt rfl lM
              rw [lst_nth _ lM] at k3
              clear hK hN hM
              by_cases c1 : s.d K < s.d M
              · go_wp2
                go_quiet (fail)
                go_wp2
                go_roundw
                case rel => exact ⟨k + 1, k, by omega, by go_num, rfl, Lib.hid (.inr ⟨k, by omega, rfl, c0⟩), hq.drewN _⟩
                case measure => simp [intOf]; omega
              · go_wp2
                go_quiet (fail)
                go_wp2
                go_roundw
                case rel => exact ⟨k + 1, m, by omega, by go_num, rfl, Lib.hid (.inr ⟨m, by omega, rfl, hz1⟩), hq.drewN _⟩
                case measure => simp [intOf]; omega
          · have e0 : l k = 0 := by have := HLe.out k hkt; omega
            rw [e0] at k1
            clear hK hN k2 c0
            have HE0 := Lib.hid e0
            clear e0
            go_wp2
            go_quiet (fail)
            go_wp2
            go_roundw
            case rel =>
              have e0 := HE0.out
              refine ⟨k + 1, z, by omega, by go_num, rfl, Lib.hid ?_, hq.drewN _⟩
              rcases hz.out with ⟨e, hz1⟩ | ⟨m, hm, e, hz1⟩
              · exact .inl ⟨e, fun j hj => by
                  by_cases e2 : j = k
                  · subst e2; omega
                  · exact hz1 j (by omega)⟩
              · exact .inr ⟨m, by omega, e, hz1⟩
            case measure => simp [intOf]; omega
        · obtain rfl : k = n3 := by omega
          rcases hz.out with ⟨_, h0⟩ | ⟨m, hm, rfl, hlm⟩
          · exfalso
            obtain ⟨i, hi, h1⟩ := sumG_pos (show 0 < sumG k l by rw [HR.out.sl]; omega)
            have := h0 i hi
            omega
          · obtain ⟨dep, hdep1, hdep2⟩ := TT.out.dep
            have HD1 := Lib.hid hdep1; have HD2 := Lib.hid hdep2
            clear hdep1 hdep2
            have hRv : Hid (RunS farS k (cellT T) X (nth p) (nth q) h l (v + 1)) := Lib.hid (by rw [← HV.out]; exact HR.out)
            have S6 := SS5.out.fr hq.fr
            have O6' := Lib.hid (O6.out.fr hq.fr)
            have vm0 : (0 : Int) ≤ (m : Int) := by omega
            have vm1 : (m : Int) < (k : Int) := by omega
            have k1 := S6.celll hm
            have z1 := S6.ol.frz m
            have hl40 : l m ≤ 40 := by
              have h1 := sumG_one (f := l) HLe.out hm
              have h2 := HR.out.sl; have h3 := HR.out.u40
              omega
            have S7 := S6.setl hm (v := l m - 1) (by unfold I64; omega)
            have HA : Hid (AugAt k (cellT T) X s dep m m X) := Lib.hid (AugAt.start TT.out (by decide) (fun i k' _ _ => HT.out i k') (sumG_pos (by rw [hRv.out.sh]; omega)) HR.out.flow.pos hm dep)
            obtain ⟨M, hM⟩ : ∃ M, M = k + m := ⟨_, rfl⟩
            have wM : IntKind.i64.wrap ((k : Int) + (m : Int)) = (M : Int) := by rw [IntWalk.i64_in _ (by omega)]; omega
            have HM := Lib.hid hM
            clear hM S6 hq
            go_wp2
            go_loopw [15] (fun i wr => ∃ (y : Nat) (Y : Nat → Nat → Int), i = .int .i64 y ∧ FlI w B H gt gh gl k ct ch cl Y h (updI l m (l m - 1)) wr ∧ Hid (Place farS k (cellT T) X s dep m y Y) ∧ Own w4.heap.size wr (some ⟨g6, 0, none⟩) N cq (lst N s.b)) (fun i _ => dep (intOf i).toNat)
            case atStart => exact ⟨M, X, rfl, S7, Lib.hid (.inl ⟨m, hm, HM.out, HA.out⟩), O6'.out.setOther (p := ⟨gl, m, none⟩) (fun e => by injection e with e; change g6 = gl at e; have := G6.out; omega) _⟩
            case round =>
              clear S7
              obtain ⟨y, Y, rfl, S, HPl, o6⟩ := hrel
              obtain ⟨w7, rfl⟩ : ∃ wo : World, wo = wr := ⟨_, rfl⟩
              have ly := HPl.out.lt
              have hN := HN.out
              have lyN : y < N := by omega
              have vy0 : (0 : Int) ≤ (y : Int) := by omega
              have vy1 : (y : Int) < (N : Int) := by omega
              have k6 := o6.cellAt rfl lyN
              rw [lst_nth _ lyN] at k6
              clear hN
              rcases HPl.out.back hRv.out TT.out (by decide) (fun i k' _ _ => HT.out i k') hm hlm HD2.out with ⟨i, k2, hi, hk2, e1, e2, e3, P2⟩ | ⟨e1, e2, e3, R2, _⟩ | ⟨k2, e1, hk2, e2, e3, P2⟩
              · have b0 := HPl.out.bd hRv.out HP.out hi hk2
                have vi0 : (0 : Int) ≤ (i : Int) := by omega
                have vi1 : (i : Int) < (k : Int) := by omega
                have vk0 : (0 : Int) ≤ (k2 : Int) := by omega
                have vk1 : (k2 : Int) < (k : Int) := by omega
                have wy : IntKind.i64.wrap ((y : Int) - (k : Int)) = (k2 : Int) := by rw [IntWalk.i64_in _ (by omega)]; omega
                have vyk : (k : Int) ≤ (y : Int) := by omega
                obtain ⟨r, cr, q1, q2, q3, q5, q4⟩ := S.spot hi hk2
                have o7 := o6.setOther (p := ⟨r, k2, none⟩) (fun e => by injection e with e; change g6 = r at e; have := G6.out; omega) (.int .i64 (Y i k2 + 1))
                have S2 := q4 (Y i k2 + 1) (by unfold I64; omega)
                rw [e2] at k6
                have P3 := Lib.hid P2
                have E3 := Lib.hid e3
                clear e1 e2 e3 q4 q5 S P2 o6
                go_wp2
                go_roundw
                case rel => exact ⟨i, _, rfl, S2, P3, o7⟩
                case measure => simp [intOf]; exact E3.out
              · have k8 := S.cellh e1
                have z8 := S.oh.frz y
                have vyk : (y : Int) < (k : Int) := by omega
                have b8 : h y ≤ 40 := by
                  have h1 := sumG_one (f := h) hRv.out.flow.hpos e1
                  have h2 := hRv.out.sh; have h3 := hRv.out.u40
                  omega
                have S2 := S.seth e1 (v := h y - 1) (by unfold I64; omega)
                rw [e2] at k6
                have R3 := Lib.hid R2
                have hv := HV.out
                clear e1 e2 S R2
                go_wp2
                go_roundw
                case rel => exact ⟨v, Y, _, _, by omega, by go_num, S2, R3⟩
                case measure => simp [intOf]; omega
              · have b0 := HPl.out.bd hRv.out HP.out e1 hk2
                have vyk : (y : Int) < (k : Int) := by omega
                obtain ⟨Z, hZ⟩ : ∃ Z, Z = k + k2 := ⟨_, rfl⟩
                rw [← hZ] at e2 e3 P2
                have vz0 : (0 : Int) ≤ (Z : Int) := by omega
                have vk0 : (0 : Int) ≤ (k2 : Int) := by omega
                have vk1 : (k2 : Int) < (k : Int) := by omega
                have wz : IntKind.i64.wrap ((Z : Int) - (k : Int)) = (k2 : Int) := by rw [IntWalk.i64_in _ (by omega)]; omega
                obtain ⟨r, cr, q1, q2, q3, q5, q4⟩ := S.spot e1 hk2
                have o7 := o6.setOther (p := ⟨r, k2, none⟩) (fun e => by injection e with e; change g6 = r at e; have := G6.out; omega) (.int .i64 (Y y k2 - 1))
                have S2 := q4 (Y y k2 - 1) (by unfold I64; omega)
                rw [e2] at k6
                have P3 := Lib.hid P2
                have E3 := Lib.hid e3
                clear e2 e3 q4 q5 S P2 hZ o6
                go_wp2
                go_roundw
                case rel => exact ⟨Z, _, rfl, S2, P3, o7⟩
                case measure => simp [intOf]; exact E3.out
    · obtain rfl : u = 0 := by omega
      go_wp2
      go_ret
      exact ⟨_, _, _, _, _, rfl, S.oX.ss, HR.out, S.f⟩
end Go.Proofs.Ytboekndojgbkfaa
