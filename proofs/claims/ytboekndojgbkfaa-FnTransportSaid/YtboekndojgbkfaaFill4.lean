import Derived.Test.YtboekndojgbkfaaFill3
import Derived.StillTailTactics
import Derived.Deep.RegionLaw
import Derived.Deep.RegionHeld3
import Derived.Deep.AppendLies
/- The contract of the reference's KeepingPlan. -/
set_option linter.unusedVariables false
namespace Go.Proofs.Ytboekndojgbkfaa
open Go.ChangeShapes Go.WideShapes Go.ChangeAt Go.RowKit

theorem stq {P : Program} {f : FuncId} {args : Array Value} {w : World} {v : Value} (h : Calls P f args w fun e w' => e = .returned v ∧ w = w') : Calls P f args w fun e w' => e = .returned v ∧ w' = w := h.mono fun _ _ ⟨a, b⟩ => ⟨a, b.symm⟩

/-- append of one integer, as a step of a region that draws. -/
theorem step_ap_int (V : World) {ops : Array Oper} {o : Oper} {a : Act} {K : Act → World → Prop} {Q : Exit → Act → World → Prop} {E : Prop} (hgd : o.guard = none) (s x : Operand)
    (ho : o.op = .call { callee := .builtin .append, args := #[s, x], argTypes := #[22, 22] }) (B : Nat) (p : Option Addr) (n c : Nat) (xs : List Int) (z : Int) (N : Nat)
    (hs : a.eval s = .slice p n c) (hx : a.eval x = .slice (some ⟨N, 0, none⟩) 1 1) (hown : Own B V p n c xs) (hB : B ≤ V.heap.size) (hcell : V.cell? ⟨N, 0, none⟩ = some (.int .i64 z)) (hz : I64 z) (hn : n ≤ 1048576) (H : Nat) (hH : V.heap.size = H)
    (h : ∀ g c' w', Own B w' (some ⟨g, 0, none⟩) (n + 1) c' (xs ++ [z]) → V.grownBy w' (blkOf p) → (blkOf p = some g ∨ g = H) → K (a.put o.dst (.slice (some ⟨g, 0, none⟩) (n + 1) c')) w') :
    if Region.wanted o (yielded ops a.tmps) = true then Oper.wp Try.prog o a V K Q else E := by
  obtain ⟨i0, hi, hz0, hz1, hz2⟩ := info_parts infoInt
  have hb : (Value.slice p n c).ownBlock = blkOf p := by cases p <;> rfl
  refine step_append_lies _ hgd s x 22 ho B 3 i0 (.int .i64 0) 1 8 Try.underlying22 hi hz0 hz1 hz2 rfl (by omega) (.slice p n c) n _ hs hown.row ⟨N, 0, none⟩ 1 1 [.int .i64 z] hx rfl ?_ ?_ (by omega) (by unfold maxLen; omega) (by omega) hB H hH ?_
  · intro j u hu
    have hj : j = 0 := by
      rcases j with _ | j
      · rfl
      · simp at hu
    subst hj
    have hadd : (⟨N, 0, none⟩ : Addr).add 0 = ⟨N, 0, none⟩ := by simp [Addr.add]
    rw [hadd, hcell]
    simpa using hu
  · intro u hu; simp at hu; subst hu; rfl
  · intro g c' w' h1 h2 h3 _
    rw [hb] at h2 h3
    refine h g c' w' ⟨by simpa using h1, ?_⟩ h2 h3
    intro y hy
    rcases List.mem_append.1 hy with hy | hy
    · exact hown.rng y hy
    · simp at hy; subst hy; exact hz

theorem SL.lt {w : World} {b off n cap : Nat} {xs : List Int} (h : SL w (some ⟨b, off, none⟩) n cap xs) (hn : 0 < n) : b < w.heap.size := by
  obtain ⟨b', o', e, hc⟩ := h.cells.resolve_left (by omega)
  simp only [Option.some.injEq, Addr.mk.injEq, and_true] at e
  obtain ⟨rfl, rfl⟩ := e
  exact World.block_lt_of_cell? w _ (hc 0 hn)

set_option maxRecDepth 100000 in
set_option maxHeartbeats 1000000 in
theorem spec_KeepingPlan_any (w : World) (a b : Option Addr) (n1 c1 n2 c2 : Nat) (p q : List Int) (hp : SL w a n1 c1 p) (hq : SL w b n2 c2 q) :
    Calls Try.prog 38 #[.slice a n1 c1, .slice b n2 c2] w (RetSSB (keepingV p q) (alikeB p q) w) := by
  cases h1 : alikeB p q
  · have HV : Hid (keepingV p q = []) := Lib.hid (by rw [keepingV, h1]; rfl)
    go_enter Try.func38, Try.ntmps38
    go_wp2_with (go_at_call 71; refine (l10Alike_any _ _ _ _ _ _ _ _ _ hp hq).mono ?_; rintro e w' ⟨rfl, rfl⟩)
    go_ret2
    rw [HV.out]
    exact ⟨_, 0, 0, rfl, (OwnSS.made0 _ (Nat.le_refl _) (by simp)), (Fr.refl _).alloc _, by simp [tot], by omega⟩
  · have H1 := Lib.hid h1
    have HV : Hid (keepingV p q = keepingM p q) := Lib.hid (by rw [keepingV, h1]; rfl)
    have HT := Lib.hid (keepingM_tot h1)
    have F := FillI.keep h1
    obtain ⟨s1, s2, s3, s4⟩ := alikeB_iff.1 h1
    have g1 := (spreadB_iff.1 s1).1
    obtain rfl := hp.len
    have hn : n2 = p.length := by rw [← hq.len, s3]
    subst hn
    have HQ := Lib.hid s3
    have HPN := Lib.hid (spread_nth s1)
    have HQN := Lib.hid (spread_nth s2)
    clear s1 s2 s3 s4
    go_enter Try.func38, Try.ntmps38
    go_wp2_with fail
    refine (l10Alike_any _ _ _ _ _ _ _ _ _ hp hq).mono ?_
    rintro e w' ⟨rfl, rfl⟩
    go_wp2_with fail
    clear h1
    refine (l10Empty_any _ _ _ g1.2 g1.2).mono ?_
    rintro e w1 ⟨a1, n3, c3, rfl, o1, f1, _⟩
    obtain rfl : n3 = p.length := by rw [← o1.len]; simp [zeros]
    have z1 := f1.size
    have HK0 : Hid (zeros p.length p.length = keepT p q 0) := Lib.hid (by rw [keepT, HQ.out])
    have m1 := Own.made0 (B := w1.heap.size) w1 (Nat.le_refl _)
    have m2 := Own.made0 (B := w1.heap.size) (w1.alloc (.cells #[] 3)) (by simp)
    have fa : Fr w1 ((w1.alloc (.cells #[] 3)).alloc (.cells #[] 3)) := ((Fr.refl w1).alloc _).alloc _
    rw [World.size_alloc] at m2
    go_wp2
    go_loopw [7, 8, 9] (fun x y i wr => ∃ (j : Nat) (p7 p8 : Option Addr) (c7 c8 : Nat), j ≤ p.length ∧ i = .int .i64 j ∧ x = .slice p7 j c7 ∧ y = .slice p8 j c8 ∧
      OwnSS w.heap.size w1.heap.size wr a1 p.length c3 (keepT p q j) ∧ Own w1.heap.size wr p7 j c7 (keptL p q j) ∧ Own w1.heap.size wr p8 j c8 (keptL q p j) ∧ Apart p7 p8 ∧ Fr w wr ∧ w1.heap.size ≤ wr.heap.size) (fun _ _ i _ => p.length - (intOf i).toNat)
    case atStart => exact ⟨0, _, _, _, _, by omega, rfl, rfl, rfl, by rw [← HK0.out]; exact o1.fr fa, m1.fr ((Fr.refl _).alloc _), m2, fun k h1 h2 => by simp [blkOf] at h1 h2; omega, f1.trans fa, fa.size⟩
    case round =>
      clear o1 m1 m2 fa HK0
      obtain ⟨j, p7, p8, c7, c8, hj, rfl, rfl, rfl, hT, hh, hl, hab, hf, hsz⟩ := hrel
      by_cases hlt : j < p.length
      · have HR : Hid (∀ i, i < p.length → (nthL (keepT p q j) i).length = p.length) := Lib.hid (fun i hi => by rw [keepT_row _ _ _ _ hi, HQ.out])
        obtain ⟨gt, gr, cr, rfl, hc1, hc2, hc3, hr1, hr2, hr3, hr4, _⟩ := hT.spot HR.out hlt hlt
        have B1 := HPN.out j
        have B2 := HQN.out j
        obtain ⟨bp, op, rfl, hcp⟩ := (hp.fr hf).cells.resolve_left (by omega)
        replace hcp := hcp j hlt
        obtain ⟨bq, oq, rfl, hcq⟩ := (hq.fr hf).cells.resolve_left (by omega)
        replace hcq := hcq j hlt
        have i1 : (0 : Int) ≤ (j : Int) := by omega
        have i2 : (j : Int) < (p.length : Int) := by omega
        have hfs := hf.size
        go_wp2
        refine wp_region_still_tail 15 (by kernel_rfl) (by kernel_rfl) ?_
        simp only [List.take_succ_cons, List.take_zero, List.drop_succ_cons, List.drop_zero]
        repeat still_step
        still_call (stq (l1Least_any _ _ _))
        repeat still_step
        refine wpStill_nil ?_
        change wpList _ _ _ _ _ wr.drew
        go_wp2
        have hbm : I64 (min (nth p j) (nth q j)) := by unfold I64; omega
        have hT2 := (hT.setAt HR.out hlt hlt rfl hc1 hbm).fr (Fr.drewN _ 1)
        have hh2 := (hh.setOther (p := ⟨gr, j, none⟩) (fun e => by have := hh.blk _ e; simp at this; omega) (.int .i64 (min (nth p j) (nth q j)))).drewN 1
        have hl2 := (hl.setOther (p := ⟨gr, j, none⟩) (fun e => by have := hl.blk _ e; simp at this; omega) (.int .i64 (min (nth p j) (nth q j)))).drewN 1
        have hf2 := (hf.setCell (p := ⟨gr, j, none⟩) (by simp; omega) (.int .i64 (min (nth p j) (nth q j)))).drew' 1
        have hsz2 : w1.heap.size ≤ ((wr.setCell ⟨gr, j, none⟩ (.int .i64 (min (nth p j) (nth q j)))).drew).heap.size := by simp; omega
        change OwnSS _ _ (wr.setCell ⟨gr, j, none⟩ (.int .i64 (min (nth p j) (nth q j)))).drew _ _ _ (keepT p q (j + 1)) at hT2
        change Own _ (wr.setCell ⟨gr, j, none⟩ (.int .i64 (min (nth p j) (nth q j)))).drew _ _ _ _ at hh2 hl2
        change Fr _ (wr.setCell ⟨gr, j, none⟩ (.int .i64 (min (nth p j) (nth q j)))).drew at hf2
        generalize (wr.setCell ⟨gr, j, none⟩ (.int .i64 (min (nth p j) (nth q j)))).drew = W2 at hT2 hh2 hl2 hf2 hsz2 ⊢
        clear hbm hT hh hl hf hsz hcp hcq hc1 hc2 hc3 hfs
        have HR2 : Hid (∀ i, i < p.length → (nthL (keepT p q (j + 1)) i).length = p.length) := Lib.hid (fun i hi => by rw [keepT_row _ _ _ _ hi, HQ.out])
        obtain ⟨gt', gr', cr', hgt, hc1, hc2, _, _, hr2', _, _, _⟩ := hT2.spot HR2.out hlt hlt
        obtain rfl : gt = gt' := by simpa using hgt
        have hcm : cellT (keepT p q (j + 1)) j j = min (nth p j) (nth q j) := by rw [keepT_cell _ _ _ (by omega) HQ.out.symm, if_pos ⟨rfl, by omega⟩]
        rw [hcm] at hc2
        obtain ⟨m, hm⟩ : ∃ m, m = min (nth p j) (nth q j) := ⟨_, rfl⟩
        have K1 := keptL_succ p q j
        have K2 := keptL_succ q p j
        rw [min_comm' (nth q j)] at K2
        rw [← hm] at hc2 K1 K2
        have bm : 0 ≤ m ∧ m ≤ nth p j ∧ m ≤ nth q j := by omega
        clear hcm hm
        have HK1 := Lib.hid K1
        have HK2 := Lib.hid K2
        clear K1 K2
        obtain ⟨bp, op, hbp, hcp⟩ := (hp.fr hf2).cells.resolve_left (by omega)
        simp only [Option.some.injEq, Addr.mk.injEq, and_true] at hbp
        obtain ⟨rfl, rfl⟩ := hbp
        replace hcp := hcp j hlt
        have e1 : IntKind.i64.wrap (nth p j - m) = nth p j - m := IntWalk.i64_in _ (by omega)
        have hbp := hp.lt (by omega)
        have hbq := hq.lt (by omega)
        have ap : blkOf p7 ≠ some bp := fun e => by have := hh2.blk _ e; omega
        have ag : blkOf p7 ≠ some gt := fun e => by have := hh2.blk _ e; omega
        have ar : blkOf p7 ≠ some gr' := fun e => by have := hh2.blk _ e; omega
        have lp := World.block_lt_of_cell? W2 _ hcp
        have lg := World.block_lt_of_cell? W2 _ hc1
        have lr := World.block_lt_of_cell? W2 _ hc2
        go_region_held3 (fun w' => w'.cell? ⟨bp, op + j, none⟩ = some (.int .i64 (nth p j)) ∧ w'.cell? ⟨gt, j, none⟩ = some (.slice (some ⟨gr', 0, none⟩) p.length cr') ∧ w'.cell? ⟨gr', j, none⟩ = some (.int .i64 m))
          (first
            | go_keep
            | (go_split_ands
               refine ⟨?_, ?_, ?_⟩
               · (rw [hgrow.cell_far _ (by simp; omega) (Ne.symm ap)]; assumption)
               · (rw [hgrow.cell_far _ (by simp; omega) (Ne.symm ag)]; assumption)
               · (rw [hgrow.cell_far _ (by simp; omega) (Ne.symm ar)]; assumption)))
          ((refine step_ap_int _ rfl _ _ rfl w1.heap.size p7 j c7 _ (nth p j - m) W2.heap.size (by rfl) (by rfl) (hh2.fr (((Fr.refl _).alloc _).drew' 1)) (by simp; omega) (cell_of_row _ W2.heap.size 0 _ 3 (0, 0) (heap_alloc_new W2 _)) (by unfold I64; omega) (by omega) (W2.heap.size + 1) (by simp) ?_; intro g7 c7' W3 hown hgrow hat))
        have hz3 : W2.heap.size + 1 ≤ W3.heap.size := by have := hgrow.size; simpa using this
        have hg3 : W2.grownBy W3 (blkOf p7) := grownBy_trans (Fr.grownBy (((Fr.refl W2).alloc _).drew' 1) _) hgrow
        have hT3 := hT2.keep hg3 (fun k hk => .inr (hh2.blk k hk).1)
        have hl3 := hl2.grown hg3 (by
          cases hx : blkOf p8 with
          | none => exact .inl rfl
          | some k => exact .inr fun e => hab k e.symm hx)
        have hf3 : Fr w W3 := hf2.grown hg3 (fun k hk => by have := (hh2.blk k hk).1; omega)
        have hab3 : Apart (some ⟨g7, 0, none⟩) p8 := by
          intro k hk hk'
          simp only [blkOf, Option.map_some, Option.some.injEq] at hk
          subst hk
          rcases hat with h | h
          · exact hab _ h hk'
          · have := (hl2.blk _ hk').2; omega
        have hh3 := hown
        rw [← HK1.out] at hh3
        have hc1' : W3.cell? ⟨gt, j, none⟩ = some (.slice (some ⟨gr', 0, none⟩) p.length cr') := by rw [hg3.cell_far _ lg (Ne.symm ag)]; exact hc1
        have hc2' : W3.cell? ⟨gr', j, none⟩ = some (.int .i64 m) := by rw [hg3.cell_far _ lr (Ne.symm ar)]; exact hc2
        clear hT2 hh2 hl2 hf2 hab hown hgrow hat hg3 hcp hc1 hc2 e1 HK1 lp lg lr ap ag ar
        obtain ⟨bq', oq', hbq', hcq⟩ := (hq.fr hf3).cells.resolve_left (by omega)
        simp only [Option.some.injEq, Addr.mk.injEq, and_true] at hbq'
        obtain ⟨rfl, rfl⟩ := hbq'
        replace hcq := hcq j hlt
        have hf3s := hf3.size
        have ap : blkOf p8 ≠ some bq := fun e => by have := hl3.blk _ e; omega
        have ag : blkOf p8 ≠ some gt := fun e => by have := hl3.blk _ e; omega
        have ar : blkOf p8 ≠ some gr' := fun e => by have := hl3.blk _ e; omega
        have lp := World.block_lt_of_cell? W3 _ hcq
        have lg := World.block_lt_of_cell? W3 _ hc1'
        have lr := World.block_lt_of_cell? W3 _ hc2'
        go_wp2
        have e1 : IntKind.i64.wrap (nth q j - m) = nth q j - m := IntWalk.i64_in _ (by omega)
        go_region_held3 (fun w' => w'.cell? ⟨bq, oq + j, none⟩ = some (.int .i64 (nth q j)) ∧ w'.cell? ⟨gt, j, none⟩ = some (.slice (some ⟨gr', 0, none⟩) p.length cr') ∧ w'.cell? ⟨gr', j, none⟩ = some (.int .i64 m))
          (first
            | go_keep
            | (go_split_ands
               refine ⟨?_, ?_, ?_⟩
               · (rw [hgrow.cell_far _ (by simp; omega) (Ne.symm ap)]; assumption)
               · (rw [hgrow.cell_far _ (by simp; omega) (Ne.symm ag)]; assumption)
               · (rw [hgrow.cell_far _ (by simp; omega) (Ne.symm ar)]; assumption)))
          ((refine step_ap_int _ rfl _ _ rfl w1.heap.size p8 j c8 _ (nth q j - m) W3.heap.size (by rfl) (by rfl) (hl3.fr (((Fr.refl _).alloc _).drew' 1)) (by simp; omega) (cell_of_row _ W3.heap.size 0 _ 3 (0, 0) (heap_alloc_new W3 _)) (by unfold I64; omega) (by omega) (W3.heap.size + 1) (by simp) ?_; intro g8 c8' W4 hown hgrow hat))
        have hz4 : W3.heap.size + 1 ≤ W4.heap.size := by have := hgrow.size; simpa using this
        have hg4 : W3.grownBy W4 (blkOf p8) := grownBy_trans (Fr.grownBy (((Fr.refl W3).alloc _).drew' 1) _) hgrow
        have hT4 := hT3.keep hg4 (fun k hk => .inr (hl3.blk k hk).1)
        have hh4 := hh3.grown hg4 (by
          cases hx : blkOf (some (⟨g7, 0, none⟩ : Addr)) with
          | none => exact .inl rfl
          | some k => exact .inr fun e => hab3 k hx e.symm)
        have hf4 : Fr w W4 := hf3.grown hg4 (fun k hk => by have := (hl3.blk k hk).1; omega)
        have hab4 : Apart (some ⟨g7, 0, none⟩) (some ⟨g8, 0, none⟩) := by
          intro k hk hk'
          simp only [blkOf, Option.map_some, Option.some.injEq] at hk'
          subst hk'
          rcases hat with h | h
          · exact hab3 _ hk h
          · have := (hh3.blk _ hk).2; omega
        have hl4 := hown
        rw [← HK2.out] at hl4
        clear e1
        go_wp2
        go_roundw
        case rel => exact ⟨j + 1, _, _, c7', c8', by omega, by go_num, rfl, rfl, hT4, hh4, hl4, hab4, hf4, by omega⟩
        case measure => simp [intOf]; omega
      · obtain rfl : j = p.length := by omega
        rw [keptL_all] at hh
        have ek := keptL_all q p
        rw [← HQ.out] at ek
        rw [ek] at hl
        go_wp2_with fail
        refine (l10Fill_any w.heap.size w1.heap.size _ _ _ _ _ _ _ _ _ _ _ _ hT hh.sl hl.sl F g1.2 g1.2 z1 hsz).mono ?_
        rintro e w4 ⟨rfl, o4, f4⟩
        go_wp2
        go_ret2
        rw [HV.out]
        have z4 := f4.size
        exact ⟨_, _, _, rfl, o4.upto (by omega), Below.trans hf f4, HT.out, by omega⟩

end Go.Proofs.Ytboekndojgbkfaa
