import Derived.Test.YtojipjjfndgbhaaZV01
import Derived.Laws.AppendOwn
import Derived.Laws.AppendOwnNone
import Derived.Test.YtojipjjfndgbhaaZV13
import Derived.Test.YtojipjjfndgbhaaZV08
import Derived.Test.YtojipjjfndgbhaaZV07
import Derived.Lib.SliceRun
/- The laws' vBig and vCut. -/
set_option linter.unusedVariables false
namespace Go.Proofs.Ytojipjjfndgbhaa
open Go.ChangeShapes Go.WideShapes Go.ChangeAt Go.RowKit

theorem infoU8 : (Try.prog.info? 5).map (fun i => (i.zero, i.size, i.bytes)) = some (some (.int .u8 0), 1, 1) := by kernel_rfl
theorem info_u8 : ∃ i, Try.prog.info? 5 = some i ∧ i.zero = some (.int .u8 0) ∧ i.size = 1 ∧ i.bytes = 1 := by
  have h := infoU8
  cases h2 : Try.prog.info? 5 with
  | none => rw [h2] at h; cases h
  | some i =>
    rw [h2] at h
    simp only [Option.map_some, Option.some.injEq, Prod.mk.injEq] at h
    exact ⟨i, rfl, h.1, h.2.1, h.2.2⟩
theorem slb_of_row {B : Nat} {w : World} {a : Option Addr} {n c : Nat} {xs : List Int} (h : w.ownsRow B 5 1 (.slice a n c) n (xs.map (Value.int .u8))) (hr : ∀ x ∈ xs, 0 ≤ x ∧ x ≤ 255) : SLB w a n c xs := by
  have hl : xs.length = n := by simpa using h.1
  rcases h.2 with ⟨h2, h3⟩ | ⟨g, cap', cur, h2, h3, h4, h5, h6, h7, h8⟩
  · simp only [Value.slice.injEq] at h2
    obtain ⟨rfl, rfl, rfl⟩ := h2
    obtain rfl : xs = [] := List.length_eq_zero_iff.1 hl
    exact SLB.of_nil w
  · simp only [Value.slice.injEq] at h2
    obtain ⟨rfl, _, rfl⟩ := h2
    refine ⟨hl, h5, by unfold maxLen at h6; omega, hr, fun e => (by cases e), .inr ⟨g, 0, rfl, fun i hi => ?_⟩⟩
    have hc := h.cells (g := g) (by simp [Value.ownBlock]) i (.int .u8 (nth xs i)) (by rw [nth_eq (by omega)]; simp [hl ▸ hi])
    rw [addr_add] at hc
    exact hc
/-- append of bytes to a slice of bytes of the call's own. -/
theorem ap_bytes (w : World) {ops : Array Oper} {rest : List Oper} {o : Oper} {act : Act} {Q : Exit → Act → World → Prop} (hgd : o.guard = none) (s x : Operand)
    (ho : o.op = .call { callee := .builtin .append, args := #[s, x], argTypes := #[70, 70] }) (B : Nat) (v : Value) (n : Nat) (xs : List Int) (ad : Addr) (m d : Nat) (ys : List Int)
    (hs : act.eval s = v) (hx : act.eval x = .slice (some ad) m d) (hown : w.ownsRow B 5 1 v n (xs.map (Value.int .u8))) (hB : B ≤ w.heap.size) (hl : ys.length = m) (hc : ∀ j, j < m → w.cell? (ad.add j) = some (.int .u8 (nth ys j))) (hn : n + m ≤ 1048576)
    (h : ∀ v' w', w'.ownsRow B 5 1 v' (n + m) ((xs ++ ys).map (Value.int .u8)) → w.grownBy w' v.ownBlock → wpList Try.prog ops Q rest (act.put o.dst v') w') :
    wpList Try.prog ops Q (o :: rest) act w := by
  obtain ⟨i0, hi, hz0, hz1, hz2⟩ := info_u8
  refine wpList_append_own w hgd s x 70 ho B 5 i0 (.int .u8 0) 1 1 Try.underlying70 hi hz0 hz1 hz2 rfl (by decide) v n _ hs hown ad m d (ys.map (Value.int .u8)) hx (by simpa using hl) ?_ ?_ (by unfold maxLen; omega) (by omega) hB ?_
  · intro j u hu
    have hj : j < ys.length := by
      rcases Nat.lt_or_ge j ys.length with hlt | hge
      · exact hlt
      · rw [List.getElem?_eq_none (by simpa using hge)] at hu; cases hu
    rw [hc j (by omega), nth_eq hj]
    simpa [hj] using hu
  · intro u hu
    obtain ⟨y, _, rfl⟩ := List.mem_map.1 hu
    rfl
  · intro v' w' h1 h2 _
    exact h v' w' (by rw [List.map_append]; exact h1) h2
theorem byte_cell (W : World) (k : Int) : ∀ j, j < 1 → (W.alloc (.cells #[.int .u8 k] 5)).cell? ((⟨W.heap.size, 0, none⟩ : Addr).add j) = some (.int .u8 (nth [k] j)) := fun j hj => by
  obtain rfl : j = 0 := by omega
  rw [addr_add, cell_of_row _ _ _ _ _ _ (heap_alloc_new _ _)]; rfl
theorem grown_alloc {w W w2 : World} {o : Obj} {v : Value} (hF : Fr w W) (g : (W.alloc o).grownBy w2 v.ownBlock) (hB : ∀ k, v.ownBlock = some k → w.heap.size ≤ k) : Fr w w2 := (hF.alloc o).grown g hB
theorem vBig_any (w : World) (a : Option Addr) (n cap : Nat) (hn : n ≤ 9223372036854775807) :
    Calls Try.prog 55 #[.slice a n cap] w fun e w' => e = .returned (.bool (decide (65536 < n))) ∧ w = w' := by
  go_enter Try.func55, Try.ntmps55
  go_wp2
  go_ret
  exact ⟨ret_bool (by rw [Bool.eq_iff_iff]; simp; omega), rfl⟩
theorem rBig_any (w : World) (a : Option Addr) (n cap : Nat) (hn : n ≤ 9223372036854775807) :
    Calls Try.prog 51 #[.slice a n cap] w fun e w' => e = .returned (.bool (decide (65536 < n))) ∧ w = w' := by
  go_enter Try.func51, Try.ntmps51
  go_wp2
  go_ret
  exact ⟨ret_bool (by rw [Bool.eq_iff_iff]; simp; omega), rfl⟩
theorem ret_cut {w w2 : World} {v : Value} {m : Nat} {ys : List Int} {k : Nat} (hF : Fr w w2) (h : w2.ownsRow w.heap.size 5 1 v (m + 1) ((ys ++ [(k : Int)]).map (Value.int .u8))) (hy : ∀ y ∈ ys, 0 ≤ y ∧ y ≤ 255) (hk : k ≤ 3 ∧ m ≤ 65536) :
    ∃ (p : Option Addr) (m c : Nat) (ys : List Int), Ending.returned v = .returned (.slice p m c) ∧ SLB w2 p m c ys ∧ (∀ q, blkOf p = some q → q < w2.heap.size) ∧ m ≤ 65537 ∧ Fr w w2 := by
  have hv : ∃ (p : Option Addr) (c : Nat), v = .slice p (m + 1) c := by
    rcases h.2 with ⟨h2, h3⟩ | ⟨g, cap', cur, h2, _⟩
    · omega
    · exact ⟨_, _, h2⟩
  obtain ⟨p, c, rfl⟩ := hv
  refine ⟨p, m + 1, c, _, rfl, slb_of_row h (fun x hx => ?_), fun q hq => ?_, by omega, hF⟩
  · rcases List.mem_append.1 hx with hx | hx
    · exact hy x hx
    · simp at hx; subst hx; omega
  · refine (h.lt q ?_).2
    cases p with
    | none => simp [blkOf] at hq
    | some x => simpa [blkOf, Value.ownBlock] using hq
set_option maxRecDepth 100000 in
theorem vCut_any (w : World) (a : Option Addr) (n cap : Nat) (zs : List Int) (h : SLB w a n cap zs) (hn : n ≤ 65536) (k : Nat) (hk : k ≤ 3) :
    Calls Try.prog 58 #[.slice a n cap, .int .i64 k] w fun e w' => ∃ (p : Option Addr) (m c : Nat) (ys : List Int), e = .returned (.slice p m c) ∧ SLB w' p m c ys ∧ (∀ q, blkOf p = some q → q < w'.heap.size) ∧ m ≤ 65537 ∧ Fr w w' := by
  obtain ⟨i0, hi, hz0, hz1, hz2⟩ := info_u8
  have hfr := (Fr.refl w).alloc (.cells #[] 5)
  have hmade : (w.alloc (.cells #[] 5)).ownsRow w.heap.size 5 1 (.slice (some ⟨w.heap.size, 0, none⟩) 0 0) 0 [] :=
    ⟨by simp, .inr ⟨w.heap.size, 0, #[], rfl, Nat.le_refl _, heap_alloc_new w _, Nat.le_refl _, by unfold maxLen; omega, by simp, by simp⟩⟩
  have HM := Lib.hid hmade
  have H := Lib.hid (h.fr hfr)
  have hnil := h.nil
  have hle := h.le; have hmx := h.mx
  clear h hmade
  cases a with
  | none =>
    obtain ⟨rfl, rfl⟩ := hnil rfl
    have HB : ∀ k, (Value.slice (some ⟨w.heap.size, 0, none⟩) 0 0).ownBlock = some k → w.heap.size ≤ k := fun k e => by simp [Value.ownBlock] at e; omega
    have hrow : ∀ (v2 : Value) (w2 : World), ((w.alloc (.cells #[] 5)).alloc (.cells #[.int .u8 ((0 : Nat) : Int)] 5)).grownBy w2 (Value.slice (some ⟨w.heap.size, 0, none⟩) 0 0).ownBlock → Fr w w2 := fun v2 w2 g => grown_alloc hfr g HB
    have HE := Lib.hid hrow
    clear hrow
    by_cases hk0 : k = 0
    · subst hk0
      go_enter Try.func58, Try.ntmps58
      go_wp2_with (at_builtin; first | refine wpList_append_own_none rfl _ _ 70 rfl w.heap.size 5 i0 1 Try.underlying70 hi _ 0 [] rfl HM.out rfl ?_ | refine ap_bytes _ rfl _ _ rfl w.heap.size _ 0 [] ⟨w.heap.size + 1, 0, none⟩ 1 1 [0] rfl rfl (HM.out.alloc _) (by simp; omega) rfl (by have := byte_cell (w.alloc (.cells #[] 5)) 0; rw [World.size_alloc] at this; exact this) (by omega) ?_)
      intro v2 w2 hown2 hg2
      go_wp2
      go_ret
      exact ret_cut (k := 0) (ys := []) (m := 0) (HE.out v2 w2 hg2) hown2 (by simp) (by omega)
    · have hki : (0 : Int) < (k : Int) := by omega
      go_enter Try.func58, Try.ntmps58
      go_wp2_with (at_builtin; first | refine wpList_append_own_none rfl _ _ 70 rfl w.heap.size 5 i0 1 Try.underlying70 hi _ 0 [] rfl HM.out rfl ?_ | refine ap_bytes _ rfl _ _ rfl w.heap.size _ 0 [] ⟨w.heap.size + 1, 0, none⟩ 1 1 [0] rfl rfl (HM.out.alloc _) (by simp; omega) rfl (by have := byte_cell (w.alloc (.cells #[] 5)) 0; rw [World.size_alloc] at this; exact this) (by omega) ?_)
      intro v2 w2 hown2 hg2
      go_wp2
      go_ret
      exact ret_cut (k := 0) (ys := []) (m := 0) (HE.out v2 w2 hg2) hown2 (by simp) (by omega)
  | some x =>
    have HN : ∀ q : Nat, q ≤ n → Hid (∀ j, j < n - q → (w.alloc (.cells #[] 5)).cell? ((x.add q).add j) = some (.int .u8 (nth (zs.drop q) j))) := fun q hq => Lib.hid (fun j hj => by
      have hl := H.out.len
      obtain ⟨b, off, hb, hc⟩ := H.out.cells.resolve_left (by omega)
      obtain rfl : x = ⟨b, off, none⟩ := by simpa using hb
      rw [addr_add, addr_add, Nat.add_assoc, hc (q + j) (by omega)]
      simp [nth])
    have HL : ∀ q : Nat, Hid ((zs.drop q).length = n - q) := fun q => Lib.hid (by rw [List.length_drop, H.out.len])
    have HR : ∀ q : Nat, Hid (∀ y ∈ zs.drop q, 0 ≤ y ∧ y ≤ 255) := fun q => Lib.hid (fun y hy => H.out.rng y (List.mem_of_mem_drop hy))
    have HB0 : ∀ k, (Value.slice (some ⟨w.heap.size, 0, none⟩) 0 0).ownBlock = some k → w.heap.size ≤ k := fun k e => by simp [Value.ownBlock] at e; omega
    have hx2 : ∀ (p : Addr) (c : Nat), (Value.slice (some p) 0 c) = .slice (some p) 0 c := fun _ _ => rfl
    by_cases hkn : n < k
    · have hnc : (n : Int) ≤ (cap : Int) := by omega
      have hki : (n : Int) < (k : Int) := by omega
      have hn3 : n ≤ 3 := by omega
      have HE : Hid (∀ (v2 : Value) (w2 : World), ((w.alloc (.cells #[] 5)).alloc (.cells #[.int .u8 ((n : Nat) : Int)] 5)).grownBy w2 (Value.slice (some ⟨w.heap.size, 0, none⟩) 0 0).ownBlock → Fr w w2) := Lib.hid (fun v2 w2 g => grown_alloc hfr g HB0)
      clear HN HL HR H HB0 hx2
      go_enter Try.func58, Try.ntmps58
      go_wp2_with (at_builtin; refine ap_bytes _ rfl _ _ rfl w.heap.size _ 0 [] ⟨w.heap.size + 1, 0, none⟩ 1 1 [((n : Nat) : Int)] rfl rfl (HM.out.alloc _) (by simp; omega) rfl (by have := byte_cell (w.alloc (.cells #[] 5)) ((n : Nat) : Int); rw [World.size_alloc] at this; exact this) (by omega) ?_)
      all_goals
        intro v2 w2 hown2 hg2
        go_wp2
        go_ret
        exact ret_cut (k := n) (ys := []) (m := 0) (HE.out v2 w2 hg2) hown2 (by simp) (by omega)
    · by_cases hkn1 : n = k
      · subst hkn1
        have hnc : (n : Int) ≤ (cap : Int) := by omega
        have HE : Hid (∀ (v2 : Value) (w2 : World), ((w.alloc (.cells #[] 5)).alloc (.cells #[.int .u8 ((n : Nat) : Int)] 5)).grownBy w2 (Value.slice (some ⟨w.heap.size, 0, none⟩) 0 0).ownBlock → Fr w w2) := Lib.hid (fun v2 w2 g => grown_alloc hfr g HB0)
        clear HN HL HR H HB0 hx2
        go_enter Try.func58, Try.ntmps58
        go_wp2_with (at_builtin; refine ap_bytes _ rfl _ _ rfl w.heap.size _ 0 [] ⟨w.heap.size + 1, 0, none⟩ 1 1 [((n : Nat) : Int)] rfl rfl (HM.out.alloc _) (by simp; omega) rfl (by have := byte_cell (w.alloc (.cells #[] 5)) ((n : Nat) : Int); rw [World.size_alloc] at this; exact this) (by omega) ?_)
        all_goals
          intro v2 w2 hown2 hg2
          go_wp2
          go_ret
          exact ret_cut (k := n) (ys := []) (m := 0) (HE.out v2 w2 hg2) hown2 (by simp) (by omega)
      · have hkn2 : k < n := by omega
        have hkc : (k : Int) ≤ (cap : Int) := by omega
        have H1 := HN k (by omega); have H2 := HL k; have H3 := HR k
        clear HN HL HR H
        go_enter Try.func58, Try.ntmps58
        go_wp2_with (at_builtin; refine ap_bytes _ rfl _ _ rfl w.heap.size _ 0 [] (x.add k) (n - k) (cap - k) (zs.drop k) rfl rfl HM.out hfr.size H2.out H1.out (by omega) ?_)
        intro v1 w1 hown1 hg1
        have hF1 : Fr w w1 := hfr.grown hg1 (fun k e => by simp [Value.ownBlock] at e; omega)
        have HB : ∀ k, v1.ownBlock = some k → w.heap.size ≤ k := fun k e => (hown1.lt k e).1
        rw [← List.map_drop] at hown1
        have HO := Lib.hid hown1
        clear hown1 hg1 H1 HB0 hx2
        go_wp2_with (at_builtin; refine ap_bytes _ rfl _ _ rfl w.heap.size v1 (n - k) (zs.drop k) ⟨w1.heap.size, 0, none⟩ 1 1 [(k : Int)] rfl rfl (HO.out.alloc _) (by have := hF1.size; rw [World.size_alloc]; omega) rfl (byte_cell _ _) (by omega) ?_)
        intro v2 w2 hown2 hg2
        have HW := Lib.hid hown2
        clear hown2
        go_wp2
        go_ret
        have E := ret_cut (ys := zs.drop k) (m := n - k) (k := k) (grown_alloc hF1 hg2 HB) (by simpa [List.map_drop] using HW.out) H3.out (by omega)
        exact E
end Go.Proofs.Ytojipjjfndgbhaa
/- Draws of a house for the laws. -/
set_option linter.unusedVariables false
namespace Go.Proofs.Ytojipjjfndgbhaa
open Go.ChangeShapes Go.WideShapes Go.ChangeAt Go.RowKit
set_option maxRecDepth 100000 in
theorem DrawIsHouse_any (w : World) (a : Option Addr) (n cap : Nat) (zs : List Int) (h : SLB w a n cap zs) :
    Calls Try.prog 110 #[.slice a n cap] w fun e w' => ∃ (hh : HSt) (p q a : Option Addr) (n c m d l b : Nat), e = .returned (.agg #[.slice p n c, .slice q m d, .slice a l b, .int .i64 hh.t, .int .i64 hh.s, .int .i64 hh.u, .int .i64 hh.v]) ∧ HsN 51 w.heap.size w' p q a n c m d l b hh ∧ Fr w w' := by
  have f0 := (Fr.refl w).alloc (.cells #[.slice none 0 0, .slice none 0 0, .slice none 0 0, .int .i64 0, .int .i64 0, .int .i64 0, .int .i64 0] 31)
  have D0 := Dr.start (h.fr f0)
  have HB := (Blk.new w #[.slice none 0 0, .slice none 0 0, .slice none 0 0, .int .i64 0, .int .i64 0, .int .i64 0, .int .i64 0] 31).alloc (.cells #[.slice a n cap, .int .i64 0, .int .u64 0] 110)
  have HE : Hid (∀ (A : Nat) (w' : World), Dr (w.alloc (.cells #[.slice none 0 0, .slice none 0 0, .slice none 0 0, .int .i64 0, .int .i64 0, .int .i64 0, .int .i64 0] 31)).heap.size A ((w.alloc (.cells #[.slice none 0 0, .slice none 0 0, .slice none 0 0, .int .i64 0, .int .i64 0, .int .i64 0, .int .i64 0] 31)).alloc (.cells #[.slice a n cap, .int .i64 0, .int .u64 0] 110)) w' → Fr w w') := Lib.hid fun A w' h => f0.trans (h.ends rfl)
  have hg : w.heap.size + 1 < ((w.alloc (.cells #[.slice none 0 0, .slice none 0 0, .slice none 0 0, .int .i64 0, .int .i64 0, .int .i64 0, .int .i64 0] 31)).alloc (.cells #[.slice a n cap, .int .i64 0, .int .u64 0] 110)).heap.size := by simp
  clear h f0
  rw [World.size_alloc] at D0 HE
  go_enter Try.func110, Try.ntmps110
  go_upto_region 2 with fail
  generalize (w.alloc (.cells #[.slice none 0 0, .slice none 0 0, .slice none 0 0, .int .i64 0, .int .i64 0, .int .i64 0, .int .i64 0] 31)).alloc (.cells #[.slice a n cap, .int .i64 0, .int .u64 0] 110) = v0 at D0 HB HE hg ⊢
  go_wp2_with fail
  refine (house_dr _ D0 (by omega)).mono ?_
  rintro e w1 ⟨h2, p2, q2, a2, n2, c2, m2, d2, l2, b2, rfl, N9, D1, E1⟩
  have R4 := E1.blk HB (show w.heap.size + 1 ≠ w.heap.size by omega)
  have F1 := HE.out _ _ D1
  have FIN := Lib.hid (And.intro (R4.set7 (.slice p2 n2 c2) (.slice q2 m2 d2) (.slice a2 l2 b2) (.int .i64 h2.t) (.int .i64 h2.s) (.int .i64 h2.u) (.int .i64 h2.v)) (And.intro ((N9.set7 (N9.low (show w.heap.size < v0.heap.size by omega)) (.slice p2 n2 c2) (.slice q2 m2 d2) (.slice a2 l2 b2) (.int .i64 h2.t) (.int .i64 h2.s) (.int .i64 h2.u) (.int .i64 h2.v)).mono (show w.heap.size ≤ v0.heap.size by omega) (Nat.le_refl _)) (F1.set7 (g := w.heap.size) (Nat.le_refl _) (.slice p2 n2 c2) (.slice q2 m2 d2) (.slice a2 l2 b2) (.int .i64 h2.t) (.int .i64 h2.s) (.int .i64 h2.u) (.int .i64 h2.v))))
  have u0 := R4.cell (j := 0) rfl; have u1 := R4.cell (j := 1) rfl; have u2 := R4.cell (j := 2) rfl; have u3 := R4.cell (j := 3) rfl; have u4 := R4.cell (j := 4) rfl; have u5 := R4.cell (j := 5) rfl; have u6 := R4.cell (j := 6) rfl
  have i0 := R4.free 0; have i1 := R4.free 1; have i2 := R4.free 2; have i3 := R4.free 3; have i4 := R4.free 4; have i5 := R4.free 5; have i6 := R4.free 6
  clear N9 R4 D1 E1 HB D0 F1
  go_wp2
  refine bodyPost_ret (results_H Try.results110 _ _ w.heap.size _ _ _ _ _ _ _ rfl (FIN.out.1.cell rfl) (FIN.out.1.cell rfl) (FIN.out.1.cell rfl) (FIN.out.1.cell rfl) (FIN.out.1.cell rfl) (FIN.out.1.cell rfl) (FIN.out.1.cell rfl)) rfl ?_
  exact ⟨h2, _, _, _, _, _, _, _, _, _, rfl, FIN.out.2.1, FIN.out.2.2⟩
set_option maxRecDepth 100000 in
theorem DrawHouseValue_any (w : World) (a : Option Addr) (n cap : Nat) (zs : List Int) (h : SLB w a n cap zs) :
    Calls Try.prog 63 #[.slice a n cap] w fun e w' => ∃ (hh : HSt) (p q a : Option Addr) (n c m d l b : Nat), e = .returned (.agg #[.slice p n c, .slice q m d, .slice a l b, .int .i64 hh.t, .int .i64 hh.s, .int .i64 hh.u, .int .i64 hh.v]) ∧ HsN 51 w.heap.size w' p q a n c m d l b hh ∧ Fr w w' := by
  have f0 := (Fr.refl w).alloc (.cells #[.slice none 0 0, .slice none 0 0, .slice none 0 0, .int .i64 0, .int .i64 0, .int .i64 0, .int .i64 0] 31)
  have h1 := h.fr f0
  have HB := Blk.new w #[.slice none 0 0, .slice none 0 0, .slice none 0 0, .int .i64 0, .int .i64 0, .int .i64 0, .int .i64 0] 31
  have hg : w.heap.size < (w.alloc (.cells #[.slice none 0 0, .slice none 0 0, .slice none 0 0, .int .i64 0, .int .i64 0, .int .i64 0, .int .i64 0] 31)).heap.size := by simp
  clear h
  go_enter Try.func63, Try.ntmps63
  go_upto_region 1 with fail
  generalize w.alloc (.cells #[.slice none 0 0, .slice none 0 0, .slice none 0 0, .int .i64 0, .int .i64 0, .int .i64 0, .int .i64 0] 31) = v0 at h1 HB hg f0 ⊢
  go_wp2_with fail
  refine (DrawIsHouse_any _ _ _ _ _ h1).mono ?_
  rintro e w1 ⟨h2, p2, q2, a2, n2, c2, m2, d2, l2, b2, rfl, N9, f1⟩
  have R4 := HB.fr f1
  have F1 := f0.trans f1
  have FIN := Lib.hid (And.intro (R4.set7 (.slice p2 n2 c2) (.slice q2 m2 d2) (.slice a2 l2 b2) (.int .i64 h2.t) (.int .i64 h2.s) (.int .i64 h2.u) (.int .i64 h2.v)) (And.intro ((N9.set7 (N9.low (show w.heap.size < v0.heap.size by omega)) (.slice p2 n2 c2) (.slice q2 m2 d2) (.slice a2 l2 b2) (.int .i64 h2.t) (.int .i64 h2.s) (.int .i64 h2.u) (.int .i64 h2.v)).mono (show w.heap.size ≤ v0.heap.size by omega) (Nat.le_refl _)) (F1.set7 (g := w.heap.size) (Nat.le_refl _) (.slice p2 n2 c2) (.slice q2 m2 d2) (.slice a2 l2 b2) (.int .i64 h2.t) (.int .i64 h2.s) (.int .i64 h2.u) (.int .i64 h2.v))))
  have u0 := R4.cell (j := 0) rfl; have u1 := R4.cell (j := 1) rfl; have u2 := R4.cell (j := 2) rfl; have u3 := R4.cell (j := 3) rfl; have u4 := R4.cell (j := 4) rfl; have u5 := R4.cell (j := 5) rfl; have u6 := R4.cell (j := 6) rfl
  have i0 := R4.free 0; have i1 := R4.free 1; have i2 := R4.free 2; have i3 := R4.free 3; have i4 := R4.free 4; have i5 := R4.free 5; have i6 := R4.free 6
  clear N9 R4 HB F1 f0 f1 h1
  go_wp2
  refine bodyPost_ret (results_H Try.results63 _ _ w.heap.size _ _ _ _ _ _ _ rfl (FIN.out.1.cell rfl) (FIN.out.1.cell rfl) (FIN.out.1.cell rfl) (FIN.out.1.cell rfl) (FIN.out.1.cell rfl) (FIN.out.1.cell rfl) (FIN.out.1.cell rfl)) rfl ?_
  exact ⟨h2, _, _, _, _, _, _, _, _, _, rfl, FIN.out.2.1, FIN.out.2.2⟩
end Go.Proofs.Ytojipjjfndgbhaa
/- Contracts of worth, EnvelopeOf, HouseValue. -/
set_option linter.unusedVariables false
namespace Go.Proofs.Ytojipjjfndgbhaa
open Go.ChangeShapes Go.WideShapes Go.ChangeAt Go.RowKit

theorem zero_int (w : World) : (zeroValue 3).run Try.prog w = .ok (.int .i64 0) w := by kernel_rfl
theorem Own.clearsAt {B n cap g : Nat} : ∀ (m o : Nat) (xs : List Int) (w : World), Own B w (some ⟨g, 0, none⟩) n cap xs → o + m = n → (∀ i, i < o → nth xs i = 0) →
    Own B (w.setCells g o (List.replicate m (.int .i64 0))) (some ⟨g, 0, none⟩) n cap (List.replicate n 0) ∧ w.grownBy (w.setCells g o (List.replicate m (.int .i64 0))) (some g) := by
  intro m
  induction m with
  | zero =>
    intro o xs w h ho hz
    refine ⟨?_, grownBy_refl _ _⟩
    have hl := h.len
    have e : xs = List.replicate n 0 := by
      apply List.ext_getElem
      · simpa using hl
      · intro i h1 h2
        have := hz i (by omega)
        rw [nth_eq h1] at this
        simpa using this
    rw [← e]; exact h
  | succ m ih =>
    intro o xs w h ho hz
    have hl := h.len
    rw [List.replicate_succ, World.setCells]
    have h2 := h.set (i := o) rfl (by omega) (v := 0) (by unfold I64; omega)
    obtain ⟨k1, k2⟩ := ih (o + 1) _ _ h2 (by omega) (fun i hi => by
      by_cases e : o = i
      · subst e; rw [nth_set_same (by omega)]
      · rw [nth_set_ne e]; exact hz i (by omega))
    exact ⟨k1, grownBy_trans (grownBy_setCell (grownBy_refl w (some g)) rfl _) k2⟩
theorem Own.clears {B n cap : Nat} {w : World} {a : Option Addr} {xs : List Int} (h : Own B w a n cap xs) (hn : 0 < n) :
    ∃ w', (∀ ty, (Builtin.clear_ #[22] ty #[.slice a n cap]).run Try.prog w = .ok (.tuple #[]) w') ∧ Own B w' a n cap (List.replicate n 0) ∧ w.grownBy w' (blkOf a) := by
  obtain ⟨g, rfl, hB, hlt, hc, hf⟩ := h.op hn
  obtain ⟨k1, k2⟩ := Own.clearsAt n 0 xs w h (by omega) (fun i hi => by omega)
  refine ⟨_, fun ty => Lib.run_clear_slice w _ _ ty (.int .i64 0) Try.underlying22 zero_int rfl rfl g 0 n cap hn (fun j hj => by rw [Nat.zero_add, hc j hj]; rfl) (fun j hj => hf _), k1, k2⟩

set_option maxRecDepth 100000 in
set_option maxHeartbeats 2000000 in
theorem worth_any (w : World) (p q a : Option Addr) (n c m d l b : Nat) (P W X : List Int) (hP : SL w p n c P) (hW : SL w q m d W) (hX : SL w a l b X) (ht : treeB P W = true) (hl : l = n) (hv : ∀ i, -999 ≤ nth X i ∧ nth X i ≤ 999) :
    Calls Try.prog 124 #[.agg #[.slice p n c, .slice q m d], .slice a l b, .int .i64 (-1)] w fun e w' => ∃ a1 n1 c1 a2 n2 c2, e = .returned (.tuple #[.slice a1 n1 c1, .slice a2 n2 c2]) ∧ Own w.heap.size w' a1 n1 c1 (capM P W X) ∧ Fr w w' ∧ n1 ≤ 1048576 := by
  subst hl
  have HP := Lib.hid hP.len
  have HX := Lib.hid hX.len
  have Hv := Lib.hid hv
  have Ht := Lib.hid ht
  obtain ⟨t1, t2, t3, t4⟩ := treeB_iff.1 ht
  have Hp := Lib.hid t3
  rw [HP.out] at t1
  clear ht hv t2 t3 t4
  have hfr : Fr w (w.alloc (.cells #[.slice p l c, .slice q m d] 29)) := (Fr.refl w).alloc _
  have hb0 := Blk.new w #[.slice p l c, .slice q m d] 29
  have H0 := Lib.hid hb0
  clear hb0
  have hs0 : (w.alloc (.cells #[.slice p l c, .slice q m d] 29)).heap.size = w.heap.size + 1 := World.size_alloc _ _
  have hP1 := hP.fr hfr
  have hW1 := hW.fr hfr
  have hX1 := hX.fr hfr
  go_enter Try.func124, Try.ntmps124
  go_wp2
  generalize hw1 : w.alloc (.cells #[.slice p l c, .slice q m d] 29) = w1 at hfr H0 hs0 hP1 hW1 hX1 ⊢
  clear hw1
  have hs0' := Lib.hid hs0
  have c0 := H0.out.cell (j := 0) rfl
  have c1 := H0.out.cell (j := 1) rfl
  go_region_held3 (fun w' => w'.cell? ⟨w.heap.size, 0, none⟩ = some (.slice p l c) ∧ w'.cell? ⟨w.heap.size, 1, none⟩ = some (.slice q m d))
    (first
      | go_keep
      | (exact ⟨(H0.out.fr F3).cell rfl, (H0.out.fr F3).cell rfl⟩)
      | (exact ⟨(H0.out.fr F2).cell rfl, (H0.out.fr F2).cell rfl⟩))
    (first
      | (go_at_call 91; refine (sums_any _ _ _ _ _ _ _ _ _ (hP1.fr (Fr.drewN _ 1)) (hW1.fr (Fr.drewN _ 1)) Ht.out).mono ?_; rintro e w2 ⟨a2, n2, c2, rfl, o2, f2, m2⟩; have F2 : Fr w1 w2 := (Fr.drewN _ 1).trans f2)
      | (go_at_call 112; refine (isEnd_any _ _ _ _ _ _ _ _ (hP1.fr F2) Hp.out (by omega)).mono ?_; rintro e w3 ⟨a3, n3, c3, rfl, o3, f3, m3⟩; have F3 : Fr w1 w3 := F2.trans f3))
  clear c0 c1
  have N2 : n2 = l := by rw [← o2.len, gathM, gathTo_len, (treeB_iff.1 Ht.out).2.1, HP.out]
  have N3 : n3 = l := by rw [← o3.len, endsAt_len, HP.out]
  subst N2
  subst N3
  have y2 := o2.within
  have y3 := o3.within
  have z2 := F2.size
  have z3 := f3.size
  have o2' := (o2.mono (B' := w1.heap.size) (by first | simp | exact Nat.le_refl _)).fr f3
  go_wp2_with fail
  go_cut [10, 11] (fun sa so wx => ∃ (g h : Nat), sa = .slice (some ⟨g, 0, none⟩) n3 n3 ∧ so = .slice (some ⟨h, 0, none⟩) n3 n3 ∧ w3.heap.size ≤ g ∧ w3.heap.size ≤ h ∧ g ≠ h ∧ 
    Own w3.heap.size wx (some ⟨g, 0, none⟩) n3 n3 (List.replicate n3 0) ∧ Own w3.heap.size wx (some ⟨h, 0, none⟩) n3 n3 (List.replicate n3 0) ∧ Fr w3 wx)
  case first =>
    obtain ⟨t11, t12⟩ := t1
    have hmk := fun w => run_make_row' 22 3 (.int .i64 0) 8 Try.underlying22 infoInt rfl .i64 .i64 n3 (by omega) (by omega) w
    go_region
    all_goals
      go_wp2_with fail
      go_meet
    · refine ⟨_, _, rfl, rfl, ?_, ?_, ?_, ?_, ?_, (((Fr.refl w3).drew' 1).alloc _).alloc _⟩
      iterate 3 simp
      all_goals refine Own.fr ?_ (((Fr.refl _).drew' 1))
      all_goals first
        | exact Own.made _ n3 (Nat.le_refl _) (by unfold maxLen; omega)
        | (have hh := Own.made (B := w3.heap.size) (w3.alloc (.cells (madeCells #[.int .i64 0] n3) 3)) n3 (by simp) (by unfold maxLen; omega); rw [World.size_alloc] at hh; exact hh)
        | (refine Own.fr (w := World.alloc _ _) ?_ ((Fr.refl _).alloc _); refine Own.made _ n3 ?_ (by unfold maxLen; omega); first | exact Nat.le_refl _ | simp)
    · refine ⟨_, _, rfl, rfl, ?_, ?_, ?_, ?_, ?_, (((Fr.refl w3).drew' 1).alloc _).alloc _⟩
      iterate 3 simp
      all_goals refine Own.fr ?_ (((Fr.refl _).drew' 1))
      all_goals first
        | exact Own.made _ n3 (Nat.le_refl _) (by unfold maxLen; omega)
        | (have hh := Own.made (B := w3.heap.size) (w3.alloc (.cells (madeCells #[.int .i64 0] n3) 3)) n3 (by simp) (by unfold maxLen; omega); rw [World.size_alloc] at hh; exact hh)
        | (refine Own.fr (w := World.alloc _ _) ?_ ((Fr.refl _).alloc _); refine Own.made _ n3 ?_ (by unfold maxLen; omega); first | exact Nat.le_refl _ | simp)
  case rest =>
    obtain ⟨g, h, rfl, rfl, hg, hh, hgh, oA, oO, hF1⟩ := hcut
    obtain ⟨t11, t12⟩ := t1
    have hmk := fun w => run_make_row' 22 3 (.int .i64 0) 8 Try.underlying22 infoInt rfl .i64 .i64 n3 (by omega) (by omega) w
    obtain ⟨gs, rfl, hs1, hs2, hsc, -⟩ := o2'.op (by omega)
    obtain ⟨ge, rfl, he1, he2, hec, -⟩ := o3.op (by omega)
    have Hsb := Lib.hid (fun x => sums_le Ht.out x)
    have hXb : Hid (∀ x, ((nth X x).natAbs : Int) ≤ 999) := Lib.hid (fun x => by have := Hv.out x; omega)
    have HPL : Hid (payS P W X = payS P W X ∧ P.length = n3) := Lib.hid ⟨rfl, HP.out⟩
    have hFw := (hfr.trans F3).trans hF1
    have w3s := F3.size
    go_wp2
    go_loopw [28] (fun i wr => ∃ k : Nat, k ≤ n3 ∧ i = .int .i64 k ∧ Own w3.heap.size wr (some ⟨g, 0, none⟩) n3 n3 (preL P (payS P W X) k) ∧ Own w3.heap.size wr (some ⟨h, 0, none⟩) n3 n3 (List.replicate n3 0) ∧ Fr w3 wr) (fun i _ => n3 - (intOf i).toNat)
    case atStart => exact ⟨0, by omega, rfl, by rw [preL_zero, HP.out]; exact oA, oO, hF1⟩
    case round =>
      clear oA oO hF1
      obtain ⟨k, hk, rfl, oA, oO, hF⟩ := hrel
      by_cases hlt : k < n3
      · have cs := hF.keep (hsc k hlt)
        obtain ⟨bx, ox, rfl, hcx⟩ := ((hX1.fr F3).fr hF).cells.resolve_left (by omega)
        replace hcx := hcx k hlt
        obtain ⟨g', hg', hB, hlt2, hcc, hfro⟩ := oA.op (by omega)
        obtain rfl : g' = g := by simpa using hg'.symm
        clear hg'
        have hca := hcc k hlt
        have hfa := hfro k
        clear hcc hfro
        have hpb : -479520 ≤ nth (gathM P W) k * nth X k ∧ nth (gathM P W) k * nth X k ≤ 479520 := cap_small Ht.out Hv.out 0 k (by rw [HP.out]; exact hlt)
        have hS : Hid ((preL P (payS P W X) k).set k (nth (gathM P W) k * nth X k) = preL P (payS P W X) (k + 1)) := Lib.hid preL_set
        have e1 : IntKind.i64.wrap (nth (gathM P W) k * nth X k) = nth (gathM P W) k * nth X k := IntWalk.i64_in _ (by omega)
        have i1 : (0 : Int) ≤ (k : Int) := by omega
        have i2 : (k : Int) < (n3 : Int) := by omega
        go_wp2
        go_region
        clear e1
        go_wp2
        go_roundw
        case rel =>
          refine ⟨k + 1, by omega, by go_num, ?_, ?_, ?_⟩
          · rw [← hS.out]; exact (oA.drewN 1).set rfl hlt (by unfold I64; omega)
          · exact (oO.drewN 1).setOther (by simp [blkOf]; omega) _
          · exact (hF.drew' 1).setCell hB _
        case measure => simp [intOf]; omega
      · obtain rfl : k = n3 := by omega
        have hC0 : Hid (preL P (payS P W X) k = capL P W X 0) := Lib.hid (by rw [← HP.out, preL_all]; rfl)
        rw [hC0.out] at oA
        clear hC0
        obtain ⟨wa, rfl⟩ : ∃ wa : World, wa = wr := ⟨_, rfl⟩
        go_wp2
        go_loopw [10, 47] (fun v i wo => ∃ (r g1 : Nat) (os : List Int), r ≤ 24 ∧ i = .int .i64 r ∧ v = .slice (some ⟨g1, 0, none⟩) k k ∧ g1 ≠ h ∧ Own w3.heap.size wo (some ⟨g1, 0, none⟩) k k (capL P W X r) ∧ Own w3.heap.size wo (some ⟨h, 0, none⟩) k k os ∧ Fr w3 wo) (fun _ i _ => 24 - (intOf i).toNat)
        case atStart => exact ⟨0, g, _, by omega, rfl, rfl, hgh, oA, oO, hF⟩
        case round =>
          clear oA oO hF
          obtain ⟨r, g1, os, hr, rfl, rfl, hg1, oA, oO, hF⟩ := hrel
          by_cases hrt : r < 24
          · obtain ⟨wo, rfl⟩ : ∃ wo : World, wo = wr := ⟨_, rfl⟩
            have hsz := hF.size
            have hhl := (oO.blk h rfl).2
            have hgl := (oA.blk g1 rfl).2
            have fa : Fr wo (wo.alloc (.cells (madeCells #[.int .i64 0] k) 3)) := (Fr.refl wo).alloc _
            obtain ⟨wc, hcl, oO2, gO2⟩ := (oO.fr fa).clears (by omega)
            have oA2 := (oA.fr fa).grown gO2 (.inr (by simpa [blkOf] using hg1))
            have oN2 := (Own.made (B := w3.heap.size) wo k hsz (by unfold maxLen; omega)).grown gO2 (.inr (by simp [blkOf]; omega))
            have hF2 := (hF.trans fa).grown gO2 (fun z hz => by simp only [blkOf, Option.map_some, Option.some.injEq] at hz; omega)
            clear oA oO hF gO2
            have hNh : wo.heap.size ≠ h := by omega
            have hNg : wo.heap.size ≠ g1 := by omega
            have hcb : Hid (∀ y, y < k → -479520 ≤ capI P W X r y ∧ capI P W X r y ≤ 479520) := Lib.hid (fun y hy => cap_small Ht.out Hv.out r y (by rw [HP.out]; exact hy))
            have hkb : Hid (∀ z j, z < k → j + 1 ≤ k → -479520 ≤ kidSum P (capI P W X r) z j ∧ kidSum P (capI P W X r) z j ≤ 479520) := Lib.hid (fun z j hz hj => kid_small (X := X) Ht.out (fun y hy => cap_bd Ht.out Hv.out r y hy) z j (by rw [HP.out]; exact hz) (by rw [HP.out]; exact hj))
            go_wp2
            clear hcl
            go_loopw [14] (fun i wx => ∃ x : Nat, x < k ∧ i = .int .i64 x ∧ Own w3.heap.size wx (some ⟨h, 0, none⟩) k k (kidL P (capI P W X r) (k - 1 - x)) ∧ Own w3.heap.size wx (some ⟨g1, 0, none⟩) k k (capL P W X r) ∧ Own w3.heap.size wx (some ⟨wo.heap.size, 0, none⟩) k k (List.replicate k 0) ∧ Fr w3 wx) (fun i _ => (intOf i).toNat)
            case atStart => exact ⟨k - 1, by omega, congrArg (Value.int .i64) (by omega), by rw [Nat.sub_self, kidL_zero, HP.out]; exact oO2, oA2, oN2, hF2⟩
            case round =>
              clear oO2 oA2 oN2 hF2
              obtain ⟨x, hx, rfl, oO, oA, oN, hF⟩ := hrel
              by_cases h0 : 0 < x
              · have b0 := ((H0.out.fr F3).fr hF).cell (j := 0) rfl
                obtain ⟨bp, op, rfl, hcp⟩ := ((hP1.fr F3).fr hF).cells.resolve_left (by omega)
                replace hcp := hcp x hx
                obtain ⟨y, hy⟩ := Int.eq_ofNat_of_zero_le (by have := (parB_iff.1 Hp.out).2 x (by rw [HP.out]; exact hx) h0; omega : 0 ≤ nth P x)
                have hyx : y < x := by have := (parB_iff.1 Hp.out).2 x (by rw [HP.out]; exact hx) h0; omega
                have HG : Hid ((kidL P (capI P W X r) (k - 1 - x)).set y (kidSum P (capI P W X r) y (k - 1 - x) + capI P W X r x) = kidL P (capI P W X r) (k - 1 - (x - 1))) := Lib.hid (by
                  have e1 : P.length - 1 - (k - 1 - x) = x := by rw [HP.out]; omega
                  have := kidL_step (P := P) (F := capI P W X r) (j := k - 1 - x) (y := y) (by rw [e1]; exact hy) (by rw [HP.out]; omega)
                  rw [e1, kidL_nth (by rw [HP.out]; omega)] at this
                  rw [this]; congr 1; omega)
                rw [hy] at hcp
                clear hy
                obtain ⟨g', hg', hB, hlt2, hcc, hfro⟩ := oO.op (by omega)
                obtain rfl : h = g' := by simpa using hg'
                have hcy := hcc y (by omega)
                rw [kidL_nth (by rw [HP.out]; omega)] at hcy
                replace hfro := hfro y
                clear hcc hg'
                obtain ⟨g'', hg'', hB', hlt3, hcc, -⟩ := oA.op (by omega)
                obtain rfl : g1 = g'' := by simpa using hg''
                have hcx := hcc x hx
                rw [capL_nth (by rw [HP.out]; exact hx)] at hcx
                clear hcc hg''
                have b1 := hcb.out x hx
                have b2 := hkb.out y (k - 1 - x) (by omega) (by omega)
                have i1 : (0 : Int) ≤ (x : Int) := by omega
                have i2 : (x : Int) < (k : Int) := by omega
                have i3 : (0 : Int) ≤ (y : Int) := by omega
                have i4 : (y : Int) < (k : Int) := by omega
                have hxd : decide (0 < x) = true := by simp; omega
                go_wp2
                have e1 : IntKind.i64.wrap (kidSum P (capI P W X r) y (k - 1 - x) + capI P W X r x) = kidSum P (capI P W X r) y (k - 1 - x) + capI P W X r x := IntWalk.i64_in _ (by omega)
                go_region
                clear e1
                go_wp2
                go_roundw
                case rel =>
                  refine ⟨x - 1, by omega, congrArg (Value.int .i64) (by omega), ?_, ?_, ?_, ?_⟩
                  · rw [← HG.out]; exact (oO.drewN 1).set rfl (by omega) (by unfold I64; omega)
                  · exact (oA.drewN 1).setOther (by simpa [blkOf] using hg1) _
                  · exact (oN.drewN 1).setOther (by simpa [blkOf] using hNh) _
                  · exact (hF.drew' 1).setCell (by simpa using hB) _
                case measure => simp [intOf]; omega
              · obtain rfl : x = 0 := by omega
                have hNN : Hid (k - 1 - 0 = k - 1) := Lib.hid rfl
                rw [hNN.out] at oO
                clear hNN
                obtain ⟨wb, rfl⟩ : ∃ wb : World, wb = wr := ⟨_, rfl⟩
                go_wp2
                go_loopw [76] (fun i wx => ∃ z : Nat, z ≤ k ∧ i = .int .i64 z ∧ Own w3.heap.size wx (some ⟨h, 0, none⟩) k k (kidL P (capI P W X r) (k - 1)) ∧ Own w3.heap.size wx (some ⟨g1, 0, none⟩) k k (capL P W X r) ∧ Own w3.heap.size wx (some ⟨wo.heap.size, 0, none⟩) k k (preL P (capI P W X (r + 1)) z) ∧ Fr w3 wx) (fun i _ => k - (intOf i).toNat)
                case atStart => exact ⟨0, by omega, rfl, oO, oA, by rw [preL_zero, HP.out]; exact oN, hF⟩
                case round =>
                  clear oO oA oN hF
                  obtain ⟨z, hz, rfl, oO, oA, oN, hF⟩ := hrel
                  by_cases hzt : z < k
                  · have cs := hF.keep (hsc z hzt)
                    have ce := hF.keep (hec z hzt)
                    obtain ⟨bx, ox, rfl, hcx⟩ := ((hX1.fr F3).fr hF).cells.resolve_left (by omega)
                    replace hcx := hcx z hzt
                    have hEz : nthB (endsAt P k) z = endB P z := by rw [endsAt_nth _ _ _ (by rw [HP.out]; exact hzt), endB, HP.out]
                    rw [hEz] at ce
                    clear hEz
                    obtain ⟨g', hg', hB, hlt2, hcc, hfro⟩ := oN.op (by omega)
                    obtain rfl : wo.heap.size = g' := by simpa using hg'
                    have hcn := hcc z hzt
                    have hfa := hfro z
                    clear hcc hfro hg'
                    have hpb : -479520 ≤ nth (gathM P W) z * nth X z ∧ nth (gathM P W) z * nth X z ≤ 479520 := cap_small Ht.out Hv.out 0 z (by rw [HP.out]; exact hzt)
                    have hS : Hid ((preL P (capI P W X (r + 1)) z).set z (capI P W X (r + 1) z) = preL P (capI P W X (r + 1)) (z + 1)) := Lib.hid preL_set
                    have i1 : (0 : Int) ≤ (z : Int) := by omega
                    have i2 : (z : Int) < (k : Int) := by omega
                    cases he : endB P z
                    · have hC : Hid (capI P W X (r + 1) z = max (nth (gathM P W) z * nth X z) (kidSum P (capI P W X r) z (k - 1))) := Lib.hid (by
                        show capStep P (payS P W X) (capI P W X r) z = _
                        rw [capStep, he, if_neg (by simp), HP.out]; rfl)
                      rw [he] at ce
                      clear he
                      go_wp2
                      have e1 : IntKind.i64.wrap (nth (gathM P W) z * nth X z) = nth (gathM P W) z * nth X z := IntWalk.i64_in _ (by omega)
                      go_region
                      clear e1
                      have hco := (oO.op (by omega))
                      obtain ⟨g'', hg'', -, -, hco, -⟩ := hco
                      obtain rfl : h = g'' := by simpa using hg''
                      replace hco := hco z hzt
                      rw [kidL_nth (by rw [HP.out]; exact hzt)] at hco
                      have hNh' := Ne.symm hNh
                      have b2 := hkb.out z (k - 1) hzt (by omega)
                      go_wp2
                      go_region
                      go_wp2
                      · go_roundw
                        case measure => simp [intOf]; omega
                        have hv : Hid (kidSum P (capI P W X r) z (k - 1) = capI P W X (r + 1) z) := Lib.hid (by rw [hC.out]; omega)
                        refine ⟨z + 1, by omega, by go_num, ?_, ?_, ?_, ?_⟩
                        · exact (((oO.setOther (by simpa [blkOf] using hNh') _).setOther (by simpa [blkOf] using hNh') _).drewN 1).drewN 1
                        · exact (((oA.setOther (by simpa [blkOf] using Ne.symm hNg) _).setOther (by simpa [blkOf] using Ne.symm hNg) _).drewN 1).drewN 1
                        · have h1 := (oN.set rfl hzt (v := nth (gathM P W) z * nth X z) (by unfold I64; omega)).set rfl hzt (v := kidSum P (capI P W X r) z (k - 1)) (by unfold I64; omega)
                          rw [List.set_set] at h1
                          rw [← hS.out, ← hv.out]; exact (h1.drewN 1).drewN 1
                        · exact (((hF.setCell hB _).setCell hB _).drew' 1).drew' 1
                      · go_roundw
                        case measure => simp [intOf]; omega
                        have hv : Hid (nth (gathM P W) z * nth X z = capI P W X (r + 1) z) := Lib.hid (by rw [hC.out]; omega)
                        refine ⟨z + 1, by omega, by go_num, ?_, ?_, ?_, ?_⟩
                        · exact (((oO.setOther (by simpa [blkOf] using hNh') _).setOther (by simpa [blkOf] using hNh') _).drewN 1).drewN 1
                        · exact (((oA.setOther (by simpa [blkOf] using Ne.symm hNg) _).setOther (by simpa [blkOf] using Ne.symm hNg) _).drewN 1).drewN 1
                        · have h1 := (oN.set rfl hzt (v := nth (gathM P W) z * nth X z) (by unfold I64; omega)).set rfl hzt (v := nth (gathM P W) z * nth X z) (by unfold I64; omega)
                          rw [List.set_set] at h1
                          rw [← hS.out, ← hv.out]; exact (h1.drewN 1).drewN 1
                        · exact (((hF.setCell hB _).setCell hB _).drew' 1).drew' 1
                    · have hC : Hid (capI P W X (r + 1) z = nth (gathM P W) z * nth X z) := Lib.hid (by
                        show capStep P (payS P W X) (capI P W X r) z = _
                        rw [capStep, he, if_pos rfl]; rfl)
                      rw [he] at ce
                      clear he
                      go_wp2
                      have e1 : IntKind.i64.wrap (nth (gathM P W) z * nth X z) = nth (gathM P W) z * nth X z := IntWalk.i64_in _ (by omega)
                      go_region
                      clear e1
                      go_wp2
                      go_roundw
                      case rel =>
                        refine ⟨z + 1, by omega, by go_num, ?_, ?_, ?_, ?_⟩
                        · exact (oO.setOther (by simpa [blkOf] using Ne.symm hNh) _).drewN 1
                        · exact (oA.setOther (by simpa [blkOf] using Ne.symm hNg) _).drewN 1
                        · rw [← hS.out, hC.out]; exact (oN.set rfl hzt (by unfold I64; omega)).drewN 1
                        · exact (hF.setCell hB _).drew' 1
                      case measure => simp [intOf]; omega
                  · obtain rfl : z = k := by omega
                    have hE : Hid (preL P (capI P W X (r + 1)) z = capL P W X (r + 1)) := Lib.hid (by rw [← HP.out, preL_all]; rfl)
                    rw [hE.out] at oN
                    clear hE
                    go_wp2
                    go_roundw
                    case rel => exact ⟨r + 1, wo.heap.size, _, by omega, by go_num, rfl, hNh, oN, oO, hF⟩
                    case measure => simp [intOf]; omega
          · obtain rfl : r = 24 := by omega
            go_wp2
            go_ret2
            exact ⟨_, _, _, _, _, _, rfl, oA.mono (by omega), (hfr.trans F3).trans hF, by omega⟩
end Go.Proofs.Ytojipjjfndgbhaa
/- Contracts of EnvelopeOf, HouseValue. -/
set_option linter.unusedVariables false
namespace Go.Proofs.Ytojipjjfndgbhaa
open Go.ChangeShapes Go.WideShapes Go.ChangeAt Go.RowKit

def envP (P W X : List Int) (x : Nat) : Int × Int := (lowA (nth (capM P W X) x) (nth (gathM P W) x), lowB (nth (capM P W X) x) (nth (gathM P W) x))
def envTo (P W X : List Int) (k : Nat) : List (Int × Int) := (List.range k).map (envP P W X)
def envM (P W X : List Int) : List (Int × Int) := envTo P W X P.length
theorem envTo_succ (P W X : List Int) (k : Nat) : envTo P W X (k + 1) = envTo P W X k ++ [envP P W X k] := by simp [envTo, List.range_succ]
theorem envM_nth {P W X : List Int} {i : Nat} (h : i < P.length) : nthP (envM P W X) i = envP P W X i := by simp [nthP, envM, envTo, h]
theorem envM_len (P W X : List Int) : (envM P W X).length = P.length := by simp [envM, envTo]
/-- A new slice of pairs and a bool. -/
def RetPB (xs : List (Int × Int)) (bb : Bool) (w : World) (e : Ending) (w' : World) : Prop := ∃ a n cap, e = .returned (.tuple #[.slice a n cap, .bool bb]) ∧ OwnP w.heap.size w' a n cap xs ∧ Fr w w' ∧ n ≤ 1048576
theorem capM_bd {P W X : List Int} (ht : treeB P W = true) (hX : ∀ i, -999 ≤ nth X i ∧ nth X i ≤ 999) (x : Nat) (hx : x < P.length) : -479520 ≤ nth (capM P W X) x ∧ nth (capM P W X) x ≤ 479520 := by
  rw [capM, capL_nth hx]; exact cap_small ht hX 24 x hx

set_option maxRecDepth 100000 in
set_option maxHeartbeats 1000000 in
theorem impl_EnvelopeOf_yes (w : World) (p q a : Option Addr) (n c m d l b : Nat) (P W X : List Int) (hP : SL w p n c P) (hW : SL w q m d W) (hX : SL w a l b X) (ht : treeB P W = true) (hx : procB P X = true) :
    Calls Try.prog 83 #[.agg #[.slice p n c, .slice q m d], .slice a l b] w (RetPB (envM P W X) true w) := by
  have HP := Lib.hid hP.len
  have HX := Lib.hid hX.len
  have Ht := Lib.hid ht
  have hfr : Fr w (w.alloc (.cells #[.slice p n c, .slice q m d] 29)) := (Fr.refl w).alloc _
  have H0 := Lib.hid (Blk.new w #[.slice p n c, .slice q m d] 29)
  have hln : l = n := by rw [← HX.out, ← HP.out]; exact (procB_iff.1 hx).1
  subst hln
  have Hv := Lib.hid (nth_bd (procB_iff.1 hx).2 (by omega) (by omega))
  obtain ⟨t1, t2, t3, _⟩ := treeB_iff.1 ht
  have Hp := Lib.hid t3
  rw [HP.out] at t1
  have N4' : Hid ((gathM P W).length = l) := Lib.hid (by rw [gathM, gathTo_len, t2, HP.out])
  clear t2 t3
  have c0 := H0.out.cell (j := 0) rfl; have c1 := H0.out.cell (j := 1) rfl
  go_enter Try.func83, Try.ntmps83
  go_wp2_with fail
  clear c0 c1
  refine (IsTree_any _ _ _ _ _ _ _ _ _ (hP.fr hfr) (hW.fr hfr)).mono ?_
  rintro e w1 ⟨rfl, f1⟩
  have G1 := Lib.hid (H0.out.fr f1)
  have hF1 := hfr.trans f1
  have c0 := G1.out.cell (j := 0) rfl; have c1 := G1.out.cell (j := 1) rfl
  go_wp2_with fail
  clear c0 c1 ht
  refine (isProcess_any _ _ _ _ _ _ _ _ _ _ _ W _ (hP.fr hF1) (hX.fr hF1)).mono ?_
  rintro e w2 ⟨rfl, f2⟩
  have G2 := Lib.hid (G1.out.fr f2)
  have hF2 := hF1.trans f2
  have fa : Fr w2 (w2.alloc (.cells #[] 46)) := (Fr.refl _).alloc _
  have hF3 := hF2.trans fa
  have c0 := (G2.out.fr fa).cell (j := 0) rfl; have c1 := (G2.out.fr fa).cell (j := 1) rfl
  go_wp2_with fail
  clear c0 c1 hx
  refine (sums_any _ _ _ _ _ _ _ _ _ (hP.fr hF3) (hW.fr hF3) Ht.out).mono ?_
  rintro e w3 ⟨a4, n4, k4, rfl, o4, f3, _⟩
  have N4 : n4 = l := by rw [← o4.len, N4'.out]
  subst N4
  have hF4 := hF3.trans f3
  have G4 := Lib.hid ((G2.out.fr fa).fr f3)
  have c0 := G4.out.cell (j := 0) rfl; have c1 := G4.out.cell (j := 1) rfl
  go_wp2_with fail
  clear c0 c1
  refine (worth_any _ _ _ _ _ _ _ _ _ _ _ _ _ (hP.fr hF4) (hW.fr hF4) (hX.fr hF4) Ht.out rfl Hv.out).mono ?_
  rintro e w4 ⟨a3, n3, k3, a5, n5, k5, rfl, o3, f4, _⟩
  have N3 : n3 = n4 := by rw [← o3.len, capM_len, HP.out]
  subst N3
  have z2 := fa.size
  have z3 := f3.size
  have z4 := f4.size
  have zz := World.size_alloc w2 (.cells #[] 46)
  have oP := (((OwnP.made0 w2 (Nat.le_refl _)).fr f3).fr f4)
  have oA := o3.mono (show w2.heap.size ≤ w3.heap.size by omega)
  have oS := (o4.fr f4).mono z2
  have y3 := o3.within
  have y4 := o4.within
  have ap3 : Apart (some ⟨w2.heap.size, 0, none⟩) a3 := fun k h1 h2 => by simp only [blkOf, Option.map_some, Option.some.injEq] at h1; have := y3 k h2; omega
  have ap4 : Apart (some ⟨w2.heap.size, 0, none⟩) a4 := fun k h1 h2 => by simp only [blkOf, Option.map_some, Option.some.injEq] at h1; have := y4 k h2; omega
  have hF : Fr w2 w4 := ((fa.trans f3).trans f4)
  clear o3 o4 y3 y4 f3 f4 fa hF3 hF4
  have Hs := Lib.hid (sums_pos Ht.out)
  have Hl := Lib.hid (sums_le Ht.out)
  have Htb := Lib.hid (fun x => capM_bd (P := P) (W := W) (X := X) Ht.out Hv.out x)
  go_wp2
  go_loopw [6, 34] (fun v i wr => ∃ (k cc : Nat) (ap : Option Addr), k ≤ n3 ∧ i = .int .i64 k ∧ v = .slice ap k cc ∧ OwnP w2.heap.size wr ap k cc (envTo P W X k) ∧ Own w2.heap.size wr a3 n3 k3 (capM P W X) ∧ Own w2.heap.size wr a4 n3 k4 (gathM P W) ∧ Apart ap a3 ∧ Apart ap a4 ∧ Fr w2 wr) (fun _ i _ => n3 - (intOf i).toNat)
  case atStart => exact ⟨0, 0, _, by omega, rfl, rfl, oP, oA, oS, ap3, ap4, hF⟩
  case round =>
    clear oP oA oS ap3 ap4 hF
    obtain ⟨k, cc, ap, hk, rfl, rfl, oP, oA, oS, ap3, ap4, hF⟩ := hrel
    by_cases hlt : k < n3
    · obtain ⟨g3, rfl, hB3, hl3, hc3, _⟩ := oA.op (by omega)
      obtain ⟨g4, rfl, hB4, hl4, hc4, _⟩ := oS.op (by omega)
      replace hc3 := hc3 k hlt
      replace hc4 := hc4 k hlt
      have b1 := Htb.out k (by rw [HP.out]; exact hlt)
      have b2 := Hs.out k (by rw [HP.out]; exact hlt)
      have b3 := Hl.out k
      have HM := Lib.hid (envTo_succ P W X k)
      have hsz := hF.size
      go_wp2_with fail
      refine (lowest_any _ _ _ (by omega) (by omega)).mono ?_
      rintro e w5 ⟨rfl, f2⟩
      have oP2 := oP.fr f2
      have oA2 := oA.fr f2
      have oS2 := oS.fr f2
      have hF2 := hF.trans f2
      have hsz2 := hF2.size
      have fa : Fr w5 ((w5.alloc (.cells #[.int .i64 (lowA (nth (capM P W X) k) (nth (gathM P W) k)), .int .i64 (lowB (nth (capM P W X) k) (nth (gathM P W) k))] 46)).alloc (.cells #[.int .i64 (lowA (nth (capM P W X) k) (nth (gathM P W) k)), .int .i64 (lowB (nth (capM P W X) k) (nth (gathM P W) k))] 46)) := ((Fr.refl _).alloc _).alloc _
      have Bn := Blk.new (w5.alloc (.cells #[.int .i64 (lowA (nth (capM P W X) k) (nth (gathM P W) k)), .int .i64 (lowB (nth (capM P W X) k) (nth (gathM P W) k))] 46)) #[.int .i64 (lowA (nth (capM P W X) k) (nth (gathM P W) k)), .int .i64 (lowB (nth (capM P W X) k) (nth (gathM P W) k))] 46
      rw [World.size_alloc] at Bn
      have HBn := Lib.hid Bn
      clear Bn
      go_wp2_with (at_builtin; refine ap_pair _ rfl _ _ rfl w2.heap.size ap k cc (envTo P W X k) _ _ (w5.heap.size + 1) rfl rfl (oP2.fr fa) (by simp; omega) (HBn.out.cell (j := 0) rfl) (HBn.out.cell (j := 1) rfl) (by omega) (w5.heap.size + 1 + 1) (by simp) ?_)
      intro g' c' w' q1 q2 q3
      have oA3 := (oA2.fr fa).grown q2 (by
        cases hx : blkOf (some (⟨g3, 0, none⟩ : Addr)) with
        | none => exact .inl rfl
        | some z => exact .inr fun e => ap3 z e.symm hx)
      have oS3 := (oS2.fr fa).grown q2 (by
        cases hx : blkOf (some (⟨g4, 0, none⟩ : Addr)) with
        | none => exact .inl rfl
        | some z => exact .inr fun e => ap4 z e.symm hx)
      have n3 : Apart (some ⟨g', 0, none⟩) (some ⟨g3, 0, none⟩) := by
        intro z h1 h2
        simp only [blkOf, Option.map_some, Option.some.injEq] at h1
        subst h1
        rcases q3 with h | h
        · exact ap3 _ h h2
        · have := (oA2.blk _ h2).2; omega
      have n4 : Apart (some ⟨g', 0, none⟩) (some ⟨g4, 0, none⟩) := by
        intro z h1 h2
        simp only [blkOf, Option.map_some, Option.some.injEq] at h1
        subst h1
        rcases q3 with h | h
        · exact ap4 _ h h2
        · have := (oS2.blk _ h2).2; omega
      have hF3 := (hF2.trans fa).grown q2 (fun z hz => (oP2.blk z hz).1)
      go_wp2
      go_roundw
      case rel => exact ⟨k + 1, c', _, by omega, by go_num, rfl, by rw [HM.out]; exact q1, oA3, oS3, n3, n4, hF3⟩
      case measure => simp [intOf]; omega
    · obtain rfl : k = n3 := by omega
      have HM : Hid (envTo P W X k = envM P W X) := Lib.hid (by rw [envM, HP.out])
      rw [HM.out] at oP
      have hz2 := hF2.size
      go_wp2
      go_ret2
      exact ⟨_, _, _, rfl, oP.mono hz2, hF2.trans hF, by omega⟩

end Go.Proofs.Ytojipjjfndgbhaa
