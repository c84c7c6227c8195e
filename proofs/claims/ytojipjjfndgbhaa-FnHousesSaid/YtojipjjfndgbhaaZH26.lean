import Derived.Test.YtojipjjfndgbhaaZH02
import Derived.Laws.AppendOwn
import Derived.Laws.AppendOwnNone
import Derived.Test.YtojipjjfndgbhaaZH25
import Derived.Test.YtojipjjfndgbhaaZH22
import Derived.Deep.DeepMust
/- The laws' vBig and vCut. -/
set_option linter.unusedVariables false
namespace Go.Proofs.Ytojipjjfndgbhaa
open Go.ChangeShapes Go.WideShapes Go.ChangeAt Go.RowKit

theorem infoU8 : (Try.prog.info? 5).map (fun i => (i.zero, i.size, i.bytes)) = some (some (.int .u8 0), 1, 1) := by kernel_rfl
theorem info_u8 : ∃ i, Try.prog.info? 5 = some i ∧ i.zero = some (.int .u8 0) ∧ i.size = 1 ∧ i.bytes = 1 := by
  have h := infoU8
  cases h2 : Try.prog.info? 5 with
  | none => rw [h2] at h; cases h
  | some i =>
    rw [h2] at h
    simp only [Option.map_some, Option.some.injEq, Prod.mk.injEq] at h
    exact ⟨i, rfl, h.1, h.2.1, h.2.2⟩
theorem slb_of_row {B : Nat} {w : World} {a : Option Addr} {n c : Nat} {xs : List Int} (h : w.ownsRow B 5 1 (.slice a n c) n (xs.map (Value.int .u8))) (hr : ∀ x ∈ xs, 0 ≤ x ∧ x ≤ 255) : SLB w a n c xs := by
  have hl : xs.length = n := by simpa using h.1
  rcases h.2 with ⟨h2, h3⟩ | ⟨g, cap', cur, h2, h3, h4, h5, h6, h7, h8⟩
  · simp only [Value.slice.injEq] at h2
    obtain ⟨rfl, rfl, rfl⟩ := h2
    obtain rfl : xs = [] := List.length_eq_zero_iff.1 hl
    exact SLB.of_nil w
  · simp only [Value.slice.injEq] at h2
    obtain ⟨rfl, _, rfl⟩ := h2
    refine ⟨hl, h5, by unfold maxLen at h6; omega, hr, fun e => (by cases e), .inr ⟨g, 0, rfl, fun i hi => ?_⟩⟩
    have hc := h.cells (g := g) (by simp [Value.ownBlock]) i (.int .u8 (nth xs i)) (by rw [nth_eq (by omega)]; simp [hl ▸ hi])
    rw [addr_add] at hc
    exact hc
/-- append of bytes to a slice of bytes of the call's own. -/
theorem ap_bytes (w : World) {ops : Array Oper} {rest : List Oper} {o : Oper} {act : Act} {Q : Exit → Act → World → Prop} (hgd : o.guard = none) (s x : Operand)
    (ho : o.op = .call { callee := .builtin .append, args := #[s, x], argTypes := #[70, 70] }) (B : Nat) (v : Value) (n : Nat) (xs : List Int) (ad : Addr) (m d : Nat) (ys : List Int)
    (hs : act.eval s = v) (hx : act.eval x = .slice (some ad) m d) (hown : w.ownsRow B 5 1 v n (xs.map (Value.int .u8))) (hB : B ≤ w.heap.size) (hl : ys.length = m) (hc : ∀ j, j < m → w.cell? (ad.add j) = some (.int .u8 (nth ys j))) (hn : n + m ≤ 1048576)
    (h : ∀ v' w', w'.ownsRow B 5 1 v' (n + m) ((xs ++ ys).map (Value.int .u8)) → w.grownBy w' v.ownBlock → wpList Try.prog ops Q rest (act.put o.dst v') w') :
    wpList Try.prog ops Q (o :: rest) act w := by
  obtain ⟨i0, hi, hz0, hz1, hz2⟩ := info_u8
  refine wpList_append_own w hgd s x 70 ho B 5 i0 (.int .u8 0) 1 1 Try.underlying70 hi hz0 hz1 hz2 rfl (by decide) v n _ hs hown ad m d (ys.map (Value.int .u8)) hx (by simpa using hl) ?_ ?_ (by unfold maxLen; omega) (by omega) hB ?_
  · intro j u hu
    have hj : j < ys.length := by
      rcases Nat.lt_or_ge j ys.length with hlt | hge
      · exact hlt
      · rw [List.getElem?_eq_none (by simpa using hge)] at hu; cases hu
    rw [hc j (by omega), nth_eq hj]
    simpa [hj] using hu
  · intro u hu
    obtain ⟨y, _, rfl⟩ := List.mem_map.1 hu
    rfl
  · intro v' w' h1 h2 _
    exact h v' w' (by rw [List.map_append]; exact h1) h2
theorem byte_cell (W : World) (k : Int) : ∀ j, j < 1 → (W.alloc (.cells #[.int .u8 k] 5)).cell? ((⟨W.heap.size, 0, none⟩ : Addr).add j) = some (.int .u8 (nth [k] j)) := fun j hj => by
  obtain rfl : j = 0 := by omega
  rw [addr_add, cell_of_row _ _ _ _ _ _ (heap_alloc_new _ _)]; rfl
theorem grown_alloc {w W w2 : World} {o : Obj} {v : Value} (hF : Fr w W) (g : (W.alloc o).grownBy w2 v.ownBlock) (hB : ∀ k, v.ownBlock = some k → w.heap.size ≤ k) : Fr w w2 := (hF.alloc o).grown g hB
theorem vBig_any (w : World) (a : Option Addr) (n cap : Nat) (hn : n ≤ 9223372036854775807) :
    Calls Try.prog 55 #[.slice a n cap] w fun e w' => e = .returned (.bool (decide (65536 < n))) ∧ w = w' := by
  go_enter Try.func55, Try.ntmps55
  go_wp2
  go_ret
  exact ⟨ret_bool (by rw [Bool.eq_iff_iff]; simp; omega), rfl⟩
theorem rBig_any (w : World) (a : Option Addr) (n cap : Nat) (hn : n ≤ 9223372036854775807) :
    Calls Try.prog 51 #[.slice a n cap] w fun e w' => e = .returned (.bool (decide (65536 < n))) ∧ w = w' := by
  go_enter Try.func51, Try.ntmps51
  go_wp2
  go_ret
  exact ⟨ret_bool (by rw [Bool.eq_iff_iff]; simp; omega), rfl⟩
theorem ret_cut {w w2 : World} {v : Value} {m : Nat} {ys : List Int} {k : Nat} (hF : Fr w w2) (h : w2.ownsRow w.heap.size 5 1 v (m + 1) ((ys ++ [(k : Int)]).map (Value.int .u8))) (hy : ∀ y ∈ ys, 0 ≤ y ∧ y ≤ 255) (hk : k ≤ 3 ∧ m ≤ 65536) :
    ∃ (p : Option Addr) (m c : Nat) (ys : List Int), Ending.returned v = .returned (.slice p m c) ∧ SLB w2 p m c ys ∧ (∀ q, blkOf p = some q → q < w2.heap.size) ∧ m ≤ 65537 ∧ Fr w w2 := by
  have hv : ∃ (p : Option Addr) (c : Nat), v = .slice p (m + 1) c := by
    rcases h.2 with ⟨h2, h3⟩ | ⟨g, cap', cur, h2, _⟩
    · omega
    · exact ⟨_, _, h2⟩
  obtain ⟨p, c, rfl⟩ := hv
  refine ⟨p, m + 1, c, _, rfl, slb_of_row h (fun x hx => ?_), fun q hq => ?_, by omega, hF⟩
  · rcases List.mem_append.1 hx with hx | hx
    · exact hy x hx
    · simp at hx; subst hx; omega
  · refine (h.lt q ?_).2
    cases p with
    | none => simp [blkOf] at hq
    | some x => simpa [blkOf, Value.ownBlock] using hq
set_option maxRecDepth 100000 in
theorem vCut_any (w : World) (a : Option Addr) (n cap : Nat) (zs : List Int) (h : SLB w a n cap zs) (hn : n ≤ 65536) (k : Nat) (hk : k ≤ 3) :
    Calls Try.prog 58 #[.slice a n cap, .int .i64 k] w fun e w' => ∃ (p : Option Addr) (m c : Nat) (ys : List Int), e = .returned (.slice p m c) ∧ SLB w' p m c ys ∧ (∀ q, blkOf p = some q → q < w'.heap.size) ∧ m ≤ 65537 ∧ Fr w w' := by
  obtain ⟨i0, hi, hz0, hz1, hz2⟩ := info_u8
  have hfr := (Fr.refl w).alloc (.cells #[] 5)
  have hmade : (w.alloc (.cells #[] 5)).ownsRow w.heap.size 5 1 (.slice (some ⟨w.heap.size, 0, none⟩) 0 0) 0 [] :=
    ⟨by simp, .inr ⟨w.heap.size, 0, #[], rfl, Nat.le_refl _, heap_alloc_new w _, Nat.le_refl _, by unfold maxLen; omega, by simp, by simp⟩⟩
  have HM := Lib.hid hmade
  have H := Lib.hid (h.fr hfr)
  have hnil := h.nil
  have hle := h.le; have hmx := h.mx
  clear h hmade
  cases a with
  | none =>
    obtain ⟨rfl, rfl⟩ := hnil rfl
    have HB : ∀ k, (Value.slice (some ⟨w.heap.size, 0, none⟩) 0 0).ownBlock = some k → w.heap.size ≤ k := fun k e => by simp [Value.ownBlock] at e; omega
    have hrow : ∀ (v2 : Value) (w2 : World), ((w.alloc (.cells #[] 5)).alloc (.cells #[.int .u8 ((0 : Nat) : Int)] 5)).grownBy w2 (Value.slice (some ⟨w.heap.size, 0, none⟩) 0 0).ownBlock → Fr w w2 := fun v2 w2 g => grown_alloc hfr g HB
    have HE := Lib.hid hrow
    clear hrow
    by_cases hk0 : k = 0
    · subst hk0
      go_enter Try.func58, Try.ntmps58
      go_wp2_with (at_builtin; first | refine wpList_append_own_none rfl _ _ 70 rfl w.heap.size 5 i0 1 Try.underlying70 hi _ 0 [] rfl HM.out rfl ?_ | refine ap_bytes _ rfl _ _ rfl w.heap.size _ 0 [] ⟨w.heap.size + 1, 0, none⟩ 1 1 [0] rfl rfl (HM.out.alloc _) (by simp; omega) rfl (by have := byte_cell (w.alloc (.cells #[] 5)) 0; rw [World.size_alloc] at this; exact this) (by omega) ?_)
      intro v2 w2 hown2 hg2
      go_wp2
      go_ret
      exact ret_cut (k := 0) (ys := []) (m := 0) (HE.out v2 w2 hg2) hown2 (by simp) (by omega)
    · have hki : (0 : Int) < (k : Int) := by omega
      go_enter Try.func58, Try.ntmps58
      go_wp2_with (at_builtin; first | refine wpList_append_own_none rfl _ _ 70 rfl w.heap.size 5 i0 1 Try.underlying70 hi _ 0 [] rfl HM.out rfl ?_ | refine ap_bytes _ rfl _ _ rfl w.heap.size _ 0 [] ⟨w.heap.size + 1, 0, none⟩ 1 1 [0] rfl rfl (HM.out.alloc _) (by simp; omega) rfl (by have := byte_cell (w.alloc (.cells #[] 5)) 0; rw [World.size_alloc] at this; exact this) (by omega) ?_)
      intro v2 w2 hown2 hg2
      go_wp2
      go_ret
      exact ret_cut (k := 0) (ys := []) (m := 0) (HE.out v2 w2 hg2) hown2 (by simp) (by omega)
  | some x =>
    have HN : ∀ q : Nat, q ≤ n → Hid (∀ j, j < n - q → (w.alloc (.cells #[] 5)).cell? ((x.add q).add j) = some (.int .u8 (nth (zs.drop q) j))) := fun q hq => Lib.hid (fun j hj => by
      have hl := H.out.len
      obtain ⟨b, off, hb, hc⟩ := H.out.cells.resolve_left (by omega)
      obtain rfl : x = ⟨b, off, none⟩ := by simpa using hb
      rw [addr_add, addr_add, Nat.add_assoc, hc (q + j) (by omega)]
      simp [nth])
    have HL : ∀ q : Nat, Hid ((zs.drop q).length = n - q) := fun q => Lib.hid (by rw [List.length_drop, H.out.len])
    have HR : ∀ q : Nat, Hid (∀ y ∈ zs.drop q, 0 ≤ y ∧ y ≤ 255) := fun q => Lib.hid (fun y hy => H.out.rng y (List.mem_of_mem_drop hy))
    have HB0 : ∀ k, (Value.slice (some ⟨w.heap.size, 0, none⟩) 0 0).ownBlock = some k → w.heap.size ≤ k := fun k e => by simp [Value.ownBlock] at e; omega
    have hx2 : ∀ (p : Addr) (c : Nat), (Value.slice (some p) 0 c) = .slice (some p) 0 c := fun _ _ => rfl
    by_cases hkn : n < k
    · have hnc : (n : Int) ≤ (cap : Int) := by omega
      have hki : (n : Int) < (k : Int) := by omega
      have hn3 : n ≤ 3 := by omega
      have HE : Hid (∀ (v2 : Value) (w2 : World), ((w.alloc (.cells #[] 5)).alloc (.cells #[.int .u8 ((n : Nat) : Int)] 5)).grownBy w2 (Value.slice (some ⟨w.heap.size, 0, none⟩) 0 0).ownBlock → Fr w w2) := Lib.hid (fun v2 w2 g => grown_alloc hfr g HB0)
      clear HN HL HR H HB0 hx2
      go_enter Try.func58, Try.ntmps58
      go_wp2_with (at_builtin; refine ap_bytes _ rfl _ _ rfl w.heap.size _ 0 [] ⟨w.heap.size + 1, 0, none⟩ 1 1 [((n : Nat) : Int)] rfl rfl (HM.out.alloc _) (by simp; omega) rfl (by have := byte_cell (w.alloc (.cells #[] 5)) ((n : Nat) : Int); rw [World.size_alloc] at this; exact this) (by omega) ?_)
      all_goals
        intro v2 w2 hown2 hg2
        go_wp2
        go_ret
        exact ret_cut (k := n) (ys := []) (m := 0) (HE.out v2 w2 hg2) hown2 (by simp) (by omega)
    · by_cases hkn1 : n = k
      · subst hkn1
        have hnc : (n : Int) ≤ (cap : Int) := by omega
        have HE : Hid (∀ (v2 : Value) (w2 : World), ((w.alloc (.cells #[] 5)).alloc (.cells #[.int .u8 ((n : Nat) : Int)] 5)).grownBy w2 (Value.slice (some ⟨w.heap.size, 0, none⟩) 0 0).ownBlock → Fr w w2) := Lib.hid (fun v2 w2 g => grown_alloc hfr g HB0)
        clear HN HL HR H HB0 hx2
        go_enter Try.func58, Try.ntmps58
        go_wp2_with (at_builtin; refine ap_bytes _ rfl _ _ rfl w.heap.size _ 0 [] ⟨w.heap.size + 1, 0, none⟩ 1 1 [((n : Nat) : Int)] rfl rfl (HM.out.alloc _) (by simp; omega) rfl (by have := byte_cell (w.alloc (.cells #[] 5)) ((n : Nat) : Int); rw [World.size_alloc] at this; exact this) (by omega) ?_)
        all_goals
          intro v2 w2 hown2 hg2
          go_wp2
          go_ret
          exact ret_cut (k := n) (ys := []) (m := 0) (HE.out v2 w2 hg2) hown2 (by simp) (by omega)
      · have hkn2 : k < n := by omega
        have hkc : (k : Int) ≤ (cap : Int) := by omega
        have H1 := HN k (by omega); have H2 := HL k; have H3 := HR k
        clear HN HL HR H
        go_enter Try.func58, Try.ntmps58
        go_wp2_with (at_builtin; refine ap_bytes _ rfl _ _ rfl w.heap.size _ 0 [] (x.add k) (n - k) (cap - k) (zs.drop k) rfl rfl HM.out hfr.size H2.out H1.out (by omega) ?_)
        intro v1 w1 hown1 hg1
        have hF1 : Fr w w1 := hfr.grown hg1 (fun k e => by simp [Value.ownBlock] at e; omega)
        have HB : ∀ k, v1.ownBlock = some k → w.heap.size ≤ k := fun k e => (hown1.lt k e).1
        rw [← List.map_drop] at hown1
        have HO := Lib.hid hown1
        clear hown1 hg1 H1 HB0 hx2
        go_wp2_with (at_builtin; refine ap_bytes _ rfl _ _ rfl w.heap.size v1 (n - k) (zs.drop k) ⟨w1.heap.size, 0, none⟩ 1 1 [(k : Int)] rfl rfl (HO.out.alloc _) (by have := hF1.size; rw [World.size_alloc]; omega) rfl (byte_cell _ _) (by omega) ?_)
        intro v2 w2 hown2 hg2
        have HW := Lib.hid hown2
        clear hown2
        go_wp2
        go_ret
        have E := ret_cut (ys := zs.drop k) (m := n - k) (k := k) (grown_alloc hF1 hg2 HB) (by simpa [List.map_drop] using HW.out) H3.out (by omega)
        exact E
end Go.Proofs.Ytojipjjfndgbhaa
/- Draws of a house for the laws. -/
set_option linter.unusedVariables false
namespace Go.Proofs.Ytojipjjfndgbhaa
open Go.ChangeShapes Go.WideShapes Go.ChangeAt Go.RowKit
set_option maxRecDepth 100000 in
theorem DrawIsHouse_any (w : World) (a : Option Addr) (n cap : Nat) (zs : List Int) (h : SLB w a n cap zs) :
    Calls Try.prog 110 #[.slice a n cap] w fun e w' => ∃ (hh : HSt) (p q a : Option Addr) (n c m d l b : Nat), e = .returned (.agg #[.slice p n c, .slice q m d, .slice a l b, .int .i64 hh.t, .int .i64 hh.s, .int .i64 hh.u, .int .i64 hh.v]) ∧ HsN 51 w.heap.size w' p q a n c m d l b hh ∧ Fr w w' := by
  have f0 := (Fr.refl w).alloc (.cells #[.slice none 0 0, .slice none 0 0, .slice none 0 0, .int .i64 0, .int .i64 0, .int .i64 0, .int .i64 0] 31)
  have D0 := Dr.start (h.fr f0)
  have HB := (Blk.new w #[.slice none 0 0, .slice none 0 0, .slice none 0 0, .int .i64 0, .int .i64 0, .int .i64 0, .int .i64 0] 31).alloc (.cells #[.slice a n cap, .int .i64 0, .int .u64 0] 110)
  have HE : Hid (∀ (A : Nat) (w' : World), Dr (w.alloc (.cells #[.slice none 0 0, .slice none 0 0, .slice none 0 0, .int .i64 0, .int .i64 0, .int .i64 0, .int .i64 0] 31)).heap.size A ((w.alloc (.cells #[.slice none 0 0, .slice none 0 0, .slice none 0 0, .int .i64 0, .int .i64 0, .int .i64 0, .int .i64 0] 31)).alloc (.cells #[.slice a n cap, .int .i64 0, .int .u64 0] 110)) w' → Fr w w') := Lib.hid fun A w' h => f0.trans (h.ends rfl)
  have hg : w.heap.size + 1 < ((w.alloc (.cells #[.slice none 0 0, .slice none 0 0, .slice none 0 0, .int .i64 0, .int .i64 0, .int .i64 0, .int .i64 0] 31)).alloc (.cells #[.slice a n cap, .int .i64 0, .int .u64 0] 110)).heap.size := by simp
  clear h f0
  rw [World.size_alloc] at D0 HE
  go_enter Try.func110, Try.ntmps110
  go_upto_region 2 with fail
  generalize (w.alloc (.cells #[.slice none 0 0, .slice none 0 0, .slice none 0 0, .int .i64 0, .int .i64 0, .int .i64 0, .int .i64 0] 31)).alloc (.cells #[.slice a n cap, .int .i64 0, .int .u64 0] 110) = v0 at D0 HB HE hg ⊢
  go_wp2_with fail
  refine (house_dr _ D0 (by omega)).mono ?_
  rintro e w1 ⟨h2, p2, q2, a2, n2, c2, m2, d2, l2, b2, rfl, N9, D1, E1⟩
  have R4 := E1.blk HB (show w.heap.size + 1 ≠ w.heap.size by omega)
  have F1 := HE.out _ _ D1
  have FIN := Lib.hid (And.intro (R4.set7 (.slice p2 n2 c2) (.slice q2 m2 d2) (.slice a2 l2 b2) (.int .i64 h2.t) (.int .i64 h2.s) (.int .i64 h2.u) (.int .i64 h2.v)) (And.intro ((N9.set7 (N9.low (show w.heap.size < v0.heap.size by omega)) (.slice p2 n2 c2) (.slice q2 m2 d2) (.slice a2 l2 b2) (.int .i64 h2.t) (.int .i64 h2.s) (.int .i64 h2.u) (.int .i64 h2.v)).mono (show w.heap.size ≤ v0.heap.size by omega) (Nat.le_refl _)) (F1.set7 (g := w.heap.size) (Nat.le_refl _) (.slice p2 n2 c2) (.slice q2 m2 d2) (.slice a2 l2 b2) (.int .i64 h2.t) (.int .i64 h2.s) (.int .i64 h2.u) (.int .i64 h2.v))))
  have u0 := R4.cell (j := 0) rfl; have u1 := R4.cell (j := 1) rfl; have u2 := R4.cell (j := 2) rfl; have u3 := R4.cell (j := 3) rfl; have u4 := R4.cell (j := 4) rfl; have u5 := R4.cell (j := 5) rfl; have u6 := R4.cell (j := 6) rfl
  have i0 := R4.free 0; have i1 := R4.free 1; have i2 := R4.free 2; have i3 := R4.free 3; have i4 := R4.free 4; have i5 := R4.free 5; have i6 := R4.free 6
  clear N9 R4 D1 E1 HB D0 F1
  go_wp2
  refine bodyPost_ret (results_H Try.results110 _ _ w.heap.size _ _ _ _ _ _ _ rfl (FIN.out.1.cell rfl) (FIN.out.1.cell rfl) (FIN.out.1.cell rfl) (FIN.out.1.cell rfl) (FIN.out.1.cell rfl) (FIN.out.1.cell rfl) (FIN.out.1.cell rfl)) rfl ?_
  exact ⟨h2, _, _, _, _, _, _, _, _, _, rfl, FIN.out.2.1, FIN.out.2.2⟩
set_option maxRecDepth 100000 in
theorem DrawHouseValue_any (w : World) (a : Option Addr) (n cap : Nat) (zs : List Int) (h : SLB w a n cap zs) :
    Calls Try.prog 63 #[.slice a n cap] w fun e w' => ∃ (hh : HSt) (p q a : Option Addr) (n c m d l b : Nat), e = .returned (.agg #[.slice p n c, .slice q m d, .slice a l b, .int .i64 hh.t, .int .i64 hh.s, .int .i64 hh.u, .int .i64 hh.v]) ∧ HsN 51 w.heap.size w' p q a n c m d l b hh ∧ Fr w w' := by
  have f0 := (Fr.refl w).alloc (.cells #[.slice none 0 0, .slice none 0 0, .slice none 0 0, .int .i64 0, .int .i64 0, .int .i64 0, .int .i64 0] 31)
  have h1 := h.fr f0
  have HB := Blk.new w #[.slice none 0 0, .slice none 0 0, .slice none 0 0, .int .i64 0, .int .i64 0, .int .i64 0, .int .i64 0] 31
  have hg : w.heap.size < (w.alloc (.cells #[.slice none 0 0, .slice none 0 0, .slice none 0 0, .int .i64 0, .int .i64 0, .int .i64 0, .int .i64 0] 31)).heap.size := by simp
  clear h
  go_enter Try.func63, Try.ntmps63
  go_upto_region 1 with fail
  generalize w.alloc (.cells #[.slice none 0 0, .slice none 0 0, .slice none 0 0, .int .i64 0, .int .i64 0, .int .i64 0, .int .i64 0] 31) = v0 at h1 HB hg f0 ⊢
  go_wp2_with fail
  refine (DrawIsHouse_any _ _ _ _ _ h1).mono ?_
  rintro e w1 ⟨h2, p2, q2, a2, n2, c2, m2, d2, l2, b2, rfl, N9, f1⟩
  have R4 := HB.fr f1
  have F1 := f0.trans f1
  have FIN := Lib.hid (And.intro (R4.set7 (.slice p2 n2 c2) (.slice q2 m2 d2) (.slice a2 l2 b2) (.int .i64 h2.t) (.int .i64 h2.s) (.int .i64 h2.u) (.int .i64 h2.v)) (And.intro ((N9.set7 (N9.low (show w.heap.size < v0.heap.size by omega)) (.slice p2 n2 c2) (.slice q2 m2 d2) (.slice a2 l2 b2) (.int .i64 h2.t) (.int .i64 h2.s) (.int .i64 h2.u) (.int .i64 h2.v)).mono (show w.heap.size ≤ v0.heap.size by omega) (Nat.le_refl _)) (F1.set7 (g := w.heap.size) (Nat.le_refl _) (.slice p2 n2 c2) (.slice q2 m2 d2) (.slice a2 l2 b2) (.int .i64 h2.t) (.int .i64 h2.s) (.int .i64 h2.u) (.int .i64 h2.v))))
  have u0 := R4.cell (j := 0) rfl; have u1 := R4.cell (j := 1) rfl; have u2 := R4.cell (j := 2) rfl; have u3 := R4.cell (j := 3) rfl; have u4 := R4.cell (j := 4) rfl; have u5 := R4.cell (j := 5) rfl; have u6 := R4.cell (j := 6) rfl
  have i0 := R4.free 0; have i1 := R4.free 1; have i2 := R4.free 2; have i3 := R4.free 3; have i4 := R4.free 4; have i5 := R4.free 5; have i6 := R4.free 6
  clear N9 R4 HB F1 f0 f1 h1
  go_wp2
  refine bodyPost_ret (results_H Try.results63 _ _ w.heap.size _ _ _ _ _ _ _ rfl (FIN.out.1.cell rfl) (FIN.out.1.cell rfl) (FIN.out.1.cell rfl) (FIN.out.1.cell rfl) (FIN.out.1.cell rfl) (FIN.out.1.cell rfl) (FIN.out.1.cell rfl)) rfl ?_
  exact ⟨h2, _, _, _, _, _, _, _, _, _, rfl, FIN.out.2.1, FIN.out.2.2⟩
end Go.Proofs.Ytojipjjfndgbhaa
/- Draws for the largest numbers on the way. -/
set_option linter.unusedVariables false
namespace Go.Proofs.Ytojipjjfndgbhaa
open Go.ChangeShapes Go.WideShapes Go.ChangeAt Go.RowKit
theorem results_TSS {fn : Func} {k r s : Nat} (hr : fn.results = #[.cell k 29, .tmp r, .tmp s]) (tmps : Array Value) (w : World) (g : Nat) (v0 v1 : Value) (bb cc : Value) (h : tmps[k]?.getD undef = .pointer (some ⟨g, 0, none⟩)) (hb : tmps[r]?.getD undef = bb) (hc : tmps[s]?.getD undef = cc)
    (h0 : w.cell? ⟨g, 0, none⟩ = some v0) (h1 : w.cell? ⟨g, 1, none⟩ = some v1) : (results fn tmps).run Try.prog w = .ok (.tuple #[.agg #[v0, v1], bb, cc]) w := by
  simp [results, hr, go_sem, h, hb, hc, h0, h1]
theorem TrR.dr {B g A : Nat} {w w' : World} {p : Option Addr} {n c : Nat} {q : Option Addr} {m d : Nat} {a : Option Addr} {k j : Nat} (h : TrR B w p n c q m d a k j) (E : Dr g A w w') (hg : g < B) : TrR B w' p n c q m d a k j := by
  obtain ⟨⟨P, h1⟩, ⟨W, h2⟩, ⟨X, h3⟩, h4, h5, h6⟩ := h
  exact ⟨⟨P, E.own h1 hg⟩, ⟨W, E.own h2 hg⟩, ⟨X, E.own h3 hg⟩, h4, h5, h6⟩
theorem TrR.fr {B : Nat} {w w' : World} {p : Option Addr} {n c : Nat} {q : Option Addr} {m d : Nat} {a : Option Addr} {k j : Nat} (h : TrR B w p n c q m d a k j) (E : Fr w w') : TrR B w' p n c q m d a k j := by
  obtain ⟨⟨P, h1⟩, ⟨W, h2⟩, ⟨X, h3⟩, h4, h5, h6⟩ := h
  exact ⟨⟨P, h1.fr E⟩, ⟨W, h2.fr E⟩, ⟨X, h3.fr E⟩, h4, h5, h6⟩
/-- The tree is stored in the result's box. -/
theorem TrR.done {B B0 : Nat} {wr : World} {r : Nat} {p : Option Addr} {n c : Nat} {q : Option Addr} {m d : Nat} {a : Option Addr} {k j : Nat} {T : TypeId} {v0 v1 : Value} (h : TrR B wr p n c q m d a k j) (H : Blk wr r #[v0, v1] T) (hr : r < B) (hB : B0 ≤ B) :
    Blk ((wr.setCell ⟨r, 0, none⟩ (.slice p n c)).setCell ⟨r, 1, none⟩ (.slice q m d)) r #[.slice p n c, .slice q m d] T ∧ TrR B0 ((wr.setCell ⟨r, 0, none⟩ (.slice p n c)).setCell ⟨r, 1, none⟩ (.slice q m d)) p n c q m d a k j := by
  obtain ⟨⟨P, h2⟩, ⟨W, h3⟩, ⟨X, h4⟩, h6, h7, hle⟩ := h
  have E := (H.set 0 (.slice p n c)).set 1 (.slice q m d)
  simp only [List.setIfInBounds_toArray, List.set_cons_zero, List.set_cons_succ] at E
  have n1 : blkOf p ≠ some r := fun e => by have := (h2.blk r e).1; omega
  have n2 : blkOf q ≠ some r := fun e => by have := (h3.blk r e).1; omega
  have n3 : blkOf a ≠ some r := fun e => by have := (h4.blk r e).1; omega
  exact ⟨E, ⟨⟨P, ((h2.setOther (p := ⟨r, 0, none⟩) n1 _).setOther (p := ⟨r, 1, none⟩) n1 _).mono (by omega)⟩, ⟨W, ((h3.setOther (p := ⟨r, 0, none⟩) n2 _).setOther (p := ⟨r, 1, none⟩) n2 _).mono (by omega)⟩, ⟨X, ((h4.setOther (p := ⟨r, 0, none⟩) n3 _).setOther (p := ⟨r, 1, none⟩) n3 _).mono (by omega)⟩, h6, h7, hle⟩⟩
theorem HvI.trR {φ ψ : List Int → Prop} {w wr : World} {g A gt : Nat} {p : Option Addr} {n c : Nat} {q : Option Addr} {m d : Nat} {a : Option Addr} {k j : Nat} (h : HvI φ ψ w g A gt p n c q m d a k j wr) (hle : n ≤ 25 ∧ m ≤ 50 ∧ k ≤ 25) : TrR w.heap.size wr p n c q m d a k j := by
  obtain ⟨h1, ⟨P, h2, h2'⟩, ⟨W, h3⟩, ⟨X, h4, h4'⟩, h5, h6, h7, h8, h9⟩ := h
  exact ⟨⟨P, h2⟩, ⟨W, h3⟩, ⟨X, h4⟩, h6, h7, hle⟩
theorem TrR.hvI {w wr : World} {g A : Nat} {p : Option Addr} {n c : Nat} {q : Option Addr} {m d : Nat} {a : Option Addr} {k j : Nat} (h : TrR w.heap.size wr p n c q m d a k j) (D : Dr g A w wr) : HvI (fun _ => True) (fun _ => True) w g A wr.heap.size p n c q m d a k j (wr.alloc (.cells #[.slice p n c, .slice q m d] 29)) := by
  obtain ⟨⟨P, h2⟩, ⟨W, h3⟩, ⟨X, h4⟩, h6, h7, hle⟩ := h
  have f := (Fr.refl wr).alloc (.cells #[.slice p n c, .slice q m d] 29)
  exact ⟨Blk.new _ _ _, ⟨P, h2.fr f, trivial⟩, ⟨W, h3.fr f⟩, ⟨X, h4.fr f, trivial⟩, fun e => by have := (h4.blk _ e).2; omega, h6, h7, D.fr f, D.size⟩
set_option maxRecDepth 100000 in
theorem DrawLargestMean_any (w : World) (a : Option Addr) (n cap : Nat) (zs : List Int) (h : SLB w a n cap zs) :
    Calls Try.prog 53 #[.slice a n cap] w fun e w' => ∃ (p : Option Addr) (n c : Nat) (q : Option Addr) (m d : Nat) (a : Option Addr) (k j : Nat), e = .returned (.tuple #[.agg #[.slice p n c, .slice q m d], .slice a k j]) ∧ TrR w.heap.size w' p n c q m d a k j ∧ Fr w w' := by
  have f0 := (Fr.refl w).alloc (.cells #[.slice none 0 0, .slice none 0 0] 29)
  have D0 := Dr.start (h.fr f0)
  have HB := (Blk.new w #[.slice none 0 0, .slice none 0 0] 29).alloc (.cells #[.slice a n cap, .int .i64 0, .int .u64 0] 110)
  have HE : Hid (∀ (A : Nat) (w' : World), Dr (w.alloc (.cells #[.slice none 0 0, .slice none 0 0] 29)).heap.size A ((w.alloc (.cells #[.slice none 0 0, .slice none 0 0] 29)).alloc (.cells #[.slice a n cap, .int .i64 0, .int .u64 0] 110)) w' → Fr w w') := Lib.hid fun A w' h => f0.trans (h.ends rfl)
  have hg : w.heap.size + 1 < ((w.alloc (.cells #[.slice none 0 0, .slice none 0 0] 29)).alloc (.cells #[.slice a n cap, .int .i64 0, .int .u64 0] 110)).heap.size := by simp
  clear h f0
  rw [World.size_alloc] at D0 HE
  go_enter Try.func53, Try.ntmps53
  go_upto_region 2 with fail
  generalize (w.alloc (.cells #[.slice none 0 0, .slice none 0 0] 29)).alloc (.cells #[.slice a n cap, .int .i64 0, .int .u64 0] 110) = v0 at D0 HB HE hg ⊢
  go_wp2_with fail
  refine (halves_dr _ D0 (by omega)).mono ?_
  rintro e w1 ⟨p, n, c, q, m, d, a, k, j, rfl, R, D1, E1⟩
  have HBH := Lib.hid HB
  have hle := R.le
  have S0 := R.hvI D1
  clear D0 HB E1 R D1
  generalize hgt : w1.heap.size = gt at S0
  go_wp2
  clear hgt
  generalize w1.alloc _ = w2 at S0 ⊢
  go_loopw [7] (fun i wr => ∃ x : Nat, x ≤ k ∧ i = .int .i64 x ∧ HvI (fun _ => True) (fun _ => True) v0 (w.heap.size + 1) (0 + 1000 + 2 * x) gt p n c q m d a k j wr) (fun i _ => k - (intOf i).toNat)
  case atStart => exact ⟨0, Nat.zero_le _, rfl, S0⟩
  case round =>
    clear S0
    obtain ⟨x, hx, rfl, S⟩ := hrel
    obtain ⟨wo, rfl⟩ : ∃ wo : World, wo = wr := ⟨_, rfl⟩
    have vx0 : (0 : Int) ≤ (x : Int) := by omega
    by_cases hlt : x < k
    · have vx : (x : Int) < (k : Int) := by omega
      go_wp2_with fail
      refine (one_dr _ 30 S.D (by omega) (by unfold I64; omega)).mono ?_
      rintro e w3 ⟨b, rfl, D3, E3⟩
      have S3 := S.step hg E3
      clear S D3 E3
      cases b
      · obtain ⟨X, oX, _⟩ := S3.ox
        obtain ⟨ga, rfl, _, _, qX, zX⟩ := oX.op (by omega)
        replace qX := qX x hlt
        replace zX := zX x
        have hI := oX.sl.rngAt x
        generalize nth X x = t at qX hI
        clear oX
        go_wp2_with fail
        refine (l1Least_any _ _ _).mono ?_
        rintro e w' ⟨rfl, rfl⟩
        have S4 := S3.setX hg hlt (v := min (wrap64 (t + 10)) 999) (by unfold I64 wrap64; omega)
        clear S3
        go_wp2
        go_roundw
        case rel => exact ⟨x + 1, by omega, by go_num, S4.mono (by omega)⟩
        case measure => simp [intOf]; omega
      · have HB2 := S3.D.blk HBH.out (by omega)
        have R3 := S3.trR hle
        have f0 := HB2.free 0; have f1 := HB2.free 1
        have i0 := HB2.cell (j := 0) rfl; have i1 := HB2.cell (j := 1) rfl
        have c0 := S3.B.cell (j := 0) rfl; have c1 := S3.B.cell (j := 1) rfl
        have FIN := Lib.hid (And.intro (R3.done HB2 (by omega) (show w.heap.size ≤ v0.heap.size by omega)) (((HE.out _ _ S3.D).setCell (p := ⟨w.heap.size, 0, none⟩) (Nat.le_refl _) (.slice p n c)).setCell (p := ⟨w.heap.size, 1, none⟩) (Nat.le_refl _) (.slice q m d)))
        clear S3 HB2 R3
        go_wp2
        refine bodyPost_ret (results_TS Try.results53 _ _ w.heap.size (.slice p n c) (.slice q m d) _ rfl rfl (FIN.out.1.1.cell rfl) (FIN.out.1.1.cell rfl)) rfl ?_
        exact ⟨_, _, _, _, _, _, _, _, _, rfl, FIN.out.1.2, FIN.out.2⟩
    · have vx : ¬ (x : Int) < (k : Int) := by omega
      have S3 := S
      have HB2 := S3.D.blk HBH.out (by omega)
      have R3 := S3.trR hle
      have f0 := HB2.free 0; have f1 := HB2.free 1
      have i0 := HB2.cell (j := 0) rfl; have i1 := HB2.cell (j := 1) rfl
      have c0 := S3.B.cell (j := 0) rfl; have c1 := S3.B.cell (j := 1) rfl
      have FIN := Lib.hid (And.intro (R3.done HB2 (by omega) (show w.heap.size ≤ v0.heap.size by omega)) (((HE.out _ _ S3.D).setCell (p := ⟨w.heap.size, 0, none⟩) (Nat.le_refl _) (.slice p n c)).setCell (p := ⟨w.heap.size, 1, none⟩) (Nat.le_refl _) (.slice q m d)))
      clear S S3 HB2 R3
      go_wp2
      refine bodyPost_ret (results_TS Try.results53 _ _ w.heap.size (.slice p n c) (.slice q m d) _ rfl rfl (FIN.out.1.1.cell rfl) (FIN.out.1.1.cell rfl)) rfl ?_
      exact ⟨_, _, _, _, _, _, _, _, _, rfl, FIN.out.1.2, FIN.out.2⟩
theorem lit8L (V : World) : ∀ i, i < 8 → ∃ x, (V.alloc (.cells #[.int .i64 10, .int .i64 12, .int .i64 8, .int .i64 15, .int .i64 1, .int .i64 999, .int .i64 1000, .int .i64 0] 3)).cell? ⟨V.heap.size, i, none⟩ = some (.int .i64 x) ∧ (0 ≤ x ∧ x ≤ 1000) := fun i hi => by
  have h : i = 0 ∨ i = 1 ∨ i = 2 ∨ i = 3 ∨ i = 4 ∨ i = 5 ∨ i = 6 ∨ i = 7 := by omega
  rcases h with rfl | rfl | rfl | rfl | rfl | rfl | rfl | rfl
  all_goals exact ⟨_, by rw [cell_of_row _ _ _ _ _ _ (heap_alloc_new _ _)]; rfl, by omega⟩
set_option maxRecDepth 100000 in
theorem DrawLargestChance_any (w : World) (a : Option Addr) (n cap : Nat) (zs : List Int) (h : SLB w a n cap zs) :
    Calls Try.prog 52 #[.slice a n cap] w fun e w' => ∃ (p : Option Addr) (n c : Nat) (q : Option Addr) (m d : Nat) (a : Option Addr) (k j : Nat) (v : Int), e = .returned (.tuple #[.agg #[.slice p n c, .slice q m d], .slice a k j, .int .i64 v]) ∧ (0 ≤ v ∧ v ≤ 1000) ∧ TrR w.heap.size w' p n c q m d a k j ∧ Fr w w' := by
  have f0 := (Fr.refl w).alloc (.cells #[.slice none 0 0, .slice none 0 0] 29)
  have D0 := Dr.start (h.fr f0)
  have h2 := h.fr (f0.alloc (.cells #[.slice a n cap, .int .i64 0, .int .u64 0] 110))
  have HB := (Blk.new w #[.slice none 0 0, .slice none 0 0] 29).alloc (.cells #[.slice a n cap, .int .i64 0, .int .u64 0] 110)
  have HE : Hid (∀ (A : Nat) (w' : World), Dr (w.alloc (.cells #[.slice none 0 0, .slice none 0 0] 29)).heap.size A ((w.alloc (.cells #[.slice none 0 0, .slice none 0 0] 29)).alloc (.cells #[.slice a n cap, .int .i64 0, .int .u64 0] 110)) w' → Fr w w') := Lib.hid fun A w' h => f0.trans (h.ends rfl)
  have hg : w.heap.size + 1 < ((w.alloc (.cells #[.slice none 0 0, .slice none 0 0] 29)).alloc (.cells #[.slice a n cap, .int .i64 0, .int .u64 0] 110)).heap.size := by simp
  clear h f0
  rw [World.size_alloc] at D0 HE
  go_enter Try.func52, Try.ntmps52
  go_upto_region 2 with fail
  generalize (w.alloc (.cells #[.slice none 0 0, .slice none 0 0] 29)).alloc (.cells #[.slice a n cap, .int .i64 0, .int .u64 0] 110) = v0 at D0 HB HE hg h2 ⊢
  go_wp2_with fail
  refine (DrawLargestMean_any _ _ _ _ _ h2).mono ?_
  rintro e w1 ⟨p, n, c, q, m, d, a, k, j, rfl, R, f1⟩
  have D1 := D0.fr f1
  have HB1 := HB.fr f1
  have S := R.hvI D1
  have hle := R.le
  have HA : Blk (w1.alloc (.cells #[.slice p n c, .slice q m d] 29)) w.heap.size #[.slice none 0 0, .slice none 0 0] 29 := HB1.alloc _
  have R1 := S.trR hle
  have hlt1 := S.D.cur.lt
  have HNE : Hid (w.heap.size + 1 ≠ w.heap.size) := Lib.hid (by omega)
  clear D0 D1 HB HB1 R f1 h2
  generalize hgt : w1.heap.size = gt at S
  go_upto_region 3 with fail
  clear hgt
  generalize w1.alloc (.cells #[.slice p n c, .slice q m d] 29) = w2 at S HA R1 hlt1 ⊢
  have SB : HvI (fun _ => True) (fun _ => True) v0 (w.heap.size + 1) 0 gt p n c q m d a k j w2.drew := S.fr (Fr.drewN w2 1)
  have SC : HvI (fun _ => True) (fun _ => True) v0 (w.heap.size + 1) 0 gt p n c q m d a k j (w2.alloc (.cells #[.int .i64 10, .int .i64 12, .int .i64 8, .int .i64 15, .int .i64 1, .int .i64 999, .int .i64 1000, .int .i64 0] 3)) := S.fr ((Fr.refl w2).alloc _)
  have SD : HvI (fun _ => True) (fun _ => True) v0 (w.heap.size + 1) 0 gt p n c q m d a k j (w2.alloc (.cells #[.int .i64 10, .int .i64 12, .int .i64 8, .int .i64 15, .int .i64 1, .int .i64 999, .int .i64 1000, .int .i64 0] 3)).drew := S.fr (((Fr.refl w2).alloc _).drew' 1)
  have HD : Blk (w2.alloc (.cells #[.int .i64 10, .int .i64 12, .int .i64 8, .int .i64 15, .int .i64 1, .int .i64 999, .int .i64 1000, .int .i64 0] 3)).drew w.heap.size #[.slice none 0 0, .slice none 0 0] 29 := HA.fr (((Fr.refl w2).alloc _).drew' 1)
  have HC : Blk (w2.alloc (.cells #[.int .i64 10, .int .i64 12, .int .i64 8, .int .i64 15, .int .i64 1, .int .i64 999, .int .i64 1000, .int .i64 0] 3)) w.heap.size #[.slice none 0 0, .slice none 0 0] 29 := HA.fr ((Fr.refl w2).alloc _)
  have a0 := S.B.cell (j := 0) rfl; have a1 := S.B.cell (j := 1) rfl
  have b0 := SB.B.cell (j := 0) rfl; have b1 := SB.B.cell (j := 1) rfl
  have c0 := SC.B.cell (j := 0) rfl; have c1 := SC.B.cell (j := 1) rfl
  have d0 := SD.B.cell (j := 0) rfl; have d1 := SD.B.cell (j := 1) rfl
  have LC := lit8L w2
  have LD : ∀ i, i < 8 → ∃ x, (w2.alloc (.cells #[.int .i64 10, .int .i64 12, .int .i64 8, .int .i64 15, .int .i64 1, .int .i64 999, .int .i64 1000, .int .i64 0] 3)).drew.cell? ⟨w2.heap.size, i, none⟩ = some (.int .i64 x) ∧ (0 ≤ x ∧ x ≤ 1000) := LC
  go_region_with (go_at_call 96; go_must (refine (among_any (w.heap.size + 1) _ w2.heap.size 8 8 (fun x => 0 ≤ x ∧ x ≤ 1000) _ (by first | with_reducible exact SD.D.cur | with_reducible exact SC.D.cur) (by omega) (by omega) (by omega) (by omega) (by first | with_reducible exact LD | with_reducible exact LC)).mono ?_; rintro e wb ⟨z, rfl, hz, Cb, gB⟩; have EB : Dr (w.heap.size + 1) _ _ wb := ⟨Cb, gB⟩; have PB : HvI (fun _ => True) (fun _ => True) v0 (w.heap.size + 1) (0 + 2) gt p n c q m d a k j wb := (by first | with_reducible exact SD.step hg EB | with_reducible exact SC.step hg EB); have BB : Blk wb w.heap.size #[.slice none 0 0, .slice none 0 0] 29 := (by first | with_reducible exact EB.blk HD HNE.out | with_reducible exact EB.blk HC HNE.out); have e0 := PB.B.cell (j := 0) rfl; have e1 := PB.B.cell (j := 1) rfl; have i0 := BB.cell (j := 0) rfl; have i1 := BB.cell (j := 1) rfl; have f0 := BB.free 0; have f1 := BB.free 1; have FIN := Lib.hid (And.intro ((PB.trR hle).done BB (show w.heap.size < v0.heap.size by omega) (show w.heap.size ≤ v0.heap.size by omega)) (((HE.out _ _ PB.D).setCell (p := ⟨w.heap.size, 0, none⟩) (Nat.le_refl _) (.slice p n c)).setCell (p := ⟨w.heap.size, 1, none⟩) (Nat.le_refl _) (.slice q m d)))))
  all_goals
    go_wp2
    refine bodyPost_ret (results_TSS Try.results52 _ _ w.heap.size (.slice p n c) (.slice q m d) _ _ rfl rfl rfl (FIN.out.1.1.cell rfl) (FIN.out.1.1.cell rfl)) rfl ?_
    exact ⟨_, _, _, _, _, _, _, _, _, _, rfl, by omega, FIN.out.1.2, FIN.out.2⟩
end Go.Proofs.Ytojipjjfndgbhaa
