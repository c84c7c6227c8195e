import Derived.Test.YtojipjjfndgbhaaCur
import Derived.Laws.AppendOwn
import Derived.Laws.AppendOwnNone
/- The laws' vBig and vCut. -/
set_option linter.unusedVariables false
namespace Go.Proofs.Ytojipjjfndgbhaa
open Go.ChangeShapes Go.WideShapes Go.ChangeAt Go.RowKit

theorem infoU8 : (Try.prog.info? 5).map (fun i => (i.zero, i.size, i.bytes)) = some (some (.int .u8 0), 1, 1) := by kernel_rfl
theorem info_u8 : ∃ i, Try.prog.info? 5 = some i ∧ i.zero = some (.int .u8 0) ∧ i.size = 1 ∧ i.bytes = 1 := by
  have h := infoU8
  cases h2 : Try.prog.info? 5 with
  | none => rw [h2] at h; cases h
  | some i =>
    rw [h2] at h
    simp only [Option.map_some, Option.some.injEq, Prod.mk.injEq] at h
    exact ⟨i, rfl, h.1, h.2.1, h.2.2⟩
theorem slb_of_row {B : Nat} {w : World} {a : Option Addr} {n c : Nat} {xs : List Int} (h : w.ownsRow B 5 1 (.slice a n c) n (xs.map (Value.int .u8))) (hr : ∀ x ∈ xs, 0 ≤ x ∧ x ≤ 255) : SLB w a n c xs := by
  have hl : xs.length = n := by simpa using h.1
  rcases h.2 with ⟨h2, h3⟩ | ⟨g, cap', cur, h2, h3, h4, h5, h6, h7, h8⟩
  · simp only [Value.slice.injEq] at h2
    obtain ⟨rfl, rfl, rfl⟩ := h2
    obtain rfl : xs = [] := List.length_eq_zero_iff.1 hl
    exact SLB.of_nil w
  · simp only [Value.slice.injEq] at h2
    obtain ⟨rfl, _, rfl⟩ := h2
    refine ⟨hl, h5, by unfold maxLen at h6; omega, hr, fun e => (by cases e), .inr ⟨g, 0, rfl, fun i hi => ?_⟩⟩
    have hc := h.cells (g := g) (by simp [Value.ownBlock]) i (.int .u8 (nth xs i)) (by rw [nth_eq (by omega)]; simp [hl ▸ hi])
    rw [addr_add] at hc
    exact hc
/-- append of bytes to a slice of bytes of the call's own. -/
theorem ap_bytes (w : World) {ops : Array Oper} {rest : List Oper} {o : Oper} {act : Act} {Q : Exit → Act → World → Prop} (hgd : o.guard = none) (s x : Operand)
    (ho : o.op = .call { callee := .builtin .append, args := #[s, x], argTypes := #[70, 70] }) (B : Nat) (v : Value) (n : Nat) (xs : List Int) (ad : Addr) (m d : Nat) (ys : List Int)
    (hs : act.eval s = v) (hx : act.eval x = .slice (some ad) m d) (hown : w.ownsRow B 5 1 v n (xs.map (Value.int .u8))) (hB : B ≤ w.heap.size) (hl : ys.length = m) (hc : ∀ j, j < m → w.cell? (ad.add j) = some (.int .u8 (nth ys j))) (hn : n + m ≤ 1048576)
    (h : ∀ v' w', w'.ownsRow B 5 1 v' (n + m) ((xs ++ ys).map (Value.int .u8)) → w.grownBy w' v.ownBlock → wpList Try.prog ops Q rest (act.put o.dst v') w') :
    wpList Try.prog ops Q (o :: rest) act w := by
  obtain ⟨i0, hi, hz0, hz1, hz2⟩ := info_u8
  refine wpList_append_own w hgd s x 70 ho B 5 i0 (.int .u8 0) 1 1 Try.underlying70 hi hz0 hz1 hz2 rfl (by decide) v n _ hs hown ad m d (ys.map (Value.int .u8)) hx (by simpa using hl) ?_ ?_ (by unfold maxLen; omega) (by omega) hB ?_
  · intro j u hu
    have hj : j < ys.length := by
      rcases Nat.lt_or_ge j ys.length with hlt | hge
      · exact hlt
      · rw [List.getElem?_eq_none (by simpa using hge)] at hu; cases hu
    rw [hc j (by omega), nth_eq hj]
    simpa [hj] using hu
  · intro u hu
    obtain ⟨y, _, rfl⟩ := List.mem_map.1 hu
    rfl
  · intro v' w' h1 h2 _
    exact h v' w' (by rw [List.map_append]; exact h1) h2
theorem byte_cell (W : World) (k : Int) : ∀ j, j < 1 → (W.alloc (.cells #[.int .u8 k] 5)).cell? ((⟨W.heap.size, 0, none⟩ : Addr).add j) = some (.int .u8 (nth [k] j)) := fun j hj => by
  obtain rfl : j = 0 := by omega
  rw [addr_add, cell_of_row _ _ _ _ _ _ (heap_alloc_new _ _)]; rfl
theorem grown_alloc {w W w2 : World} {o : Obj} {v : Value} (hF : Fr w W) (g : (W.alloc o).grownBy w2 v.ownBlock) (hB : ∀ k, v.ownBlock = some k → w.heap.size ≤ k) : Fr w w2 := (hF.alloc o).grown g hB
theorem vBig_any (w : World) (a : Option Addr) (n cap : Nat) (hn : n ≤ 9223372036854775807) :
    Calls Try.prog 55 #[.slice a n cap] w fun e w' => e = .returned (.bool (decide (65536 < n))) ∧ w = w' := by
  go_enter Try.func55, Try.ntmps55
  go_wp2
  go_ret
  exact ⟨ret_bool (by rw [Bool.eq_iff_iff]; simp; omega), rfl⟩
theorem rBig_any (w : World) (a : Option Addr) (n cap : Nat) (hn : n ≤ 9223372036854775807) :
    Calls Try.prog 51 #[.slice a n cap] w fun e w' => e = .returned (.bool (decide (65536 < n))) ∧ w = w' := by
  go_enter Try.func51, Try.ntmps51
  go_wp2
  go_ret
  exact ⟨ret_bool (by rw [Bool.eq_iff_iff]; simp; omega), rfl⟩
theorem ret_cut {w w2 : World} {v : Value} {m : Nat} {ys : List Int} {k : Nat} (hF : Fr w w2) (h : w2.ownsRow w.heap.size 5 1 v (m + 1) ((ys ++ [(k : Int)]).map (Value.int .u8))) (hy : ∀ y ∈ ys, 0 ≤ y ∧ y ≤ 255) (hk : k ≤ 3 ∧ m ≤ 65536) :
    ∃ (p : Option Addr) (m c : Nat) (ys : List Int), Ending.returned v = .returned (.slice p m c) ∧ SLB w2 p m c ys ∧ (∀ q, blkOf p = some q → q < w2.heap.size) ∧ m ≤ 65537 ∧ Fr w w2 := by
  have hv : ∃ (p : Option Addr) (c : Nat), v = .slice p (m + 1) c := by
    rcases h.2 with ⟨h2, h3⟩ | ⟨g, cap', cur, h2, _⟩
    · omega
    · exact ⟨_, _, h2⟩
  obtain ⟨p, c, rfl⟩ := hv
  refine ⟨p, m + 1, c, _, rfl, slb_of_row h (fun x hx => ?_), fun q hq => ?_, by omega, hF⟩
  · rcases List.mem_append.1 hx with hx | hx
    · exact hy x hx
    · simp at hx; subst hx; omega
  · refine (h.lt q ?_).2
    cases p with
    | none => simp [blkOf] at hq
    | some x => simpa [blkOf, Value.ownBlock] using hq
set_option maxRecDepth 100000 in
theorem vCut_any (w : World) (a : Option Addr) (n cap : Nat) (zs : List Int) (h : SLB w a n cap zs) (hn : n ≤ 65536) (k : Nat) (hk : k ≤ 3) :
    Calls Try.prog 58 #[.slice a n cap, .int .i64 k] w fun e w' => ∃ (p : Option Addr) (m c : Nat) (ys : List Int), e = .returned (.slice p m c) ∧ SLB w' p m c ys ∧ (∀ q, blkOf p = some q → q < w'.heap.size) ∧ m ≤ 65537 ∧ Fr w w' := by
  obtain ⟨i0, hi, hz0, hz1, hz2⟩ := info_u8
  have hfr := (Fr.refl w).alloc (.cells #[] 5)
  have hmade : (w.alloc (.cells #[] 5)).ownsRow w.heap.size 5 1 (.slice (some ⟨w.heap.size, 0, none⟩) 0 0) 0 [] :=
    ⟨by simp, .inr ⟨w.heap.size, 0, #[], rfl, Nat.le_refl _, heap_alloc_new w _, Nat.le_refl _, by unfold maxLen; omega, by simp, by simp⟩⟩
  have HM := Lib.hid hmade
  have H := Lib.hid (h.fr hfr)
  have hnil := h.nil
  have hle := h.le; have hmx := h.mx
  clear h hmade
  cases a with
  | none =>
    obtain ⟨rfl, rfl⟩ := hnil rfl
    have HB : ∀ k, (Value.slice (some ⟨w.heap.size, 0, none⟩) 0 0).ownBlock = some k → w.heap.size ≤ k := fun k e => by simp [Value.ownBlock] at e; omega
    have hrow : ∀ (v2 : Value) (w2 : World), ((w.alloc (.cells #[] 5)).alloc (.cells #[.int .u8 ((0 : Nat) : Int)] 5)).grownBy w2 (Value.slice (some ⟨w.heap.size, 0, none⟩) 0 0).ownBlock → Fr w w2 := fun v2 w2 g => grown_alloc hfr g HB
    have HE := Lib.hid hrow
    clear hrow
    by_cases hk0 : k = 0
    · subst hk0
      go_enter Try.func58, Try.ntmps58
      go_wp2_with (at_builtin; first | refine wpList_append_own_none rfl _ _ 70 rfl w.heap.size 5 i0 1 Try.underlying70 hi _ 0 [] rfl HM.out rfl ?_ | refine ap_bytes _ rfl _ _ rfl w.heap.size _ 0 [] ⟨w.heap.size + 1, 0, none⟩ 1 1 [0] rfl rfl (HM.out.alloc _) (by simp; omega) rfl (by have := byte_cell (w.alloc (.cells #[] 5)) 0; rw [World.size_alloc] at this; exact this) (by omega) ?_)
      intro v2 w2 hown2 hg2
      go_wp2
      go_ret
      exact ret_cut (k := 0) (ys := []) (m := 0) (HE.out v2 w2 hg2) hown2 (by simp) (by omega)
    · have hki : (0 : Int) < (k : Int) := by omega
      go_enter Try.func58, Try.ntmps58
      go_wp2_with (at_builtin; first | refine wpList_append_own_none rfl _ _ 70 rfl w.heap.size 5 i0 1 Try.underlying70 hi _ 0 [] rfl HM.out rfl ?_ | refine ap_bytes _ rfl _ _ rfl w.heap.size _ 0 [] ⟨w.heap.size + 1, 0, none⟩ 1 1 [0] rfl rfl (HM.out.alloc _) (by simp; omega) rfl (by have := byte_cell (w.alloc (.cells #[] 5)) 0; rw [World.size_alloc] at this; exact this) (by omega) ?_)
      intro v2 w2 hown2 hg2
      go_wp2
      go_ret
      exact ret_cut (k := 0) (ys := []) (m := 0) (HE.out v2 w2 hg2) hown2 (by simp) (by omega)
  | some x =>
    have HN : ∀ q : Nat, q ≤ n → Hid (∀ j, j < n - q → (w.alloc (.cells #[] 5)).cell? ((x.add q).add j) = some (.int .u8 (nth (zs.drop q) j))) := fun q hq => Lib.hid (fun j hj => by
      have hl := H.out.len
      obtain ⟨b, off, hb, hc⟩ := H.out.cells.resolve_left (by omega)
      obtain rfl : x = ⟨b, off, none⟩ := by simpa using hb
      rw [addr_add, addr_add, Nat.add_assoc, hc (q + j) (by omega)]
      simp [nth])
    have HL : ∀ q : Nat, Hid ((zs.drop q).length = n - q) := fun q => Lib.hid (by rw [List.length_drop, H.out.len])
    have HR : ∀ q : Nat, Hid (∀ y ∈ zs.drop q, 0 ≤ y ∧ y ≤ 255) := fun q => Lib.hid (fun y hy => H.out.rng y (List.mem_of_mem_drop hy))
    have HB0 : ∀ k, (Value.slice (some ⟨w.heap.size, 0, none⟩) 0 0).ownBlock = some k → w.heap.size ≤ k := fun k e => by simp [Value.ownBlock] at e; omega
    have hx2 : ∀ (p : Addr) (c : Nat), (Value.slice (some p) 0 c) = .slice (some p) 0 c := fun _ _ => rfl
    by_cases hkn : n < k
    · have hnc : (n : Int) ≤ (cap : Int) := by omega
      have hki : (n : Int) < (k : Int) := by omega
      have hn3 : n ≤ 3 := by omega
      have HE : Hid (∀ (v2 : Value) (w2 : World), ((w.alloc (.cells #[] 5)).alloc (.cells #[.int .u8 ((n : Nat) : Int)] 5)).grownBy w2 (Value.slice (some ⟨w.heap.size, 0, none⟩) 0 0).ownBlock → Fr w w2) := Lib.hid (fun v2 w2 g => grown_alloc hfr g HB0)
      clear HN HL HR H HB0 hx2
      go_enter Try.func58, Try.ntmps58
      go_wp2_with (at_builtin; refine ap_bytes _ rfl _ _ rfl w.heap.size _ 0 [] ⟨w.heap.size + 1, 0, none⟩ 1 1 [((n : Nat) : Int)] rfl rfl (HM.out.alloc _) (by simp; omega) rfl (by have := byte_cell (w.alloc (.cells #[] 5)) ((n : Nat) : Int); rw [World.size_alloc] at this; exact this) (by omega) ?_)
      all_goals
        intro v2 w2 hown2 hg2
        go_wp2
        go_ret
        exact ret_cut (k := n) (ys := []) (m := 0) (HE.out v2 w2 hg2) hown2 (by simp) (by omega)
    · by_cases hkn1 : n = k
      · subst hkn1
        have hnc : (n : Int) ≤ (cap : Int) := by omega
        have HE : Hid (∀ (v2 : Value) (w2 : World), ((w.alloc (.cells #[] 5)).alloc (.cells #[.int .u8 ((n : Nat) : Int)] 5)).grownBy w2 (Value.slice (some ⟨w.heap.size, 0, none⟩) 0 0).ownBlock → Fr w w2) := Lib.hid (fun v2 w2 g => grown_alloc hfr g HB0)
        clear HN HL HR H HB0 hx2
        go_enter Try.func58, Try.ntmps58
        go_wp2_with (at_builtin; refine ap_bytes _ rfl _ _ rfl w.heap.size _ 0 [] ⟨w.heap.size + 1, 0, none⟩ 1 1 [((n : Nat) : Int)] rfl rfl (HM.out.alloc _) (by simp; omega) rfl (by have := byte_cell (w.alloc (.cells #[] 5)) ((n : Nat) : Int); rw [World.size_alloc] at this; exact this) (by omega) ?_)
        all_goals
          intro v2 w2 hown2 hg2
          go_wp2
          go_ret
          exact ret_cut (k := n) (ys := []) (m := 0) (HE.out v2 w2 hg2) hown2 (by simp) (by omega)
      · have hkn2 : k < n := by omega
        have hkc : (k : Int) ≤ (cap : Int) := by omega
        have H1 := HN k (by omega); have H2 := HL k; have H3 := HR k
        clear HN HL HR H
        go_enter Try.func58, Try.ntmps58
        go_wp2_with (at_builtin; refine ap_bytes _ rfl _ _ rfl w.heap.size _ 0 [] (x.add k) (n - k) (cap - k) (zs.drop k) rfl rfl HM.out hfr.size H2.out H1.out (by omega) ?_)
        intro v1 w1 hown1 hg1
        have hF1 : Fr w w1 := hfr.grown hg1 (fun k e => by simp [Value.ownBlock] at e; omega)
        have HB : ∀ k, v1.ownBlock = some k → w.heap.size ≤ k := fun k e => (hown1.lt k e).1
        rw [← List.map_drop] at hown1
        have HO := Lib.hid hown1
        clear hown1 hg1 H1 HB0 hx2
        go_wp2_with (at_builtin; refine ap_bytes _ rfl _ _ rfl w.heap.size v1 (n - k) (zs.drop k) ⟨w1.heap.size, 0, none⟩ 1 1 [(k : Int)] rfl rfl (HO.out.alloc _) (by have := hF1.size; rw [World.size_alloc]; omega) rfl (byte_cell _ _) (by omega) ?_)
        intro v2 w2 hown2 hg2
        have HW := Lib.hid hown2
        clear hown2
        go_wp2
        go_ret
        have E := ret_cut (ys := zs.drop k) (m := n - k) (k := k) (grown_alloc hF1 hg2 HB) (by simpa [List.map_drop] using HW.out) H3.out (by omega)
        exact E
end Go.Proofs.Ytojipjjfndgbhaa
