import Derived.Test.YtolnloeapbplkaaDoorRead
import Derived.BigQuiet
import Derived.Deep.QuietTactic
/- Contracts of the validity of a log. -/
set_option linter.unusedVariables false
namespace Go.Proofs.YtolnloeapbplkaaDoor
open Go.ChangeShapes Go.WideShapes Go.ChangeAt Go.RowKit

/-- Is a log valid? -/
def logB (d p : List UInt8) (c : Int) : Bool :=
  decide (d.length + p.length ≤ 30000) && ((((lns 0 (rdA (d ++ p))).length : Int) == (d.length : Int) + p.length) && ((((lns 0 (rdA d)).length : Int) == d.length) && (((rdA (d ++ p)).length : Int) == c)))
theorem logB_iff {d p : List UInt8} {c : Int} : logB d p c = true ↔ d.length + p.length ≤ 30000 ∧ (lns 0 (rdA (d ++ p))).length = d.length + p.length ∧ (lns 0 (rdA d)).length = d.length ∧ ((rdA (d ++ p)).length : Int) = c := by
  simp only [logB, Bool.and_eq_true, decide_eq_true_eq, beq_iff_eq]
  constructor
  · rintro ⟨h1, h2, h3, h4⟩; exact ⟨h1, by omega, by omega, h4⟩
  · rintro ⟨h1, h2, h3, h4⟩; exact ⟨h1, by omega, by omega, h4⟩
def B3 (d p : ByteArray) (c : Int) : Array Value := #[.string d, .string p, .int .i64 c]
theorem apply_size (d p : ByteArray) : (d ++ p).size = d.size + p.size := ByteArray.size_append
set_option maxRecDepth 100000 in
theorem l12Valid_any (d p : ByteArray) (c : Int) (w : World) (hs : d.size + p.size ≤ 1048576) :
    Calls Tryd.prog 62 #[.agg #[.string d, .string p, .int .i64 c]] w fun e w' => e = .returned (.bool (logB (bl d) (bl p) c)) ∧ Fr w w' := by
  have hfr : Fr w (w.alloc (.cells #[.string d, .string p, .int .i64 c] 33)) := (Fr.refl w).alloc _
  have G0 := Box.new w #[.string d, .string p, .int .i64 c] 33
  have hld := bl_len d
  have hlp := bl_len p
  have hsz := apply_size d p
  have e0 : IntKind.i64.wrap ((d.size : Int) + (p.size : Int)) = (d.size : Int) + (p.size : Int) := IntWalk.i64_in _ (by omega)
  by_cases hz : d.size + p.size ≤ 30000
  · have hzi : ¬ (30000 : Int) < (d.size : Int) + (p.size : Int) := by omega
    have HV : Hid (logB (bl d) (bl p) c = ((((lns 0 (rdA (bl d ++ bl p))).length : Int) == (d.size : Int) + (p.size : Int)) && ((((lns 0 (rdA (bl d))).length : Int) == (d.size : Int)) && (((rdA (bl d ++ bl p)).length : Int) == c)))) := Lib.hid (by
      rw [logB, hld, hlp, decide_eq_true hz]; rfl)
    have c0 := G0.cell (j := 0) (v := .string d) rfl
    have c1 := G0.cell (j := 1) (v := .string p) rfl
    have c2 := G0.cell (j := 2) (v := .int .i64 c) rfl
    clear hld hlp G0
    go_enter Tryd.func62, Tryd.ntmps62
    go_wp2_with fail
    refine (l12Open_any (d ++ p) _ (by omega)).mono ?_
    rintro e w1 ⟨a1, n1, p1, xs, rfl, ho, hx, f1⟩
    rw [bl_app] at hx ⊢
    have hn : (n1 : Int) = ((rdA (bl d ++ bl p)).length : Int) := by rw [← hx, blR_len, ho.len]
    generalize (((lns 0 (rdA (bl d ++ bl p))).length : Nat) : Int) = E1 at HV ⊢
    rw [← hn] at HV
    replace c0 := f1.keep c0; replace c1 := f1.keep c1; replace c2 := f1.keep c2
    clear hn hx ho
    go_wp2_with fail
    refine (l12Open_any d _ (by omega)).mono ?_
    rintro e w2 ⟨a2, n2, p2, ys, rfl, ho, hy, f2⟩
    generalize (((lns 0 (rdA (bl d))).length : Nat) : Int) = E2 at HV ⊢
    replace c0 := f2.keep c0; replace c1 := f2.keep c1; replace c2 := f2.keep c2
    have hF := (hfr.trans f1).trans f2
    clear hy ho f1 f2 hfr
    cases h1 : (E1 == (d.size : Int) + (p.size : Int)) <;> cases h2 : (E2 == (d.size : Int)) <;> cases h3 : ((n1 : Int) == c)
    all_goals
      have HW := Lib.hid HV.out
      rw [h1, h2, h3] at HV
      clear HW
      go_wp2
      go_ret
      exact ⟨by rw [HV.out]; rfl, hF⟩
  · have hzi : (30000 : Int) < (d.size : Int) + (p.size : Int) := by omega
    have HV : Hid (logB (bl d) (bl p) c = false) := Lib.hid (by rw [logB, hld, hlp, decide_eq_false hz]; rfl)
    clear hld hlp G0
    go_enter Tryd.func62, Tryd.ntmps62
    go_wp2
    go_ret
    exact ⟨by rw [HV.out]; rfl, hfr⟩

theorem spec_IsValidLog_any (d p : ByteArray) (c : Int) (w : World) (hs : d.size + p.size ≤ 1048576) :
    Calls Tryd.prog 26 #[.agg #[.string d, .string p, .int .i64 c]] w fun e w' => e = .returned (.bool (logB (bl d) (bl p) c)) ∧ Fr w w' := by
  have hfr : Fr w (w.alloc (.cells #[.string d, .string p, .int .i64 c] 33)) := (Fr.refl w).alloc _
  go_enter Tryd.func26, Tryd.ntmps26
  go_wp2_with fail
  refine (l12Valid_any d p c _ hs).mono ?_
  rintro e w1 ⟨rfl, f1⟩
  go_wp2
  go_ret
  exact ⟨rfl, hfr.trans f1⟩
theorem ends_has {d p : List UInt8} (hw : (lns 0 (rdA (d ++ p))).length = d.length + p.length) (n : Nat) (hn : n = (rdA (d ++ p)).length) :
    (((endsL (rdA (d ++ p))).take (n + 1)).contains (d.length : Int)) = (((lns 0 (rdA d)).length : Int) == (d.length : Int)) := by
  rw [List.take_of_length_le (by rw [endsL_len, hn]; exact Nat.le_refl _), Bool.eq_iff_iff, List.contains_iff_mem, beq_iff_eq]
  have hk := kept_iff (d := d) (p := p) (by rw [hw, List.length_append])
  constructor
  · intro h
    obtain ⟨i, hi, he⟩ := List.mem_map.1 h
    rw [List.mem_range] at hi
    exact congrArg _ (hk.1 ⟨i, by omega, by omega⟩)
  · intro h
    obtain ⟨j, hj, he⟩ := hk.2 (by omega)
    exact List.mem_map.2 ⟨j, List.mem_range.2 (by omega), by rw [he]⟩
set_option maxRecDepth 100000 in
theorem IsValidLog_any (d p : ByteArray) (c : Int) (w : World) (hs : d.size + p.size ≤ 1048576) (hE : Env w) :
    Calls Tryd.prog 25 #[.agg #[.string d, .string p, .int .i64 c]] w fun e w' => e = .returned (.bool (logB (bl d) (bl p) c)) ∧ Fr w w' := by
  have hfr : Fr w (w.alloc (.cells #[.string d, .string p, .int .i64 c] 33)) := (Fr.refl w).alloc _
  have G0 := Box.new w #[.string d, .string p, .int .i64 c] 33
  have hld := bl_len d
  have hlp := bl_len p
  have hsz := apply_size d p
  have e0 : IntKind.i64.wrap ((d.size : Int) + (p.size : Int)) = (d.size : Int) + (p.size : Int) := IntWalk.i64_in _ (by omega)
  by_cases hz : d.size + p.size ≤ 30000
  · have hzi : ¬ (30000 : Int) < (d.size : Int) + (p.size : Int) := by omega
    have HV : Hid (logB (bl d) (bl p) c = ((((lns 0 (rdA (bl d ++ bl p))).length : Int) == (d.size : Int) + (p.size : Int)) && ((((lns 0 (rdA (bl d))).length : Int) == (d.size : Int)) && (((rdA (bl d ++ bl p)).length : Int) == c)))) := Lib.hid (by
      rw [logB, hld, hlp, decide_eq_true hz]; rfl)
    have HS := Lib.hid (fun hw n hn => @ends_has (bl d) (bl p) hw n hn)
    have c0 := G0.cell (j := 0) (v := .string d) rfl
    have c1 := G0.cell (j := 1) (v := .string p) rfl
    have c2 := G0.cell (j := 2) (v := .int .i64 c) rfl
    have HL := Lib.hid hld
    have HL2 := Lib.hid hlp
    have HE := Lib.hid (hE.fr hfr)
    clear hld hlp G0
    go_enter Tryd.func25, Tryd.ntmps25
    go_wp2_with fail
    refine (readRecords_any (d ++ p) _ (by omega) HE.out).mono ?_
    rintro e w1 ⟨a1, n1, p1, xs, b1, d1, rfl, ho, hx, hb, f1⟩
    rw [bl_app] at hx hb
    have hn : n1 = (rdA (bl d ++ bl p)).length := by rw [← hx, blR_len, ho.len]
    obtain ⟨g, rfl, hg, hgl, hcs, _⟩ := hb.op (by omega)
    have hlast := hcs n1 (by omega)
    have hne : nth (endsL (rdA (bl d ++ bl p))) n1 = ((lns 0 (rdA (bl d ++ bl p))).length : Nat) := by rw [hn, endsL_last]
    rw [hne] at hlast
    have hbl : (endsL (rdA (bl d ++ bl p))).length = n1 + 1 := hb.len
    have hnn : n1 ≤ 60 := by rw [hn]; exact rdL_len 60 0 _
    have HCALL : Hid (∀ m, Calls Tryd.prog 66 #[.slice (some ⟨g, 0, none⟩) (n1 + 1) d1, .int .i64 (d.size : Int)] (w1.drewN m) fun e w' => e = .returned (.bool (((endsL (rdA (bl d ++ bl p))).take (n1 + 1)).contains (d.size : Int))) ∧ w1.drewN m = w') := Lib.hid (fun m => by
      refine (Tryd.slices_Contains_int g 0 (n1 + 1) d1 (endsL (rdA (bl d ++ bl p))) (d.size : Int) (w1.drewN m) (by omega) (by omega) (fun j hj => ?_)).mono fun _ _ ⟨h1, h2⟩ => ⟨h1, h2.symm⟩
      rw [Nat.zero_add]
      have hcj := (Fr.drewN w1 m).keep (hcs j (by omega))
      rw [hcj, nth, List.getD_eq_getElem?_getD])
    have HCV : Hid ((lns 0 (rdA (bl d ++ bl p))).length = (bl d).length + (bl p).length → (((endsL (rdA (bl d ++ bl p))).take (n1 + 1)).contains (d.size : Int)) = (((lns 0 (rdA (bl d))).length : Int) == (d.size : Int))) := Lib.hid (fun hw => by
      rw [← HL.out]; exact HS.out hw n1 hn)
    have hidx : (n1 : Int) < ((n1 + 1 : Nat) : Int) := by omega
    have hidx0 : (0 : Int) ≤ (n1 : Int) := by omega
    replace c0 := f1.keep c0; replace c1 := f1.keep c1; replace c2 := f1.keep c2
    have hF := hfr.trans f1
    have hcn : ((rdA (bl d ++ bl p)).length : Int) = (n1 : Int) := by rw [hn]
    generalize (((endsL (rdA (bl d ++ bl p))).take (n1 + 1)).contains (d.size : Int)) = CB at HCALL HCV
    cases h1 : ((((lns 0 (rdA (bl d ++ bl p))).length : Nat) : Int) == (d.size : Int) + (p.size : Int)) <;> cases h2 : (c == (n1 : Int))
    case true.true =>
      have HR : Hid (logB (bl d) (bl p) c = CB) := Lib.hid (by
        have h3 := HCV.out (by rw [beq_iff_eq] at h1; rw [HL.out, HL2.out]; omega)
        rw [h3, HV.out, h1, hcn]
        rw [beq_iff_eq] at h2
        rw [h2]; simp)
      clear HV HCV hcn hn ho hx hb hcs hne hbl HS hfr f1
      generalize (((lns 0 (rdA (bl d ++ bl p))).length : Nat) : Int) = E1 at hlast h1
      go_wp2_with fail
      go_quiet ((go_at_call 66; exact qofe (HCALL.out _)))
      go_wp2
      go_ret
      exact ⟨by rw [HR.out]; rfl, hF.drew' _⟩
    all_goals
      have HR : Hid (logB (bl d) (bl p) c = false) := Lib.hid (by
        rw [HV.out, h1, hcn]
        rw [Bool.beq_comm] at h2
        first
          | rfl
          | (rw [h2]; simp))
      clear HV HCV hcn hn ho hx hb hcs hne hbl HS hfr f1
      generalize (((lns 0 (rdA (bl d ++ bl p))).length : Nat) : Int) = E1 at hlast h1
      go_wp2_with fail
      go_quiet (fail)
      go_wp2
      go_ret
      exact ⟨by rw [HR.out]; rfl, hF.drew' _⟩
  · have hzi : (30000 : Int) < (d.size : Int) + (p.size : Int) := by omega
    have HV : Hid (logB (bl d) (bl p) c = false) := Lib.hid (by rw [logB, hld, hlp, decide_eq_false hz]; rfl)
    clear hld hlp G0
    go_enter Tryd.func25, Tryd.ntmps25
    go_wp2
    go_ret
    exact ⟨by rw [HV.out]; rfl, hfr⟩

end Go.Proofs.YtolnloeapbplkaaDoor
