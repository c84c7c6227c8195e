import Derived.Test.YtboekndojgbkfaaSpread
import Derived.Test.YtboekndojgbkfaaTabLaw
/- Contracts of MoveApart. -/
set_option linter.unusedVariables false
namespace Go.Proofs.Ytboekndojgbkfaa
open Go.ChangeShapes Go.WideShapes Go.ChangeAt Go.RowKit

def apartB (p : List Int) (s : Int) : Bool := spreadB p && inB s 1 ((p.length : Int) - 2) && decide (2 ≤ nth p s.toNat)
def apartL (p : List Int) (s : Nat) : List Int := ((p.set (s - 1) (nth p (s - 1) + 1)).set s (nth p s - 2)).set (s + 1) (nth p (s + 1) + 1)
def apartV (p : List Int) (s : Int) : List Int := bif apartB p s then apartL p s.toNat else []
theorem apartL_len (p : List Int) (s : Nat) : (apartL p s).length = p.length := by simp [apartL]
theorem spread_len {xs : List Int} (h : spreadB xs = true) : 1 ≤ xs.length ∧ xs.length ≤ 8 ∧ ∀ i, 0 ≤ nth xs i ∧ nth xs i ≤ 40 := by
  simp only [spreadB, Bool.and_eq_true, inB_iff, allB_iff] at h
  refine ⟨by omega, by omega, fun i => ?_⟩
  by_cases hi : i < xs.length
  · exact h.1.2 _ (nth_mem hi)
  · rw [nth_out (by omega)]; omega
theorem nth_puts (xs : List Int) (i j : Nat) (v : Int) (h : i ≠ j) : nth (xs.set i v) j = nth xs j := by simp [nth, h]
theorem apart_no {p : List Int} {s : Int} (h : apartB p s = false) : apartV p s = [] := by rw [apartV, h]; rfl
theorem retNo_made {w : World} {V : List Int} {B : Bool} (hV : V = []) (hB : B = false) : RetSB V B w (.returned (.tuple #[.slice (some ⟨w.heap.size, 0, none⟩) 0 0, .bool false])) (w.alloc (.cells #[] 3)) := by
  subst hV; subst hB; exact ⟨_, _, _, rfl, Own.made0 _ (Nat.le_refl _), (Fr.refl w).alloc _, by omega⟩
theorem retNo_nil {w : World} {V : List Int} {B : Bool} (hV : V = []) (hB : B = false) : RetSB V B w (.returned (.tuple #[.slice none 0 0, .bool false])) w := by
  subst hV; subst hB; exact ⟨_, _, _, rfl, ⟨World.ownsRow_nil _ _ _ _, by simp⟩, Fr.refl w, by omega⟩
set_option maxRecDepth 100000 in
theorem spec_MoveApart_any (w : World) (a : Option Addr) (n c : Nat) (p : List Int) (s : Int) (h : SL w a n c p) (_ : I64 s) :
    Calls Try.prog 66 #[.slice a n c, .int .i64 s] w (RetSB (apartV p s) (apartB p s) w) := by
  have Hl := Lib.hid h.len
  have hle := h.le; have hmx := h.mx
  cases h1 : spreadB p
  · have HB : Hid (apartB p s = false) := Lib.hid (by rw [apartB, h1]; rfl)
    have H1 := Lib.hid h1
    go_enter Try.func66, Try.ntmps66
    go_wp2_with (go_at_call 99; refine (l10Spread_any _ _ _ _ _ h).mono ?_; rintro e w' ⟨rfl, rfl⟩; rw [H1.out])
    go_ret2
    have HV := apart_no HB.out
    first | exact retNo_made HV HB.out | exact retNo_nil HV HB.out
  · obtain ⟨l1, l2, l3⟩ := spread_len h1
    rw [Hl.out] at l1 l2
    cases h2 : inB s 1 ((n : Int) - 2)
    · have HB : Hid (apartB p s = false) := Lib.hid (by rw [apartB, Hl.out, h2]; simp)
      have H1 := Lib.hid h1
      have H2 := Lib.hid h2
      clear h1 h2
      go_enter Try.func66, Try.ntmps66
      go_wp2_with (first
        | (go_at_call 99; refine (l10Spread_any _ _ _ _ _ h).mono ?_; rintro e w' ⟨rfl, rfl⟩; rw [H1.out])
        | (go_at_call 106; refine (l1In_any _ _ _ _).mono ?_; rintro e w' ⟨rfl, rfl⟩; rw [H2.out]))
      go_ret2
      have HV := apart_no HB.out
      first | exact retNo_made HV HB.out | exact retNo_nil HV HB.out
    · have hs := inB_iff.1 h2
      obtain ⟨t, rfl⟩ := Int.eq_ofNat_of_zero_le (show 0 ≤ s by omega)
      obtain ⟨b, off, rfl, hc⟩ := h.cells.resolve_left (by omega)
      have hct := hc t (by omega)
      have i1 : (0 : Int) ≤ (t : Int) := by omega
      have i2 : (t : Int) < (n : Int) := by omega
      have lt := l3 t
      clear hc
      by_cases h3 : 2 ≤ nth p t
      · have HB : Hid (apartB p t = true) := Lib.hid (by rw [apartB, Hl.out, h1, h2]; simpa using h3)
        have H1 := Lib.hid h1
        have H2 := Lib.hid h2
        have h3i : ¬ nth p t < 2 := by omega
        clear h1 h2
        have HQ := Lib.hid (l1Own_any w _ _ _ _ h (by omega))
        have HL := Lib.hid l3
        have l4 := l3 (t - 1); have l5 := l3 (t + 1)
        clear l3
        go_enter Try.func66, Try.ntmps66
        go_wp2_with (first
          | (go_at_call 99; refine (l10Spread_any _ _ _ _ _ h).mono ?_; rintro e w' ⟨rfl, rfl⟩; rw [H1.out])
          | (go_at_call 106; refine (l1In_any _ _ _ _).mono ?_; rintro e w' ⟨rfl, rfl⟩; rw [H2.out]))
        refine HQ.out.mono ?_
        rintro e w1 ⟨a1, n1, c1, rfl, o1, f1, m1⟩
        have hn1 : n1 = n := by rw [← o1.len, Hl.out]
        subst hn1
        obtain ⟨g, rfl, hB, hlt, hcell, hfro⟩ := o1.op (by omega)
        obtain ⟨u, hu⟩ : ∃ u, u = t - 1 := ⟨_, rfl⟩
        obtain ⟨v, hv⟩ : ∃ v, v = t + 1 := ⟨_, rfl⟩
        have HL2 : Hid (apartL p t = ((p.set u (nth p u + 1)).set t (nth p t - 2)).set v (nth p v + 1)) := Lib.hid (by rw [apartL, hu, hv])
        rw [← hu] at l4
        rw [← hv] at l5
        have o2 := o1.set rfl (i := u) (by omega) (show I64 (nth p u + 1) by unfold I64; omega)
        have o3 := o2.set rfl (i := t) (by omega) (show I64 (nth p t - 2) by unfold I64; omega)
        have o4 := o3.set rfl (i := v) (by omega) (show I64 (nth p v + 1) by unfold I64; omega)
        have F4 := ((f1.setCell (p := ⟨g, u, none⟩) hB (.int .i64 (nth p u + 1))).setCell (p := ⟨g, t, none⟩) hB (.int .i64 (nth p t - 2))).setCell (p := ⟨g, v, none⟩) hB (.int .i64 (nth p v + 1))
        rw [← HL2.out] at o4
        have HF := Lib.hid (And.intro o4 F4)
        have k0 := hcell u (by omega); have k1 := hcell t (by omega); have k2 := hcell v (by omega)
        have q0 := hfro u; have q1 := hfro t; have q2 := hfro v
        have e1 : (t : Int) - 1 = (u : Int) := by omega
        have e2 : (t : Int) + 1 = (v : Int) := by omega
        have j1 : (0 : Int) ≤ (u : Int) := by omega
        have j2 : (u : Int) < (n1 : Int) := by omega
        have j3 : (0 : Int) ≤ (v : Int) := by omega
        have j4 : (v : Int) < (n1 : Int) := by omega
        have n1' : u ≠ t := by omega
        have n2' : t ≠ v := by omega
        have n3' : u ≠ v := by omega
        have hV : apartV p t = apartL p t := by rw [apartV, HB.out]; rfl
        have HV := Lib.hid hV
        clear hcell hfro hct o1 o2 o3 o4 F4 HQ hu hv hs h3 h3i hV
        go_wp2
        go_ret2
        exact ⟨_, n1, c1, by rw [HB.out]; rfl, by rw [HV.out]; exact HF.out.1, HF.out.2, by omega⟩
      · have HB : Hid (apartB p t = false) := Lib.hid (by rw [apartB]; simp; intro _ _; omega)
        have H1 := Lib.hid h1
        have H2 := Lib.hid h2
        have h3i : nth p t < 2 := by omega
        clear h1 h2
        go_enter Try.func66, Try.ntmps66
        go_wp2_with (first
          | (go_at_call 99; refine (l10Spread_any _ _ _ _ _ h).mono ?_; rintro e w' ⟨rfl, rfl⟩; rw [H1.out])
          | (go_at_call 106; refine (l1In_any _ _ _ _).mono ?_; rintro e w' ⟨rfl, rfl⟩; rw [H2.out]))
        go_ret2
        have HV := apart_no HB.out
        first | exact retNo_made HV HB.out | exact retNo_nil HV HB.out
set_option maxRecDepth 100000 in
theorem impl_MoveApart_any (w : World) (a : Option Addr) (n c : Nat) (p : List Int) (s : Int) (h : SL w a n c p) (_ : I64 s) :
    Calls Try.prog 65 #[.slice a n c, .int .i64 s] w (RetSB (apartV p s) (apartB p s) w) := by
  have Hl := Lib.hid h.len
  have hle := h.le; have hmx := h.mx
  cases h1 : spreadB p
  · have HB : Hid (apartB p s = false) := Lib.hid (by rw [apartB, h1]; rfl)
    have H1 := Lib.hid h1
    go_enter Try.func65, Try.ntmps65
    go_wp2_with (go_at_call 52; refine (impl_IsSpread_any _ _ _ _ _ h).mono ?_; rintro e w' ⟨rfl, rfl⟩; rw [H1.out])
    go_ret2
    have HV := apart_no HB.out
    first | exact retNo_made HV HB.out | exact retNo_nil HV HB.out
  · obtain ⟨l1, l2, l3⟩ := spread_len h1
    rw [Hl.out] at l1 l2
    cases h2 : inB s 1 ((n : Int) - 2)
    · have HB : Hid (apartB p s = false) := Lib.hid (by rw [apartB, Hl.out, h2]; simp)
      have H1 := Lib.hid h1
      have H2 := Lib.hid h2
      clear h1 h2
      go_enter Try.func65, Try.ntmps65
      go_wp2_with (first
        | (go_at_call 52; refine (impl_IsSpread_any _ _ _ _ _ h).mono ?_; rintro e w' ⟨rfl, rfl⟩; rw [H1.out])
        | (go_at_call 100; refine (within_any _ _ _ _).mono ?_; rintro e w' ⟨rfl, rfl⟩; rw [H2.out]))
      go_ret2
      have HV := apart_no HB.out
      first | exact retNo_made HV HB.out | exact retNo_nil HV HB.out
    · have hs := inB_iff.1 h2
      obtain ⟨t, rfl⟩ := Int.eq_ofNat_of_zero_le (show 0 ≤ s by omega)
      obtain ⟨b, off, rfl, hc⟩ := h.cells.resolve_left (by omega)
      have hct := hc t (by omega)
      have i1 : (0 : Int) ≤ (t : Int) := by omega
      have i2 : (t : Int) < (n : Int) := by omega
      have lt := l3 t
      clear hc
      by_cases h3 : 2 ≤ nth p t
      · have HB : Hid (apartB p t = true) := Lib.hid (by rw [apartB, Hl.out, h1, h2]; simpa using h3)
        have H1 := Lib.hid h1
        have H2 := Lib.hid h2
        have h3i : ¬ nth p t < 2 := by omega
        clear h1 h2
        have HQ := Lib.hid (copied_any w _ _ _ _ h (by omega))
        have HL := Lib.hid l3
        have l4 := l3 (t - 1); have l5 := l3 (t + 1)
        clear l3
        go_enter Try.func65, Try.ntmps65
        go_wp2_with (first
          | (go_at_call 52; refine (impl_IsSpread_any _ _ _ _ _ h).mono ?_; rintro e w' ⟨rfl, rfl⟩; rw [H1.out])
          | (go_at_call 100; refine (within_any _ _ _ _).mono ?_; rintro e w' ⟨rfl, rfl⟩; rw [H2.out]))
        refine HQ.out.mono ?_
        rintro e w1 ⟨a1, n1, c1, rfl, o1, f1, m1⟩
        have hn1 : n1 = n := by rw [← o1.len, Hl.out]
        subst hn1
        obtain ⟨g, rfl, hB, hlt, hcell, hfro⟩ := o1.op (by omega)
        obtain ⟨u, hu⟩ : ∃ u, u = t - 1 := ⟨_, rfl⟩
        obtain ⟨v, hv⟩ : ∃ v, v = t + 1 := ⟨_, rfl⟩
        have HL2 : Hid (apartL p t = ((p.set u (nth p u + 1)).set t (nth p t - 2)).set v (nth p v + 1)) := Lib.hid (by rw [apartL, hu, hv])
        rw [← hu] at l4
        rw [← hv] at l5
        have o2 := o1.set rfl (i := u) (by omega) (show I64 (nth p u + 1) by unfold I64; omega)
        have o3 := o2.set rfl (i := t) (by omega) (show I64 (nth p t - 2) by unfold I64; omega)
        have o4 := o3.set rfl (i := v) (by omega) (show I64 (nth p v + 1) by unfold I64; omega)
        have F4 := ((f1.setCell (p := ⟨g, u, none⟩) hB (.int .i64 (nth p u + 1))).setCell (p := ⟨g, t, none⟩) hB (.int .i64 (nth p t - 2))).setCell (p := ⟨g, v, none⟩) hB (.int .i64 (nth p v + 1))
        rw [← HL2.out] at o4
        have HF := Lib.hid (And.intro o4 F4)
        have k0 := hcell u (by omega); have k1 := hcell t (by omega); have k2 := hcell v (by omega)
        have q0 := hfro u; have q1 := hfro t; have q2 := hfro v
        have e1 : (t : Int) - 1 = (u : Int) := by omega
        have e2 : (t : Int) + 1 = (v : Int) := by omega
        have j1 : (0 : Int) ≤ (u : Int) := by omega
        have j2 : (u : Int) < (n1 : Int) := by omega
        have j3 : (0 : Int) ≤ (v : Int) := by omega
        have j4 : (v : Int) < (n1 : Int) := by omega
        have n1' : u ≠ t := by omega
        have n2' : t ≠ v := by omega
        have n3' : u ≠ v := by omega
        have hV : apartV p t = apartL p t := by rw [apartV, HB.out]; rfl
        have HV := Lib.hid hV
        clear hcell hfro hct o1 o2 o3 o4 F4 HQ hu hv hs h3 h3i hV
        go_wp2
        go_ret2
        exact ⟨_, n1, c1, by rw [HB.out]; rfl, by rw [HV.out]; exact HF.out.1, HF.out.2, by omega⟩
      · have HB : Hid (apartB p t = false) := Lib.hid (by rw [apartB]; simp; intro _ _; omega)
        have H1 := Lib.hid h1
        have H2 := Lib.hid h2
        have h3i : nth p t < 2 := by omega
        clear h1 h2
        go_enter Try.func65, Try.ntmps65
        go_wp2_with (first
          | (go_at_call 52; refine (impl_IsSpread_any _ _ _ _ _ h).mono ?_; rintro e w' ⟨rfl, rfl⟩; rw [H1.out])
          | (go_at_call 100; refine (within_any _ _ _ _).mono ?_; rintro e w' ⟨rfl, rfl⟩; rw [H2.out]))
        go_ret2
        have HV := apart_no HB.out
        first | exact retNo_made HV HB.out | exact retNo_nil HV HB.out
end Go.Proofs.Ytboekndojgbkfaa
