import Derived.Test.YtolnloeapbplkaaDoorLog3
import Derived.Laws.IdiomStrings
import Derived.Laws.BitsLemmas
import Derived.Deep.DeepCutAuto
/- CrashLog. -/
set_option linter.unusedVariables false
namespace Go.Proofs.YtolnloeapbplkaaDoor
open Go.ChangeShapes Go.WideShapes Go.ChangeAt Go.RowKit

/-- Bytes in a block of the call's own. -/
def ByA (w : World) (N : Nat) (l : List UInt8) : Prop := N < w.heap.size ∧ ∀ j, j < l.length → w.cell? ⟨N, j, none⟩ = some (.int .u8 ((l.getD j 0).toNat : Int)) ∧ w.frozen? ⟨N, j, none⟩ = false
theorem bytesRow_at (s : ByteArray) (cap j : Nat) (h : j < s.size) : (bytesRow s cap)[j]? = some (.int .u8 (((bl s).getD j 0).toNat : Int)) := by
  have h1 : j < s.data.size := h
  rw [bytesRow, Array.getElem?_append_left (by simpa using h1)]
  have h2 : s.data[j]? = some s.data[j] := Array.getElem?_eq_getElem h1
  simp [bl, h2]
theorem bytesRow_le (s : ByteArray) (cap : Nat) : s.size ≤ (bytesRow s cap).size := by
  have : s.data.size = s.size := rfl
  rw [bytesRow, Array.size_append, Array.size_map]; omega
theorem ByA.new (w : World) (s : ByteArray) (cap : Nat) (t : TypeId) : ByA (w.alloc (.cells (bytesRow s cap) t ((bytesRow s cap).size, (bytesRow s cap).size + 1))) w.heap.size (bl s) := by
  refine ⟨by simp, fun j hj => ?_⟩
  rw [bl_len] at hj
  have hb := bytesRow_le s cap
  refine ⟨by rw [cell_of_row _ w.heap.size j _ _ _ (heap_alloc_new w _), bytesRow_at s cap j hj], ?_⟩
  have hh := heap_alloc_new w (.cells (bytesRow s cap) t ((bytesRow s cap).size, (bytesRow s cap).size + 1))
  unfold World.frozen?
  rw [hh]
  simp; omega
theorem ByA.fr {w w' : World} {N : Nat} {l : List UInt8} (h : ByA w N l) (f : Fr w w') : ByA w' N l := by
  refine ⟨Nat.lt_of_lt_of_le h.1 f.size, fun j hj => ⟨f.keep (h.2 j hj).1, ?_⟩⟩
  have := (h.2 j hj).2
  unfold World.frozen? at this ⊢
  rw [f.block N h.1]; exact this
theorem ByA.set {w : World} {N : Nat} {l : List UInt8} (h : ByA w N l) (i : Nat) (b : UInt8) (hi : i < l.length) : ByA (w.setCell ⟨N, i, none⟩ (.int .u8 (b.toNat : Int))) N (l.set i b) := by
  refine ⟨by simpa [World.setCell] using h.1, fun j hj => ?_⟩
  rw [List.length_set] at hj
  obtain ⟨h1, h2⟩ := h.2 j hj
  obtain ⟨h3, h4⟩ := h.2 i hi
  refine ⟨?_, by rw [World.frozen?_setCell]; exact h2⟩
  by_cases e : i = j
  · subst e
    rw [World.cell?_setCell_same _ _ _ h3]
    simp [hi]
  · rw [World.cell?_setCell_other _ _ _ _ (by intro h; simp only [Addr.mk.injEq] at h; omega), h1]
    simp [e]
theorem ByA.back {w : World} {N : Nat} {l : List UInt8} (h : ByA w N l) (cap n : Nat) (hn : l.length = n) : (convert 22 9 (.slice (some ⟨N, 0, none⟩) n cap)).run Tryd.prog w = .ok (.string (ba l)) w := by
  subst hn
  exact run_convert_bytes_back w 22 9 5 ⟨N, 0, none⟩ cap l Tryd.underlying22 Tryd.underlying5 Tryd.underlying9 (fun j hj => by
    rw [addr_add, Nat.zero_add, (h.2 j hj).1]; simp [hj])
/-- The last byte is torn. -/
def tornL (l : List UInt8) : List UInt8 := l.set (l.length - 1) (255 - l.getD (l.length - 1) 0)
theorem tornL_app (a l : List UInt8) (h : l ≠ []) : tornL (a ++ l) = a ++ tornL l := by
  have hl : 0 < l.length := List.length_pos_iff.2 h
  rw [tornL, tornL, List.length_append, show a.length + l.length - 1 = a.length + (l.length - 1) by omega, List.set_append_right _ _ (by omega)]
  have e : a.length + (l.length - 1) - a.length = l.length - 1 := by omega
  rw [e]
  simp [List.getElem?_append_right, e]
theorem u8_flip (b : UInt8) : IntKind.u8.wrap (255 - (b.toNat : Int)) = ((255 - b).toNat : Int) := by
  have h := UInt8.toNat_lt b
  have e : (255 - b).toNat = 255 - b.toNat := by
    rw [UInt8.toNat_sub_of_le]
    · rfl
    · rw [UInt8.le_iff_toNat_le]; show b.toNat ≤ 255; omega
  rw [e, IntKind.wrap_u8]; omega
def crB (d p : ByteArray) (c k : Int) : Bool := logB (bl d) (bl p) c && inB k 0 (p.size : Int)
def crL (l : List UInt8) (torn : Bool) : List UInt8 := bif torn then tornL l else l
def crV (d p : ByteArray) (c k : Int) (torn : Bool) : ByteArray := bif crB d p c k then ba (bl d ++ crL ((bl p).take k.toNat) torn) else ⟨#[]⟩
set_option maxRecDepth 100000 in
theorem spec_CrashLog_any (d p : ByteArray) (c k : Int) (torn : Bool) (w : World) (hs : d.size + p.size ≤ 1048576) :
    Calls Tryd.prog 34 #[.agg #[.string d, .string p, .int .i64 c], .int .i64 k, .bool torn] w fun e w' => e = .returned (.tuple #[.string (crV d p c k torn), .bool (crB d p c k)]) ∧ Fr w w' := by
  have hfr : Fr w (w.alloc (.cells #[.string d, .string p, .int .i64 c] 33)) := (Fr.refl w).alloc _
  have G0 := Box.new w #[.string d, .string p, .int .i64 c] 33
  have HR : Hid (crB d p c k = (logB (bl d) (bl p) c && inB k 0 (p.size : Int))) := Lib.hid rfl
  have c0 := G0.cell (j := 0) (v := .string d) rfl
  have c1 := G0.cell (j := 1) (v := .string p) rfl
  have c2 := G0.cell (j := 2) (v := .int .i64 c) rfl
  go_enter Tryd.func34, Tryd.ntmps34
  go_wp2_with fail
  refine (l12Valid_any d p c _ hs).mono ?_
  rintro e w1 ⟨rfl, f1⟩
  replace c0 := f1.keep c0; replace c1 := f1.keep c1
  have hF := hfr.trans f1
  have hNw : w.heap.size < w1.heap.size := (G0.fr f1).lt
  clear c2 G0 hfr f1
  cases hb : logB (bl d) (bl p) c
  · have HB : Hid (crB d p c k = false) := Lib.hid (by rw [HR.out, hb]; rfl)
    have HV : Hid (crV d p c k torn = ⟨#[]⟩) := Lib.hid (by rw [crV, HB.out]; rfl)
    go_wp2
    go_ret2
    exact ⟨by rw [HV.out, HB.out]; rfl, hF⟩
  · cases hi : inB k 0 (p.size : Int)
    · have HB : Hid (crB d p c k = false) := Lib.hid (by rw [HR.out, hb, hi]; rfl)
      have HV : Hid (crV d p c k torn = ⟨#[]⟩) := Lib.hid (by rw [crV, HB.out]; rfl)
      clear hb
      go_wp2_with (go_at_call 56; refine (l1In_any _ _ _ _).mono ?_; rw [hi]; rintro e w' ⟨rfl, rfl⟩)
      go_ret2
      exact ⟨by rw [HV.out, HB.out]; rfl, hF⟩
    · have HB : Hid (crB d p c k = true) := Lib.hid (by rw [HR.out, hb, hi]; rfl)
      have HI := Lib.hid hi
      obtain ⟨hk0, hk1⟩ := inB_iff.1 hi
      obtain ⟨q, rfl⟩ := Int.eq_ofNat_of_zero_le hk0
      have HV : Hid (crV d p c q torn = ba (bl d ++ crL ((bl p).take q) torn)) := Lib.hid (by rw [crV, HB.out, Int.toNat_natCast]; rfl)
      have hqp : q ≤ p.size := by omega
      have kc := fun (W : World) (s : ByteArray) => run_bytes_of_string (P := Tryd.prog) W 9 22 5 s Tryd.underlying9 Tryd.underlying22 Tryd.underlying5
      clear hb hi hk0
      have F2 : Fr w1 (w1.alloc (.cells (bytesRow (p.extract 0 q) (grownCap w1 q 0 5)) 5 ((bytesRow (p.extract 0 q) (grownCap w1 q 0 5)).size, (bytesRow (p.extract 0 q) (grownCap w1 q 0 5)).size + 1))).drew := ((Fr.refl w1).alloc _).drew' 1
      have HA := Lib.hid ((ByA.new w1 (p.extract 0 q) (grownCap w1 q 0 5) 5).fr (Fr.drewN _ 1))
      have hxq : bl (p.extract 0 q) = (bl p).take q := bl_front p q hqp
      rw [hxq] at HA
      have hlq : ((bl p).take q).length = q := by rw [List.length_take, bl_len]; omega
      go_upto_region 4 with (go_at_call 56; refine (l1In_any _ _ _ _).mono ?_; rw [HI.out]; rintro e w' ⟨rfl, rfl⟩)
      replace HA : Hid (ByA (w1.alloc (.cells (bytesRow (p.extract 0 q) (grownCap w1 q 0 5)) 5 ((bytesRow (p.extract 0 q) (grownCap w1 q 0 5)).size, (bytesRow (p.extract 0 q) (grownCap w1 q 0 5)).size + 1))).drew w1.heap.size ((bl p).take q)) := HA
      replace c0 := F2.keep c0
      have HF := Lib.hid (hF.trans F2)
      clear kc c1 F2 hF hxq
      generalize (w1.alloc (.cells (bytesRow (p.extract 0 q) (grownCap w1 q 0 5)) 5 ((bytesRow (p.extract 0 q) (grownCap w1 q 0 5)).size, (bytesRow (p.extract 0 q) (grownCap w1 q 0 5)).size + 1))).drew = w2 at *
      generalize w1.heap.size = N at *
      generalize grownCap w1 q 0 5 = cap at *
      cases torn
      · have kb := HA.out.back cap q hlq
        have ad := fun (W : World) => run_string_add_sum (P := Tryd.prog) W d (ba ((bl p).take q)) (by rw [ba_size, hlq]; omega)
        have HW : Hid (ba (bl d ++ crL ((bl p).take q) false) = d ++ ba ((bl p).take q)) := Lib.hid (ba_eq (by rw [bl_app, bl_ba]; rfl)).symm
        clear HA
        go_wp2
        go_ret2
        exact ⟨by rw [HV.out, HB.out, HW.out]; rfl, HF.out⟩
      · by_cases hq : q = 0
        · have kb := HA.out.back cap q hlq
          have ad := fun (W : World) => run_string_add_sum (P := Tryd.prog) W d (ba ((bl p).take q)) (by rw [ba_size, hlq]; omega)
          have HW : Hid (ba (bl d ++ crL ((bl p).take q) true) = d ++ ba ((bl p).take q)) := Lib.hid (ba_eq (by
            rw [bl_app, bl_ba, crL, List.length_eq_zero_iff.1 (hlq.trans hq)]; rfl)).symm
          have hq0 : ¬ (0 : Int) < (q : Int) := by omega
          clear HA hq
          go_wp2
          go_ret2
          exact ⟨by rw [HV.out, HB.out, HW.out]; rfl, HF.out⟩
        · obtain ⟨r, hr⟩ : ∃ r, q = r + 1 := ⟨q - 1, by omega⟩
          have hq0 : (0 : Int) < (q : Int) := by omega
          have hrq : (r : Int) < (q : Int) := by omega
          have hr0 : (0 : Int) ≤ (r : Int) := by omega
          have e1 : IntKind.i64.wrap ((q : Int) - 1) = (r : Int) := by rw [IntWalk.i64_in _ (by omega)]; omega
          obtain ⟨b, hbb⟩ : ∃ b, ((bl p).take q).getD r 0 = b := ⟨_, rfl⟩
          obtain ⟨k0, k1⟩ := HA.out.2 r (by rw [hlq]; omega)
          rw [hbb] at k0
          have e2 := u8_flip b
          have HA2 := HA.out.set r (255 - b) (by rw [hlq]; omega)
          have kb := HA2.back cap q (by rw [List.length_set]; exact hlq)
          have ad := fun (W : World) => run_string_add_sum (P := Tryd.prog) W d (ba (((bl p).take q).set r (255 - b))) (by rw [ba_size, List.length_set, hlq]; omega)
          have HW : Hid (ba (bl d ++ crL ((bl p).take q) true) = d ++ ba (((bl p).take q).set r (255 - b))) := Lib.hid (ba_eq (by
            rw [bl_app, bl_ba, crL, tornL, hlq, show q - 1 = r by omega, hbb]; rfl)).symm
          have c0' : (w2.setCell ⟨N, r, none⟩ (.int .u8 ((255 - b).toNat : Int))).cell? ⟨w.heap.size, 0, none⟩ = some (.string d) := by
            rw [World.cell?_setCell_other _ _ _ _ (by intro h; simp only [Addr.mk.injEq] at h; omega)]; exact c0
          clear HA HA2 hbb hr hq
          go_wp2
          go_ret2
          exact ⟨by rw [HV.out, HB.out, HW.out]; rfl, HF.out.setCell (by dsimp only; omega) _⟩
theorem crL_app (a l : List UInt8) (torn : Bool) (h : l ≠ []) : crL (a ++ l) torn = a ++ crL l torn := by
  cases torn
  · rfl
  · exact tornL_app a l h
set_option maxRecDepth 100000 in
theorem impl_CrashLog_any (d p : ByteArray) (c k : Int) (torn : Bool) (w : World) (hs : d.size + p.size ≤ 1048576) (hE : Env w) :
    Calls Tryd.prog 33 #[.agg #[.string d, .string p, .int .i64 c], .int .i64 k, .bool torn] w fun e w' => e = .returned (.tuple #[.string (crV d p c k torn), .bool (crB d p c k)]) ∧ Fr w w' := by
  have hfr : Fr w (w.alloc (.cells #[.string d, .string p, .int .i64 c] 33)) := (Fr.refl w).alloc _
  have G0 := Box.new w #[.string d, .string p, .int .i64 c] 33
  have HR : Hid (crB d p c k = (logB (bl d) (bl p) c && inB k 0 (p.size : Int))) := Lib.hid rfl
  have c0 := G0.cell (j := 0) (v := .string d) rfl
  have c1 := G0.cell (j := 1) (v := .string p) rfl
  have c2 := G0.cell (j := 2) (v := .int .i64 c) rfl
  go_enter Tryd.func33, Tryd.ntmps33
  go_wp2_with fail
  refine (IsValidLog_any d p c _ hs (hE.fr hfr)).mono ?_
  rintro e w1 ⟨rfl, f1⟩
  replace c0 := f1.keep c0; replace c1 := f1.keep c1
  have hF := hfr.trans f1
  have hNw : w.heap.size < w1.heap.size := (G0.fr f1).lt
  clear c2 G0 hfr f1
  cases hb : logB (bl d) (bl p) c
  · have HB : Hid (crB d p c k = false) := Lib.hid (by rw [HR.out, hb]; rfl)
    have HV : Hid (crV d p c k torn = ⟨#[]⟩) := Lib.hid (by rw [crV, HB.out]; rfl)
    go_wp2
    go_ret2
    exact ⟨by rw [HV.out, HB.out]; rfl, hF⟩
  · cases hi : inB k 0 (p.size : Int)
    · have HB : Hid (crB d p c k = false) := Lib.hid (by rw [HR.out, hb, hi]; rfl)
      have HV : Hid (crV d p c k torn = ⟨#[]⟩) := Lib.hid (by rw [crV, HB.out]; rfl)
      clear hb
      go_wp2_with (go_at_call 53; refine (within_any _ _ _ _).mono ?_; rw [hi]; rintro e w' ⟨rfl, rfl⟩)
      go_ret2
      exact ⟨by rw [HV.out, HB.out]; rfl, hF⟩
    · have HB : Hid (crB d p c k = true) := Lib.hid (by rw [HR.out, hb, hi]; rfl)
      have HI := Lib.hid hi
      obtain ⟨hk0, hk1⟩ := inB_iff.1 hi
      obtain ⟨q, rfl⟩ := Int.eq_ofNat_of_zero_le hk0
      have HV : Hid (crV d p c q torn = ba (bl d ++ crL ((bl p).take q) torn)) := Lib.hid (by rw [crV, HB.out, Int.toNat_natCast]; rfl)
      have hqp : q ≤ p.size := by omega
      have hxz : (p.extract 0 q).size = q := by rw [ByteArray.size_extract]; omega
      have hlx : bl (d ++ p.extract 0 q) = bl d ++ (bl p).take q := by rw [bl_app, bl_front p q hqp]
      have hlq : (d ++ p.extract 0 q).size = d.size + q := by rw [ByteArray.size_append, hxz]
      have ad := fun (W : World) => run_string_add_sum (P := Tryd.prog) W d (p.extract 0 q) (by omega)
      clear hb hi hk0
      go_upto_region 3 with (go_at_call 53; refine (within_any _ _ _ _).mono ?_; rw [HI.out]; rintro e w' ⟨rfl, rfl⟩)
      have kc := fun (W : World) => run_bytes_of_string (P := Tryd.prog) W 9 22 5 (d ++ p.extract 0 q) Tryd.underlying9 Tryd.underlying22 Tryd.underlying5
      go_region
      have F2 : Fr w1 (w1.alloc (.cells (bytesRow (d ++ p.extract 0 q) (grownCap w1.drew (d.size + q) 0 5)) 5 ((bytesRow (d ++ p.extract 0 q) (grownCap w1.drew (d.size + q) 0 5)).size, (bytesRow (d ++ p.extract 0 q) (grownCap w1.drew (d.size + q) 0 5)).size + 1))).drew.drew := (((Fr.refl w1).alloc _).drew' 1).drew' 1
      have HA : Hid (ByA (w1.alloc (.cells (bytesRow (d ++ p.extract 0 q) (grownCap w1.drew (d.size + q) 0 5)) 5 ((bytesRow (d ++ p.extract 0 q) (grownCap w1.drew (d.size + q) 0 5)).size, (bytesRow (d ++ p.extract 0 q) (grownCap w1.drew (d.size + q) 0 5)).size + 1))).drew.drew w1.heap.size (bl d ++ (bl p).take q)) := Lib.hid (by
        have h := ((ByA.new w1 (d ++ p.extract 0 q) (grownCap w1.drew (d.size + q) 0 5) 5).fr (Fr.drewN _ 1)).fr (Fr.drewN _ 1)
        rw [hlx] at h; exact h)
      have hlen : (bl d ++ (bl p).take q).length = d.size + q := by rw [← hlx, bl_len, hlq]
      have HF := Lib.hid (hF.trans F2)
      clear kc c0 c1 F2 hF ad hlx hlq hxz
      generalize (w1.alloc (.cells (bytesRow (d ++ p.extract 0 q) (grownCap w1.drew (d.size + q) 0 5)) 5 ((bytesRow (d ++ p.extract 0 q) (grownCap w1.drew (d.size + q) 0 5)).size, (bytesRow (d ++ p.extract 0 q) (grownCap w1.drew (d.size + q) 0 5)).size + 1))).drew.drew = w2 at *
      generalize w1.heap.size = N at *
      generalize grownCap w1.drew (d.size + q) 0 5 = cap at *
      have hsn : d.size + q ≤ 1048576 := by omega
      have hqn : q ≤ d.size + q := by omega
      have hq0 : 0 < q → (bl p).take q ≠ [] := fun h e => by
        rw [List.length_append, bl_len] at hlen
        rw [e] at hlen; simp at hlen; omega
      generalize d.size + q = n at *
      cases torn
      · have kb := HA.out.back cap n hlen
        have HW : Hid (crL ((bl p).take q) false = (bl p).take q) := Lib.hid rfl
        clear HA
        go_wp2
        go_ret2
        exact ⟨by rw [HV.out, HB.out, HW.out]; rfl, HF.out⟩
      · by_cases hq : q = 0
        · have kb := HA.out.back cap n hlen
          have HW : Hid (crL ((bl p).take q) true = (bl p).take q) := Lib.hid (by subst hq; rfl)
          have hq1 : ¬ (0 : Int) < (q : Int) := by omega
          clear HA hq
          go_wp2
          go_ret2
          exact ⟨by rw [HV.out, HB.out, HW.out]; rfl, HF.out⟩
        · obtain ⟨r, hr⟩ : ∃ r, n = r + 1 := ⟨n - 1, by omega⟩
          have hq1 : (0 : Int) < (q : Int) := by omega
          have hrq : (r : Int) < (n : Int) := by omega
          have hr0 : (0 : Int) ≤ (r : Int) := by omega
          have e1 : IntKind.i64.wrap ((n : Int) - 1) = (r : Int) := by rw [IntWalk.i64_in _ (by omega)]; omega
          have HT := crL_app (bl d) ((bl p).take q) true (hq0 (by omega))
          generalize bl d ++ (bl p).take q = l at *
          obtain ⟨b, hbb⟩ : ∃ b, l.getD r 0 = b := ⟨_, rfl⟩
          obtain ⟨k0, k1⟩ := HA.out.2 r (by rw [hlen]; omega)
          rw [hbb] at k0
          have e2 := u8_flip b
          have HA2 := HA.out.set r (255 - b) (by rw [hlen]; omega)
          have kb := HA2.back cap n (by rw [List.length_set]; exact hlen)
          have HW : Hid (bl d ++ crL ((bl p).take q) true = l.set r (255 - b)) := Lib.hid (by
            rw [← HT, crL, tornL, hlen, show n - 1 = r by omega, hbb]; rfl)
          clear HA HA2 hbb hr hq HT hq0
          go_wp2
          go_ret2
          exact ⟨by rw [HV.out, HB.out, HW.out]; rfl, HF.out.setCell (by dsimp only; omega) _⟩
set_option maxRecDepth 100000 in
theorem walk_FnExactCrashLog (s t : ByteArray) (k : Int) (q : Int) (torn : Bool) (w : World) (hE : Env w) (hs : s.size ≤ maxLen) (ht : t.size ≤ maxLen) (hk : I64 k) (hq : I64 q) :
    Calls Tryd.prog 9 #[.agg #[.string s, .string t, .int .i64 k], .int .i64 q, .bool torn] w fun e w' => e = .returned (.bool true) ∧ Fr w w' := by
  unfold maxLen at hs ht
  have hfr : Fr w (w.alloc (.cells #[.string s, .string t, .int .i64 k] 57)) := (Fr.refl w).alloc _
  have B0 := Box.new w #[.string s, .string t, .int .i64 k] 57
  by_cases hz : szR s.size t.size 1048576 < 0
  · go_enter Tryd.func9, Tryd.ntmps9
    go_wp2_with fail
    refine (szLog_any s t k _ _ (by omega) (by omega) (by omega) (by omega)).mono ?_
    rintro e w1 ⟨rfl, f1⟩
    go_wp2
    go_ret
    exact ⟨rfl, hfr.trans f1⟩
  · obtain ⟨z1, z2, _⟩ := szR_fit hz
    have z3 : s.size + t.size ≤ 1048576 := by omega
    go_enter Tryd.func9, Tryd.ntmps9
    go_wp2_with fail
    refine (szLog_any s t k _ _ (by omega) (by omega) (by omega) (by omega)).mono ?_
    rintro e w1 ⟨rfl, f1⟩
    replace B0 := B0.fr f1
    have F1 := hfr.trans f1
    clear f1
    have c0 := B0.cell (j := 0) (v := .string s) rfl; have c1 := B0.cell (j := 1) (v := .string t) rfl; have c2 := B0.cell (j := 2) (v := .int .i64 k) rfl
    go_wp2_with fail
    refine (toLog_any s t k _).mono ?_
    rintro e w2 ⟨rfl, f2⟩
    go_wp2_with fail
    refine (spec_CrashLog_any s t k q torn _ z3).mono ?_
    rintro e w3 ⟨rfl, f3⟩
    have HIM := Lib.hid (fun W (h : Env W) => impl_CrashLog_any s t k q torn W z3 h)
    generalize crV s t k q torn = x at HIM ⊢
    generalize crB s t k q = b at HIM ⊢
    replace B0 := ((B0.fr f2).fr f3)
    have F3 := (F1.trans f2).trans f3
    clear f2 f3 c0 c1 c2 F1
    have c0 := B0.cell (j := 0) (v := .string s) rfl; have c1 := B0.cell (j := 1) (v := .string t) rfl; have c2 := B0.cell (j := 2) (v := .int .i64 k) rfl
    go_wp2_with fail
    refine (toLog_any s t k _).mono ?_
    rintro e w4 ⟨rfl, f4⟩
    go_wp2_with fail
    refine (HIM.out _ (hE.fr (F3.trans f4))).mono ?_
    rintro e w5 ⟨rfl, f5⟩
    have F5 := (F3.trans f4).trans f5
    have hb : (x.toList == x.toList) = true := by rw [str_eq]; simp
    have hb2 : (x.toList != x.toList) = false := by rw [bne, hb]; rfl
    clear c0 c1 c2 B0 HIM
    go_wp2
    go_ret
    exact ⟨rfl, F5⟩
end Go.Proofs.YtolnloeapbplkaaDoor
