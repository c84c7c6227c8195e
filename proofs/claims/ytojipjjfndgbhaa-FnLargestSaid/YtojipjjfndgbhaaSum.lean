import Derived.Test.YtojipjjfndgbhaaSumM
import Derived.Test.YtojipjjfndgbhaaTreeLaw
/- Contracts of trees: ends, children, sums. -/
set_option linter.unusedVariables false
namespace Go.Proofs.Ytojipjjfndgbhaa
open Go.ChangeShapes Go.WideShapes Go.ChangeAt Go.RowKit

theorem ends_any (w : World) (p q : Option Addr) (n c m d : Nat) (P : List Int) (hP : SL w p n c P) (hp : parB P = true) (hn : n ≤ 1048576) :
    Calls Try.prog 80 #[.agg #[.slice p n c, .slice q m d]] w (RetS (endsM P) w) := by
  have HP := Lib.hid hP.len
  have hfr : Fr w ((w.alloc (.cells #[.slice p n c, .slice q m d] 29)).alloc (.cells #[] 3)) := ((Fr.refl w).alloc _).alloc _
  have hmade := Own.made0 (B := w.heap.size) (w.alloc (.cells #[.slice p n c, .slice q m d] 29)) (by simp)
  have H0 := Lib.hid ((Blk.new w #[.slice p n c, .slice q m d] 29).alloc (.cells #[] 3))
  have c0 := H0.out.cell (j := 0) rfl
  have c1 := H0.out.cell (j := 1) rfl
  go_enter Try.func80, Try.ntmps80
  go_wp2_with fail
  clear c0 c1
  refine (isEnd_any _ _ _ _ _ _ _ _ (hP.fr hfr) hp hn).mono ?_
  rintro e w1 ⟨a1, n1, c1, rfl, o1, f1, _⟩
  obtain rfl : n1 = n := by rw [← o1.len, endsAt_len, HP.out]
  have hE : Hid (∀ x, x < n1 → nthB (endsAt P n1) x = endB P x) := Lib.hid (fun x hx => by rw [endsAt_nth _ _ _ (by rw [HP.out]; exact hx), endB, HP.out])
  rw [World.size_alloc] at o1
  have hm1 := hmade.fr f1
  have hF1 := hfr.trans f1
  have hz1 := f1.size
  simp only [World.size_alloc] at hz1
  go_wp2
  go_loopw [3, 10] (fun v i wr => ∃ (k l cc : Nat) (a : Option Addr), k ≤ n1 ∧ i = .int .i64 k ∧ v = .slice a l cc ∧ Own w.heap.size wr a l cc (endsTo P k) ∧ Apart a a1 ∧ OwnB w.heap.size wr a1 n1 c1 (endsAt P n1) ∧ Fr w wr) (fun _ i _ => n1 - (intOf i).toNat)
  case atStart => exact ⟨0, 0, 0, _, by omega, rfl, rfl, by simpa [endsTo] using hm1, fun k h1 h2 => by have := o1.blk k h2; simp [blkOf] at h1 this; omega, o1.mono (by simp; omega), hF1⟩
  case round =>
    clear hmade hm1 o1 hF1 H0
    obtain ⟨k, l, cc, a, hk, rfl, rfl, ho, hab, hB, hF⟩ := hrel
    by_cases hlt : k < n1
    · obtain ⟨g, rfl, _, _, hce, _⟩ := hB.op (by omega)
      replace hce := hce k hlt
      rw [hE.out k hlt] at hce
      have hs := endsTo_succ P k
      have hln : l ≤ 1048576 := by have := ho.len; have := endsTo_len P k; omega
      have hsz := hF.size
      cases he : endB P k
      · rw [he] at hs hce
        have HS : Hid (endsTo P (k + 1) = endsTo P k) := Lib.hid (by rw [hs]; simp)
        clear hs he
        go_wp2
        go_roundw
        case rel => exact ⟨k + 1, l, cc, a, by omega, by go_num, rfl, by rw [HS.out]; exact ho, hab, hB, hF⟩
        case measure => simp [intOf]; omega
      · rw [he] at hs hce
        have HS : Hid (endsTo P (k + 1) = endsTo P k ++ [(k : Int)]) := Lib.hid (by rw [hs]; simp)
        clear hs he
        go_wp2_with (at_builtin; refine ap_int _ rfl _ _ rfl w.heap.size a l cc _ _ rfl rfl ho hsz (by unfold I64; omega) hln ?_)
        intro g' c' w' k1 k2 k3
        have hab' : Apart (some ⟨g', 0, none⟩) (some ⟨g, 0, none⟩) := by
          intro z h1 h2
          simp only [blkOf, Option.map_some, Option.some.injEq] at h1 h2
          subst h1
          rcases k3 with h | h
          · exact hab _ h (by simp [blkOf, h2])
          · have := hB.blk g rfl; omega
        have hB' := hB.grown k2 (by
          cases hx : blkOf (some (⟨g, 0, none⟩ : Addr)) with
          | none => exact .inl rfl
          | some z => exact .inr fun e => hab z e.symm hx)
        go_wp2
        go_roundw
        case rel => exact ⟨k + 1, l + 1, c', _, by omega, by go_num, rfl, by rw [HS.out]; exact k1, hab', hB', hF.grown k2 (fun z hz => (ho.blk z hz).1)⟩
        case measure => simp [intOf]; omega
    · obtain rfl : k = n1 := by omega
      have hln : l ≤ k := by have := ho.len; have := endsTo_len P k; omega
      have HM : Hid (endsTo P k = endsM P) := Lib.hid (by rw [endsM, HP.out])
      rw [HM.out] at ho
      go_wp2
      go_ret
      exact ⟨_, _, _, rfl, ho, hF, by omega⟩

theorem l2Ends_any (w : World) (p q : Option Addr) (n c m d : Nat) (P : List Int) (hP : SL w p n c P) (hp : parB P = true) (hn : n ≤ 1048576) :
    Calls Try.prog 117 #[.agg #[.slice p n c, .slice q m d]] w (RetS (endsM P) w) := by
  have HP := Lib.hid hP.len
  have Hp := Lib.hid hp
  clear hp
  have hmade := Own.made0 (B := w.heap.size + 1) (w.alloc (.cells #[.slice p n c, .slice q m d] 29)) (by simp)
  have hfa : Fr (w.alloc (.cells #[.slice p n c, .slice q m d] 29)) ((w.alloc (.cells #[.slice p n c, .slice q m d] 29)).alloc (.cells #[] 3)) := (Fr.refl _).alloc _
  go_enter Try.func117, Try.ntmps117
  go_wp2
  go_loopw [3, 4] (fun v i wr => ∃ (k l cc : Nat) (a : Option Addr), k ≤ n ∧ i = .int .i64 k ∧ v = .slice a l cc ∧ Own (w.heap.size + 1) wr a l cc (endsTo P k) ∧ Fr (w.alloc (.cells #[.slice p n c, .slice q m d] 29)) wr) (fun _ i _ => n - (intOf i).toNat)
  case atStart => exact ⟨0, 0, 0, _, by omega, rfl, rfl, by simpa [endsTo] using hmade, hfa⟩
  case round =>
    clear hmade hfa
    obtain ⟨k, l, cc, a, hk, rfl, rfl, ho, hf⟩ := hrel
    have hbox := hf.newCell (j := 0) (v := .slice p n c) rfl
    have hbox1 := hf.newCell (j := 1) (v := .slice q m d) rfl
    have hF : Fr w wr := ((Fr.refl w).alloc _).trans hf
    by_cases hlt : k < n
    · go_wp2_with fail
      refine (l2Kids_any _ _ _ _ _ _ _ k _ (hP.fr hF) Hp.out hn hlt).mono ?_
      rintro e w2 ⟨a2, n2, c2, rfl, o2, f2, _⟩
      have Ho := Lib.hid o2.len
      have hne : ((n2 : Int) == 0) = endB P k := by
        rw [Bool.eq_iff_iff, endB, HP.out, ← kidsTo_nil, ← List.length_eq_zero_iff, Ho.out]; simp
      have hs := endsTo_succ P k
      have hln : l ≤ 1048576 := by have := ho.len; have := endsTo_len P k; omega
      have ho2 := ho.fr f2
      have hf2 := hf.trans f2
      have hsz : w.heap.size + 1 ≤ w2.heap.size := by have := hf2.size; simpa using this
      clear hbox hbox1 o2
      cases he : endB P k
      · rw [he] at hs hne
        have HS : Hid (endsTo P (k + 1) = endsTo P k) := Lib.hid (by rw [hs]; simp)
        clear hs he
        go_wp2
        go_roundw
        case rel => exact ⟨k + 1, l, cc, a, by omega, by go_num, rfl, by rw [HS.out]; exact ho2, hf2⟩
        case measure => simp [intOf]; omega
      · rw [he] at hs hne
        have HS : Hid (endsTo P (k + 1) = endsTo P k ++ [(k : Int)]) := Lib.hid (by rw [hs]; simp)
        clear hs he
        go_wp2_with (at_builtin; refine ap_int _ rfl _ _ rfl (w.heap.size + 1) a l cc _ _ rfl rfl ho2 hsz (by unfold I64; omega) hln ?_)
        intro g' c' w' k1 k2 k3
        go_wp2
        go_roundw
        case rel => exact ⟨k + 1, l + 1, c', _, by omega, by go_num, rfl, by rw [HS.out]; exact k1, hf2.grown k2 (fun z hz => by have := (ho2.blk z hz).1; simp; omega)⟩
        case measure => simp [intOf]; omega
    · obtain rfl : k = n := by omega
      have hln : l ≤ k := by have := ho.len; have := endsTo_len P k; omega
      have HM : Hid (endsTo P k = endsM P) := Lib.hid (by rw [endsM, HP.out])
      rw [HM.out] at ho
      go_wp2
      go_ret
      exact ⟨_, _, _, rfl, ho.mono (by omega), hF, by omega⟩

theorem gathered_any (w : World) (p q a : Option Addr) (n c m d l b : Nat) (P A : List Int) (hP : SL w p n c P) (hA : SL w a l b A) (hp : parB P = true) (hn : n ≤ 24) (hn1 : 1 ≤ n) (hl : l = n) (hb : absTo A n ≤ 1000000000000) :
    Calls Try.prog 118 #[.agg #[.slice p n c, .slice q m d], .slice a l b] w (RetS (gathM P A) w) := by
  subst hl
  have HP := Lib.hid hP.len
  have HA := Lib.hid hA.len
  have Hp := Lib.hid hp
  have hbd : Hid (∀ j, j + 1 ≤ l → ∀ i, ((nth (gathTo P A j) i).natAbs : Int) ≤ 1000000000000) := Lib.hid (fun j hj i => by
    have := (gathTo_abs (a := A) hp (by have := HP.out; have := HA.out; omega) j (by have := HP.out; omega)).2 i
    rw [HP.out] at this; omega)
  clear hp
  have hfr : Fr w (w.alloc (.cells #[.slice p l c, .slice q m d] 29)) := (Fr.refl w).alloc _
  go_enter Try.func118, Try.ntmps118
  go_wp2_with fail
  refine (copied_any _ _ _ _ _ (hA.fr hfr) (by omega)).mono ?_
  rintro e w1 ⟨a1, n1, c1, rfl, o1, f1, _⟩
  obtain rfl : n1 = l := by rw [← o1.len, HA.out]
  have z1 := f1.size
  simp only [World.size_alloc] at z1
  rw [World.size_alloc] at o1
  go_wp2
  go_loopw [6] (fun i wr => ∃ x : Nat, x < n1 ∧ i = .int .i64 x ∧ Own (w.heap.size + 1) wr a1 n1 c1 (gathTo P A (n1 - 1 - x)) ∧ Fr (w.alloc (.cells #[.slice p n1 c, .slice q m d] 29)) wr) (fun i _ => (intOf i).toNat)
  case atStart => exact ⟨n1 - 1, by omega, congrArg (Value.int .i64) (by omega), by rw [Nat.sub_self]; exact o1, f1⟩
  case round =>
    clear o1 f1
    obtain ⟨x, hx, rfl, ho, hf⟩ := hrel
    have hF : Fr w wr := hfr.trans hf
    by_cases h0 : 0 < x
    · have hbox := hf.newCell (j := 0) (v := .slice p n1 c) rfl
      obtain ⟨bp, op, rfl, hcp⟩ := (hP.fr hF).cells.resolve_left (by omega)
      replace hcp := hcp x hx
      obtain ⟨y, hy⟩ := Int.eq_ofNat_of_zero_le (by have := (parB_iff.1 Hp.out).2 x (by rw [HP.out]; exact hx) h0; omega : 0 ≤ nth P x)
      have hyx : y < x := by have := (parB_iff.1 Hp.out).2 x (by rw [HP.out]; exact hx) h0; omega
      have HG : Hid (gathTo P A (n1 - 1 - (x - 1)) = (gathTo P A (n1 - 1 - x)).set y (nth (gathTo P A (n1 - 1 - x)) y + nth (gathTo P A (n1 - 1 - x)) x)) := Lib.hid (by
        rw [show n1 - 1 - (x - 1) = (n1 - 1 - x) + 1 by omega, gathTo, gathS, HP.out, show n1 - 1 - (n1 - 1 - x) = x by omega, hy]; simp)
      rw [hy] at hcp
      clear hy
      obtain ⟨g, rfl, hB, hlt2, hcc, hfro⟩ := ho.op (by omega)
      have hcx := hcc x hx
      have hcy := hcc y (by omega)
      replace hfro := hfro y
      clear hcc
      have b1 := hbd.out (n1 - 1 - x) (by omega) x
      have b2 := hbd.out (n1 - 1 - x) (by omega) y
      have i1 : (0 : Int) ≤ (x : Int) := by omega
      have i2 : (x : Int) < (n1 : Int) := by omega
      have i3 : (0 : Int) ≤ (y : Int) := by omega
      have i4 : (y : Int) < (n1 : Int) := by omega
      have hxd : decide (0 < x) = true := by simp; omega
      go_wp2
      have e1 : IntKind.i64.wrap (nth (gathTo P A (n1 - 1 - x)) y + nth (gathTo P A (n1 - 1 - x)) x) = nth (gathTo P A (n1 - 1 - x)) y + nth (gathTo P A (n1 - 1 - x)) x := IntWalk.i64_in _ (by omega)
      go_region
      clear e1
      go_wp2
      go_roundw
      case rel =>
        refine ⟨x - 1, by omega, congrArg (Value.int .i64) (by omega), ?_, ?_⟩
        · rw [HG.out]; exact (ho.drewN 1).set rfl (by omega) (by unfold I64; omega)
        · exact (hf.drew' 1).setCell (by simp; omega) _
      case measure => simp [intOf]; omega
    · obtain rfl : x = 0 := by omega
      have HM : Hid (gathTo P A (n1 - 1 - 0) = gathM P A) := Lib.hid (by rw [gathM, HP.out]; rfl)
      rw [HM.out] at ho
      go_wp2
      go_ret
      exact ⟨_, _, _, rfl, ho.mono (by omega), hF, by omega⟩

end Go.Proofs.Ytojipjjfndgbhaa
