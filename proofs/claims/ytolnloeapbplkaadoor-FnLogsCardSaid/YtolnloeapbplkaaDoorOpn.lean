import Derived.Test.YtolnloeapbplkaaDoorRecs
/- The reference's reading of a log. -/
set_option linter.unusedVariables false
namespace Go.Proofs.YtolnloeapbplkaaDoor
open Go.ChangeShapes Go.WideShapes Go.ChangeAt Go.RowKit

/-- j records have been read, up to byte q. -/
def ReadTo (s : List UInt8) (rs : List (List UInt8 × List UInt8)) (j q : Nat) : Prop := j = rs.length ∧ j ≤ 60 ∧ q ≤ s.length ∧ q = (lns 0 rs).length ∧ rdA s = rs ++ rdL (60 - j) j (s.drop q)
theorem ReadTo.start (s : List UInt8) : ReadTo s [] 0 0 := ⟨rfl, by omega, by omega, rfl, by simp [rdA]⟩
theorem ReadTo.next {s : List UInt8} {rs : List (List UInt8 × List UInt8)} {j q : Nat} (h : ReadTo s rs j q) (hj : j < 60) (h10 : (10 : UInt8) ∈ s.drop q) (hd : decB j (ahead 10 (s.drop q)) = true) :
    ReadTo s (rs ++ [decE (ahead 10 (s.drop q))]) (j + 1) (q + (ahead 10 (s.drop q)).length + 1) := by
  obtain ⟨h1, h2, h3, h4, h5⟩ := h
  have hl := ahead_lt h10
  rw [List.length_drop] at hl
  have hd' := hd
  rw [decB, Bool.and_eq_true, beq_iff_eq] at hd'
  refine ⟨by simp [h1], by omega, by omega, ?_, ?_⟩
  · rw [lns_append, List.length_append, ← h4, lns, lns, List.append_nil, Nat.zero_add, ← h1, lineS, hd'.2, List.length_append]; simp; omega
  · rw [h5, show 60 - j = (60 - (j + 1)) + 1 by omega, rdL, if_pos ⟨h10, hd⟩, List.append_assoc, List.singleton_append, behind, List.drop_drop]
    rfl
theorem ReadTo.full {s : List UInt8} {rs : List (List UInt8 × List UInt8)} {j q : Nat} (h : ReadTo s rs j q) (hj : ¬ j < 60) : rdA s = rs := by
  obtain ⟨h1, h2, h3, h4, h5⟩ := h
  rw [h5, show 60 - j = 0 by omega, rdL, List.append_nil]
theorem ReadTo.done {s : List UInt8} {rs : List (List UInt8 × List UInt8)} {j q : Nat} (h : ReadTo s rs j q) (hq : s.length ≤ q) : rdA s = rs := by
  obtain ⟨h1, h2, h3, h4, h5⟩ := h
  rw [h5, List.drop_of_length_le hq, rdL_nil, List.append_nil]
theorem ReadTo.cut {s : List UInt8} {rs : List (List UInt8 × List UInt8)} {j q : Nat} (h : ReadTo s rs j q) (hn : ¬ ((10 : UInt8) ∈ s.drop q ∧ decB j (ahead 10 (s.drop q)) = true)) : rdA s = rs := by
  obtain ⟨h1, h2, h3, h4, h5⟩ := h
  rw [h5]
  cases hk : 60 - j with
  | zero => rw [rdL, List.append_nil]
  | succ f => rw [rdL, if_neg hn, List.append_nil]

/-- What has been read of a log: a new slice of records, and where the last one ends. -/
def RetLog (s : List UInt8) (w : World) (e : Ending) (w' : World) : Prop :=
  ∃ a n cap xs, e = .returned (.tuple #[.slice a n cap, .int .i64 ((lns 0 (rdA s)).length : Nat)]) ∧ OwnR w.heap.size w' a n cap xs ∧ blR xs = rdA s ∧ Fr w w'
theorem ReadTo.ret {s : List UInt8} {w w' : World} {xs : List (ByteArray × ByteArray)} {j q l cc : Nat} {a : Option Addr} (h : ReadTo s (blR xs) j q) (hr : rdA s = blR xs) (ho : OwnR w.heap.size w' a l cc xs) (f : Fr w w') :
    RetLog s w (.returned (.tuple #[.slice a l cc, .int .i64 q])) w' :=
  ⟨a, l, cc, xs, by rw [hr, ← h.2.2.2.1], ho, hr.symm, f⟩
set_option maxRecDepth 100000 in
theorem l12Open_any (s : ByteArray) (w : World) (hs : s.size ≤ 1048576) :
    Calls Tryd.prog 67 #[.string s] w fun e w' => RetLog (bl s) w e w' := by
  have hmade := OwnR.made0 (B := w.heap.size) w (Nat.le_refl _)
  have hfa : Fr w (w.alloc (.cells #[] 25)) := (Fr.refl _).alloc _
  have hs0 : (bl s).length = s.size := bl_len s
  go_enter Tryd.func67, Tryd.ntmps67
  go_wp2
  go_loopw [4, 5] (fun v i wr => ∃ (j q l cc : Nat) (a : Option Addr) (xs : List (ByteArray × ByteArray)), ReadTo (bl s) (blR xs) j q ∧ l = j ∧ i = .int .i64 q ∧ v = .slice a l cc ∧ OwnR w.heap.size wr a l cc xs ∧ Fr w wr) (fun _ i _ => s.size - (intOf i).toNat)
  case atStart => exact ⟨0, 0, 0, 0, _, [], ReadTo.start _, rfl, rfl, rfl, hmade, hfa⟩
  case round =>
    clear hmade hfa
    obtain ⟨j, q, l, cc, a, xs, hR, hlj, rfl, rfl, ho, hF⟩ := hrel
    have hql : q ≤ s.size := by have := hR.2.2.1; omega
    have hj60 : j ≤ 60 := hR.2.1
    subst hlj
    have HR := Lib.hid hR
    have HO := Lib.hid ho
    have hbl0 := ho.blk
    clear hR ho
    by_cases hq : q < s.size
    · by_cases hj : l < 60
      · go_wp2_with fail
        have HB : Hid (bl (s.extract q s.size) = (bl s).drop q) := Lib.hid (bl_tail s q hql)
        have hrz : (s.extract q s.size).size = s.size - q := by rw [ByteArray.size_extract]; omega
        generalize s.extract q s.size = r at HB hrz ⊢
        refine (l1Split_any r 10 10 rfl _ (by omega)).mono ?_
        rintro e w2 ⟨a', n', cap', ps, rfl, hp, ⟨hp0, hpn⟩, f2, hn2⟩
        have hl := hp.len
        have hn1 : 0 < n' := by
          rcases ps with _ | ⟨x, ps⟩
          · simp at hp0
          · simp at hl; omega
        obtain ⟨g, rfl, hg⟩ := hp.op hn1
        have hc := hp.cellAt rfl hp0
        have hF2 := hF.trans f2
        have O2 := Lib.hid (HO.out.fr f2)
        obtain ⟨tx, htx⟩ : ∃ tx, ba (ahead 10 (bl r)) = tx := ⟨_, rfl⟩
        rw [htx] at hc
        have Htb : Hid (bl tx = ahead 10 ((bl s).drop q)) := Lib.hid (by rw [← htx, bl_ba, HB.out])
        have htz : tx.size ≤ s.size - q := by rw [← hrz, ← htx, ba_size]; have := ahead_le 10 (bl r); rwa [bl_len] at this
        have HN : Hid (2 ≤ n' ↔ (10 : UInt8) ∈ (bl s).drop q) := Lib.hid (by rw [← hl, ← HB.out]; exact hpn)
        clear htx hp0 hpn hp hl HO hF f2 hn2
        go_wp2_with fail
        refine (l12Decode_any l tx _ (by omega) (by omega)).mono ?_
        rintro e w3 ⟨x, y, rfl, hD, f3⟩
        have O3 := Lib.hid (O2.out.fr f3)
        have hF3 := hF2.trans f3
        have hc3 := f3.keep hc
        clear O2 hF2 hc f3
        by_cases h2 : n' < 2
        · have hcut := HR.out.cut (fun h => by have := HN.out.2 h.1; omega)
          have HRET := Lib.hid (fun w' (f : Fr w3 w') => HR.out.ret hcut (O3.out.fr f) (hF3.trans f))
          clear hcut
          have h2i : (n' : Int) < 2 := by omega
          clear hD HN HR hql hj60
          go_wp2
          go_ret2
          exact HRET.out _ ((Fr.refl _).alloc _)
        · have h2i : ¬ (n' : Int) < 2 := by omega
          have h10 : (10 : UInt8) ∈ (bl s).drop q := HN.out.1 (by omega)
          cases hd : decB l (bl tx)
          · have hcut := HR.out.cut (fun h => by rw [← Htb.out, hd] at h; cases h.2)
            have HRET := Lib.hid (fun w' (f : Fr w3 w') => HR.out.ret hcut (O3.out.fr f) (hF3.trans f))
            clear hcut hD HN HR hql hj60 hd h10
            go_wp2
            go_ret2
            exact HRET.out _ ((Fr.refl _).alloc _)
          · have HNX := Lib.hid (show ReadTo (bl s) (blR (xs ++ [(x, y)])) (l + 1) (q + tx.size + 1) by
              have h := HR.out.next hj h10 (by rw [← Htb.out]; exact hd)
              rw [← Htb.out, hD hd, bl_len] at h
              rw [blR_snoc]; exact h)
            have C := Box.new w3 #[.string x, .string y] 25
            have c0 := C.cell (j := 0) (v := .string x) rfl
            have c1 := C.cell (j := 1) (v := .string y) rfl
            have hF4 : Fr w3 (w3.alloc (.cells #[.string x, .string y] 25)) := (Fr.refl _).alloc _
            have HS := Lib.hid hF3.size
            have hqt : q + tx.size + 1 ≤ s.size := by have := HNX.out.2.2.1; omega
            have e1 : IntKind.i64.wrap ((q : Int) + (tx.size : Int)) = (q : Int) + (tx.size : Int) := IntWalk.i64_in _ (by omega)
            have e2 : IntKind.i64.wrap ((q : Int) + (tx.size : Int) + 1) = (q : Int) + (tx.size : Int) + 1 := IntWalk.i64_in _ (by omega)
            have O4 := Lib.hid ((O3.out.fr hF4).fr ((Fr.refl _).alloc (.cells #[.string x, .string y] 25)))
            have hF5 : Fr w3 ((w3.alloc (.cells #[.string x, .string y] 25)).alloc (.cells #[.string x, .string y] 25)) := hF4.alloc _
            have hc5 := hF5.keep hc3
            have D := Box.new (w3.alloc (.cells #[.string x, .string y] 25)) #[.string x, .string y] 25
            rw [show (w3.alloc (.cells #[.string x, .string y] 25)).heap.size = w3.heap.size + 1 by simp] at D
            have d0 := D.cell (j := 0) (v := .string x) rfl
            have d1 := D.cell (j := 1) (v := .string y) rfl
            have hbl := O3.out.blk
            clear hD HN HR hql hd h10 C D
            go_wp2_with (at_builtin; go_loud (refine ap_rec _ rfl _ _ rfl w.heap.size a l cc xs x y (w3.heap.size + 1) rfl rfl (O3.out.fr hF5) (hF3.trans hF5).size d0 d1 (by omega) (w3.heap.size + 1 + 1) (by simp) ?_))
            intro ga c' w5 k1 k2 _
            have hF6 := (hF3.trans hF5).grown k2 (fun z hz => (hbl z hz).1)
            have hc6 : w5.cell? ⟨g, 0, none⟩ = some (.string tx) := k2.cell hc5 (fun e => by have := (hbl0 g e.symm).2; omega)
            go_wp2
            go_roundw
            case rel => exact ⟨l + 1, q + tx.size + 1, l + 1, c', _, _, HNX.out, rfl, by go_num, rfl, k1, hF6⟩
            case measure => simp [intOf]; omega
      · have hji : ¬ (l : Int) < 60 := by omega
        have HRET := Lib.hid (fun w' (f : Fr wr w') => HR.out.ret (HR.out.full hj) (HO.out.fr f) (hF.trans f))
        clear HR
        go_wp2
        go_ret2
        exact HRET.out _ (Fr.refl _)
    · have HRET := Lib.hid (fun w' (f : Fr wr w') => HR.out.ret (HR.out.done (by omega)) (HO.out.fr f) (hF.trans f))
      clear HR
      go_wp2
      go_ret2
      exact HRET.out _ (Fr.refl _)

end Go.Proofs.YtolnloeapbplkaaDoor
