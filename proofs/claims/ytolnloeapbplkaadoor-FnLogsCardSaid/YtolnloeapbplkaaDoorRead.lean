import Derived.Test.YtolnloeapbplkaaDoorOpn
/- The program's reading of a log. -/
set_option linter.unusedVariables false
namespace Go.Proofs.YtolnloeapbplkaaDoor
open Go.ChangeShapes Go.WideShapes Go.ChangeAt Go.RowKit

theorem Own.one {B : Nat} (w : World) (z : Int) (hB : B ≤ w.heap.size) (hz : I64 z) : Own B (w.alloc (.cells #[.int .i64 z] 3)) (some ⟨w.heap.size, 0, none⟩) 1 1 [z] :=
  ⟨⟨by simp, .inr ⟨w.heap.size, 1, #[.int .i64 z], rfl, hB, heap_alloc_new w _, Nat.le_refl _, by unfold maxLen; omega, by simp, by simp⟩⟩, fun y hy => by simp at hy; subst hy; exact hz⟩
/-- The record that the program reads of a line. -/
def xE (l : List UInt8) : List UInt8 × List UInt8 := (ahead 64 (behind 32 (veV l)), behind 64 (behind 32 (veV l)))
theorem xE_dec {j : Nat} {l : List UInt8} (h : decB j l = true) (hj : j < 100) : xE l = decE l := by
  have h1 := decB_text h
  have h2 := h
  rw [decB, Bool.and_eq_true, beq_iff_eq] at h2
  have hv : veOk l = true := by
    rw [veOk, h1, apOk_text h2.1 hj, h2.2]; simp
  rw [xE, veV, hv]; rfl
theorem xE_ok {j : Nat} {l : List UInt8} (h : recB (xE l) = true) : xE l = decE l := by
  cases hv : veOk l
  · have e : xE l = ([], []) := by rw [xE, veV, hv]; rfl
    rw [e] at h; exact absurd h (by decide)
  · rw [xE, veV, hv]; rfl
theorem read_dec {j : Nat} {l : List UInt8} (hj : j < 60) : decB j l = (enOk j (xE l) && (enV j (xE l) == l ++ [10])) := by
  have hi : inB (j : Int) 0 59 = true := inB_iff.2 ⟨by omega, by omega⟩
  have e1 : enOk (j : Int) (xE l) = recB (xE l) := by rw [enOk, hi]; rfl
  cases hr : recB (xE l)
  · rw [e1, hr]
    cases hd : decB j l
    · rfl
    · have h2 := hd
      rw [decB, Bool.and_eq_true] at h2
      rw [xE_dec hd (by omega), h2.1] at hr; cases hr
  · have he := xE_ok (j := j) hr
    have e2 : enV (j : Int) (xE l) = lineS j (xE l) := by rw [enV, e1, hr, Int.toNat_natCast]; rfl
    rw [e1, e2, decB_val, ← he]
/-- The ends of the records. -/
def endsL (rs : List (List UInt8 × List UInt8)) : List Int := (List.range (rs.length + 1)).map fun i => ((endS rs i : Nat) : Int)
theorem endsL_nil : endsL [] = [0] := rfl
theorem endsL_len (rs : List (List UInt8 × List UInt8)) : (endsL rs).length = rs.length + 1 := by simp [endsL]
theorem endsL_nth {rs : List (List UInt8 × List UInt8)} {i : Nat} (h : i ≤ rs.length) : nth (endsL rs) i = (endS rs i : Nat) := by
  have : i < rs.length + 1 := by omega
  simp [nth, endsL, this]
theorem endsL_last (rs : List (List UInt8 × List UInt8)) : nth (endsL rs) rs.length = ((lns 0 rs).length : Nat) := by
  rw [endsL_nth (Nat.le_refl _), endS, List.take_length]
theorem endsL_snoc (rs : List (List UInt8 × List UInt8)) (e : List UInt8 × List UInt8) : endsL (rs ++ [e]) = endsL rs ++ [((lns 0 (rs ++ [e])).length : Int)] := by
  rw [endsL, List.length_append, List.length_singleton, List.range_succ, List.map_append]
  congr 1
  · apply List.map_congr_left
    intro i hi
    rw [List.mem_range] at hi
    rw [endS, endS, List.take_append_of_le_length (by omega)]
  · simp only [List.map_cons, List.map_nil]
    rw [endS, List.take_of_length_le (by simp)]
theorem Env.m {w : World} (h : Env w) : ∃ m : Int, w.cell? ⟨0, 0, none⟩ = some (.int .i64 m) := h.2
theorem behind_le (b : UInt8) (l : List UInt8) : (behind b l).length ≤ l.length := by rw [behind, List.length_drop]; omega
theorem veV_le (l : List UInt8) : (veV l).length ≤ l.length := by
  rw [veV]; cases veOk l
  · exact Nat.zero_le _
  · exact ahead_le 35 l
theorem cut_bytes (s : ByteArray) (b : UInt8) : Lib.cut s.data.toList (⟨#[b]⟩ : ByteArray).data.toList = (ahead b (bl s), behind b (bl s), decide (b ∈ bl s)) := cut_one b (bl s)
theorem mk_bl {l : List UInt8} {q : ByteArray} (h : (⟨l.toArray⟩ : ByteArray) = q) : bl q = l := by rw [← h]; exact bl_ba _
theorem dec_true {p : Prop} [Decidable p] (h : p) : decide p = true := decide_eq_true h

/-- What the program has read of a log: a new slice of records, and the ends of them. -/
def RetRd (s : List UInt8) (w : World) (e : Ending) (w' : World) : Prop :=
  ∃ a n cap xs b d, e = .returned (.tuple #[.slice a n cap, .slice b (n + 1) d]) ∧ OwnR w.heap.size w' a n cap xs ∧ blR xs = rdA s ∧ Own w.heap.size w' b (n + 1) d (endsL (rdA s)) ∧ Fr w w'
theorem ReadTo.rd {s : List UInt8} {w w' : World} {xs : List (ByteArray × ByteArray)} {j q cc d : Nat} {a b : Option Addr} (h : ReadTo s (blR xs) j q) (hr : rdA s = blR xs) (ho : OwnR w.heap.size w' a j cc xs) (hb : Own w.heap.size w' b (j + 1) d (endsL (blR xs))) (f : Fr w w') :
    RetRd s w (.returned (.tuple #[.slice a j cc, .slice b (j + 1) d])) w' :=
  ⟨a, j, cc, xs, b, d, rfl, ho, hr.symm, by rw [hr]; exact hb, f⟩
set_option maxRecDepth 100000 in
set_option maxHeartbeats 400000 in
theorem readRecords_any (s : ByteArray) (w : World) (hs : s.size ≤ 1048576) (hE : Env w) :
    Calls Tryd.prog 65 #[.string s] w fun e w' => RetRd (bl s) w e w' := by
  have hmade := OwnR.made0 (B := w.heap.size) w (Nat.le_refl _)
  have hfa : Fr w (w.alloc (.cells #[] 25)) := (Fr.refl _).alloc _
  have hfb : Fr w ((w.alloc (.cells #[] 25)).alloc (.cells #[.int .i64 0] 3)) := hfa.alloc _
  have hmade2 := hmade.fr ((Fr.refl _).alloc (.cells #[.int .i64 0] 3))
  have hone := Own.one (B := w.heap.size) (w.alloc (.cells #[] 25)) 0 hfa.size (by constructor <;> omega)
  rw [show (w.alloc (.cells #[] 25)).heap.size = w.heap.size + 1 by simp] at hone
  have hs0 : (bl s).length = s.size := bl_len s
  obtain ⟨m, hm⟩ := hE.2
  go_enter Tryd.func65, Tryd.ntmps65
  go_wp2
  go_loopw [4, 5, 6] (fun v u i wr => ∃ (j q cc d : Nat) (a b : Option Addr) (xs : List (ByteArray × ByteArray)), ReadTo (bl s) (blR xs) j q ∧ i = .int .i64 q ∧ v = .slice a j cc ∧ u = .slice b (j + 1) d ∧ OwnR w.heap.size wr a j cc xs ∧ Own w.heap.size wr b (j + 1) d (endsL (blR xs)) ∧ Apart a b ∧ Fr w wr) (fun _ _ i _ => s.size - (intOf i).toNat)
  case atStart => exact ⟨0, 0, 0, 1, _, _, [], ReadTo.start _, rfl, rfl, rfl, hmade2, hone, (by intro k h1 h2; simp [blkOf] at h1 h2; omega), hfb⟩
  case round =>
    clear hmade hmade2 hone hfa hfb
    obtain ⟨j, q, cc, d, a, b, xs, hR, rfl, rfl, rfl, ho, hb, hap, hF⟩ := hrel
    have hql : q ≤ s.size := by have := hR.2.2.1; omega
    have hj60 : j ≤ 60 := hR.2.1
    have HR := Lib.hid hR
    have HO := Lib.hid ho
    have HB := Lib.hid hb
    have hbl0 := ho.blk
    have hbl1 := hb.blk
    clear hR ho hb
    by_cases hj : j < 60
    · have hm1 := hF.keep hm
      go_wp2_with fail
      have HX : Hid (bl (s.extract q s.size) = (bl s).drop q) := Lib.hid (bl_tail s q hql)
      have hrz : (s.extract q s.size).size = s.size - q := by rw [ByteArray.size_extract]; omega
      generalize s.extract q s.size = r at HX hrz ⊢
      refine (Tryd.strings_Cut r ⟨#[10]⟩ m _ (by omega) hm1).mono ?_
      rintro e w1 ⟨rfl, k1, rfl⟩
      rw [cut_bytes]
      dsimp only
      generalize hq1 : (⟨(ahead 10 (bl r)).toArray⟩ : ByteArray) = tx
      generalize (⟨(behind 10 (bl r)).toArray⟩ : ByteArray) = rb
      have Htb : Hid (bl tx = ahead 10 ((bl s).drop q)) := Lib.hid (by rw [mk_bl hq1, HX.out])
      have htz : tx.size ≤ r.size := by rw [← bl_len, ← bl_len, mk_bl hq1]; exact ahead_le 10 (bl r)
      clear hq1
      have f1 : Fr wr (wr.drewN k1) := Fr.drewN _ _
      have HF1 := Lib.hid (hF.trans f1)
      cases hw : decide ((10 : UInt8) ∈ bl r)
      · have hcut := HR.out.cut (fun h => by rw [decide_eq_false_iff_not, HX.out] at hw; exact hw h.1)
        have HRET := Lib.hid (fun w' (f : Fr (wr.drewN k1) w') => HR.out.rd hcut (HO.out.fr (f1.trans f)) (HB.out.fr (f1.trans f)) (HF1.out.trans f))
        clear hcut HR HO HB hql hj60 hw
        go_wp2
        go_ret2
        exact HRET.out _ (Fr.refl _)
      · have h10 := Lib.hid (show (10 : UInt8) ∈ (bl s).drop q by rw [decide_eq_true_eq, HX.out] at hw; exact hw)
        clear hw
        have HE1 := Lib.hid (hE.fr HF1.out)
        have hm1' := f1.keep hm1
        clear hm1
        go_wp2_with fail
        refine (VerifyChecksum_any tx _ (by omega) HE1.out).mono ?_
        rintro e w2 ⟨rfl, f2⟩
        generalize hq1 : ba (veV (bl tx)) = t1
        have HT1 : Hid (bl t1 = veV (bl tx)) := Lib.hid (by rw [← hq1, bl_ba])
        have ht1 : t1.size ≤ tx.size := by rw [← hq1, ba_size, ← bl_len]; exact veV_le _
        generalize veOk (bl tx) = vk
        clear hq1
        have HF2 := Lib.hid (HF1.out.trans f2)
        have hm2 := f2.keep hm1'
        clear hm1' HE1
        go_wp2_with fail
        refine (Tryd.strings_Cut t1 ⟨#[32]⟩ m _ (by omega) hm2).mono ?_
        rintro e w3 ⟨rfl, k3, rfl⟩
        rw [cut_bytes]
        dsimp only
        generalize (⟨(ahead 32 (bl t1)).toArray⟩ : ByteArray) = x1
        generalize hq1 : (⟨(behind 32 (bl t1)).toArray⟩ : ByteArray) = t2
        generalize decide ((32 : UInt8) ∈ bl t1) = d1
        have HT2 : Hid (bl t2 = behind 32 (veV (bl tx))) := Lib.hid (by rw [mk_bl hq1, HT1.out])
        have ht2 : t2.size ≤ tx.size := by rw [← bl_len, mk_bl hq1]; have := behind_le 32 (bl t1); rw [bl_len] at this; omega
        clear hq1 HT1 ht1
        have f3 : Fr w2 (w2.drewN k3) := Fr.drewN _ _
        have HF3 := Lib.hid (HF2.out.trans f3)
        have hm3 := f3.keep hm2
        clear hm2
        go_wp2_with fail
        refine (Tryd.strings_Cut t2 ⟨#[64]⟩ m _ (by omega) hm3).mono ?_
        rintro e w4 ⟨rfl, k4, rfl⟩
        rw [cut_bytes]
        dsimp only
        generalize hq1 : (⟨(ahead 64 (bl t2)).toArray⟩ : ByteArray) = x
        generalize hq2 : (⟨(behind 64 (bl t2)).toArray⟩ : ByteArray) = y
        generalize decide ((64 : UInt8) ∈ bl t2) = d2
        have HXY : Hid ((bl x, bl y) = xE (bl tx)) := Lib.hid (by rw [mk_bl hq1, mk_bl hq2, HT2.out, xE])
        have hxz : x.size ≤ tx.size := by rw [← bl_len, mk_bl hq1]; have := ahead_le 64 (bl t2); rw [bl_len] at this; omega
        have hyz : y.size ≤ tx.size := by rw [← bl_len, mk_bl hq2]; have := behind_le 64 (bl t2); rw [bl_len] at this; omega
        clear hq1 hq2 HT2 ht2
        have f4 : Fr (w2.drewN k3) ((w2.drewN k3).drewN k4) := Fr.drewN _ _
        have f24 := (f1.trans f2).trans (f3.trans f4)
        have HF4 := Lib.hid (HF3.out.trans f4)
        generalize (w2.drewN k3).drewN k4 = w4 at f4 f24 HF4 ⊢
        have C := Box.new w4 #[.string x, .string y] 25
        have c0 := C.cell (j := 0) (v := .string x) rfl
        have c1 := C.cell (j := 1) (v := .string y) rfl
        have f5 : Fr w4 (w4.alloc (.cells #[.string x, .string y] 25)) := (Fr.refl _).alloc _
        have HE5 := Lib.hid (hE.fr (HF4.out.trans f5))
        clear C hm3
        go_wp2_with fail
        refine (EncodeRecord_any j x y _ (by omega) (by omega) HE5.out).mono ?_
        rw [HXY.out]
        rintro e w6 ⟨rfl, f6⟩
        replace c0 := f6.keep c0
        replace c1 := f6.keep c1
        have f26 := (f24.trans f5).trans f6
        have HF6 := Lib.hid (hF.trans f26)
        have HO6 := Lib.hid (HO.out.fr f26)
        have HB6 := Lib.hid (HB.out.fr f26)
        have HD := Lib.hid (read_dec (l := bl tx) hj)
        generalize hq1 : ba (enV j (xE (bl tx))) = g
        have hgb : bl g = enV j (xE (bl tx)) := by rw [← hq1, bl_ba]
        clear hq1
        have a1 := fun W => run_string_add_sum (P := Tryd.prog) W tx ⟨#[10]⟩ (by have : (⟨#[10]⟩ : ByteArray).size = 1 := rfl; omega)
        have htn : bl (tx ++ ⟨#[10]⟩) = bl tx ++ [10] := by rw [bl_app]; rfl
        cases hk : enOk j (xE (bl tx))
        · have hcut := HR.out.cut (fun h => by rw [← Htb.out, HD.out, hk] at h; cases h.2)
          have HRET := Lib.hid (fun w' (f : Fr w6 w') => HR.out.rd hcut (HO6.out.fr f) (HB6.out.fr f) (HF6.out.trans f))
          clear hcut HR HO HB hql hj60 hk HD hgb htn
          go_wp2
          go_ret2
          exact HRET.out _ (Fr.refl _)
        · cases hg : (bl g == bl tx ++ [10])
          · have hcut := HR.out.cut (fun h => by rw [← Htb.out, HD.out, hk, ← hgb, hg] at h; cases h.2)
            have HRET := Lib.hid (fun w' (f : Fr w6 w') => HR.out.rd hcut (HO6.out.fr f) (HB6.out.fr f) (HF6.out.trans f))
            have hb : (!(g.toList == (tx ++ ⟨#[10]⟩).toList)) = true := by rw [str_eq, htn, hg]; rfl
            clear hcut HR HO HB hql hj60 hk HD hgb htn hg
            go_wp2
            go_ret2
            exact HRET.out _ (Fr.refl _)
          · have hd : decB j (bl tx) = true := by rw [HD.out, hk, ← hgb, hg]; rfl
            have HNX := Lib.hid (show ReadTo (bl s) (blR (xs ++ [(x, y)])) (j + 1) (q + tx.size + 1) by
              have h := HR.out.next hj h10.out (by rw [← Htb.out]; exact hd)
              rw [← Htb.out, ← xE_dec hd (by omega), ← HXY.out, bl_len] at h
              rw [blR_snoc]; exact h)
            have hb : (g.toList == (tx ++ ⟨#[10]⟩).toList) = true := by rw [str_eq, htn, hg]
            have hb2 : (g.toList != (tx ++ ⟨#[10]⟩).toList) = false := by rw [bne, hb]; rfl
            have hqt : q + tx.size + 1 ≤ s.size := by have := HNX.out.2.2.1; omega
            have e1 : IntKind.i64.wrap ((tx.size : Int) + 1) = (tx.size : Int) + 1 := IntWalk.i64_in _ (by omega)
            have e2 : IntKind.i64.wrap ((q : Int) + ((tx.size : Int) + 1)) = (q : Int) + ((tx.size : Int) + 1) := IntWalk.i64_in _ (by omega)
            have D := Box.new w6 #[.string x, .string y] 25
            have d0 := D.cell (j := 0) (v := .string x) rfl
            have d1 := D.cell (j := 1) (v := .string y) rfl
            have f7 : Fr w6 (w6.alloc (.cells #[.string x, .string y] 25)) := (Fr.refl _).alloc _
            clear HR HO HB hql hk HD hgb htn hg D hd
            go_wp2_with (at_builtin; refine ap_rec _ rfl _ _ rfl w.heap.size a j cc xs x y w6.heap.size rfl rfl (HO6.out.fr f7) (HF6.out.trans f7).size d0 d1 (by omega) (w6.heap.size + 1) (by simp) ?_)
            intro ga c' w8 p1 p2 p3
            have HF8 := (HF6.out.trans f7).grown p2 (fun z hz => (hbl0 z hz).1)
            have hba : blkOf b = none ∨ blkOf b ≠ blkOf a := by
              cases h : blkOf b with
              | none => exact .inl rfl
              | some z => exact .inr fun e => hap z e.symm h
            have HB8 := (HB6.out.fr f7).grown p2 hba
            have hga : blkOf b ≠ some ga := fun e => by
              rcases p3 with h | h
              · exact hap ga h e
              · have h1 := (hbl1 ga e).2; have h2 := f26.size; omega
            have hgl := (p1.blk ga rfl).2
            clear hba p3 f7 c0 c1 d0 d1 hap
            go_wp2_with (at_builtin; refine ap_int _ rfl _ _ rfl w.heap.size b (j + 1) d (endsL (blR xs)) _ rfl rfl HB8 HF8.size (by constructor <;> omega) (by omega) ?_)
            intro gb c9 w9 r1 r2 r3
            have HF9 := HF8.grown r2 (fun z hz => (hbl1 z hz).1)
            have HO9 := p1.grown r2 (.inr fun e => hga e.symm)
            have HE9 : Own w.heap.size w9 (some ⟨gb, 0, none⟩) (j + 1 + 1) c9 (endsL (blR (xs ++ [(x, y)]))) := by
              rw [blR_snoc, endsL_snoc, ← blR_snoc, ← HNX.out.2.2.2.1]
              have e3 : ((q + tx.size + 1 : Nat) : Int) = (q : Int) + ((tx.size : Int) + 1) := by omega
              rw [e3]; exact r1
            have hapn : Apart (some ⟨ga, 0, none⟩) (some ⟨gb, 0, none⟩) := fun k h1 h2 => by
              simp only [blkOf, Option.map_some, Option.some.injEq] at h1 h2
              subst h1; subst h2
              rcases r3 with h | h
              · exact hga h
              · omega
            go_wp2
            go_roundw
            case rel => exact ⟨j + 1, q + tx.size + 1, c', c9, _, _, _, HNX.out, by go_num, rfl, rfl, HO9, HE9, hapn, HF9⟩
            case measure => simp [intOf]; omega
    · have HRET := Lib.hid (fun w' (f : Fr wr w') => HR.out.rd (HR.out.full hj) (HO.out.fr f) (HB.out.fr f) (hF.trans f))
      have hji : ¬ (j : Int) < 60 := by omega
      clear HR HO HB
      go_wp2
      go_ret2
      exact HRET.out _ (Fr.refl _)

end Go.Proofs.YtolnloeapbplkaaDoor
