import Derived.Test.YtojipjjfndgbhaaHalves
import Derived.Deep.DeepMust
/- Draws for the largest numbers on the way. -/
set_option linter.unusedVariables false
namespace Go.Proofs.Ytojipjjfndgbhaa
open Go.ChangeShapes Go.WideShapes Go.ChangeAt Go.RowKit
theorem results_TSS {fn : Func} {k r s : Nat} (hr : fn.results = #[.cell k 29, .tmp r, .tmp s]) (tmps : Array Value) (w : World) (g : Nat) (v0 v1 : Value) (bb cc : Value) (h : tmps[k]?.getD undef = .pointer (some ⟨g, 0, none⟩)) (hb : tmps[r]?.getD undef = bb) (hc : tmps[s]?.getD undef = cc)
    (h0 : w.cell? ⟨g, 0, none⟩ = some v0) (h1 : w.cell? ⟨g, 1, none⟩ = some v1) : (results fn tmps).run Try.prog w = .ok (.tuple #[.agg #[v0, v1], bb, cc]) w := by
  simp [results, hr, go_sem, h, hb, hc, h0, h1]
theorem TrR.dr {B g A : Nat} {w w' : World} {p : Option Addr} {n c : Nat} {q : Option Addr} {m d : Nat} {a : Option Addr} {k j : Nat} (h : TrR B w p n c q m d a k j) (E : Dr g A w w') (hg : g < B) : TrR B w' p n c q m d a k j := by
  obtain ⟨⟨P, h1⟩, ⟨W, h2⟩, ⟨X, h3⟩, h4, h5, h6⟩ := h
  exact ⟨⟨P, E.own h1 hg⟩, ⟨W, E.own h2 hg⟩, ⟨X, E.own h3 hg⟩, h4, h5, h6⟩
theorem TrR.fr {B : Nat} {w w' : World} {p : Option Addr} {n c : Nat} {q : Option Addr} {m d : Nat} {a : Option Addr} {k j : Nat} (h : TrR B w p n c q m d a k j) (E : Fr w w') : TrR B w' p n c q m d a k j := by
  obtain ⟨⟨P, h1⟩, ⟨W, h2⟩, ⟨X, h3⟩, h4, h5, h6⟩ := h
  exact ⟨⟨P, h1.fr E⟩, ⟨W, h2.fr E⟩, ⟨X, h3.fr E⟩, h4, h5, h6⟩
/-- The tree is stored in the result's box. -/
theorem TrR.done {B B0 : Nat} {wr : World} {r : Nat} {p : Option Addr} {n c : Nat} {q : Option Addr} {m d : Nat} {a : Option Addr} {k j : Nat} {T : TypeId} {v0 v1 : Value} (h : TrR B wr p n c q m d a k j) (H : Blk wr r #[v0, v1] T) (hr : r < B) (hB : B0 ≤ B) :
    Blk ((wr.setCell ⟨r, 0, none⟩ (.slice p n c)).setCell ⟨r, 1, none⟩ (.slice q m d)) r #[.slice p n c, .slice q m d] T ∧ TrR B0 ((wr.setCell ⟨r, 0, none⟩ (.slice p n c)).setCell ⟨r, 1, none⟩ (.slice q m d)) p n c q m d a k j := by
  obtain ⟨⟨P, h2⟩, ⟨W, h3⟩, ⟨X, h4⟩, h6, h7, hle⟩ := h
  have E := (H.set 0 (.slice p n c)).set 1 (.slice q m d)
  simp only [List.setIfInBounds_toArray, List.set_cons_zero, List.set_cons_succ] at E
  have n1 : blkOf p ≠ some r := fun e => by have := (h2.blk r e).1; omega
  have n2 : blkOf q ≠ some r := fun e => by have := (h3.blk r e).1; omega
  have n3 : blkOf a ≠ some r := fun e => by have := (h4.blk r e).1; omega
  exact ⟨E, ⟨⟨P, ((h2.setOther (p := ⟨r, 0, none⟩) n1 _).setOther (p := ⟨r, 1, none⟩) n1 _).mono (by omega)⟩, ⟨W, ((h3.setOther (p := ⟨r, 0, none⟩) n2 _).setOther (p := ⟨r, 1, none⟩) n2 _).mono (by omega)⟩, ⟨X, ((h4.setOther (p := ⟨r, 0, none⟩) n3 _).setOther (p := ⟨r, 1, none⟩) n3 _).mono (by omega)⟩, h6, h7, hle⟩⟩
theorem HvI.trR {φ ψ : List Int → Prop} {w wr : World} {g A gt : Nat} {p : Option Addr} {n c : Nat} {q : Option Addr} {m d : Nat} {a : Option Addr} {k j : Nat} (h : HvI φ ψ w g A gt p n c q m d a k j wr) (hle : n ≤ 25 ∧ m ≤ 50 ∧ k ≤ 25) : TrR w.heap.size wr p n c q m d a k j := by
  obtain ⟨h1, ⟨P, h2, h2'⟩, ⟨W, h3⟩, ⟨X, h4, h4'⟩, h5, h6, h7, h8, h9⟩ := h
  exact ⟨⟨P, h2⟩, ⟨W, h3⟩, ⟨X, h4⟩, h6, h7, hle⟩
theorem TrR.hvI {w wr : World} {g A : Nat} {p : Option Addr} {n c : Nat} {q : Option Addr} {m d : Nat} {a : Option Addr} {k j : Nat} (h : TrR w.heap.size wr p n c q m d a k j) (D : Dr g A w wr) : HvI (fun _ => True) (fun _ => True) w g A wr.heap.size p n c q m d a k j (wr.alloc (.cells #[.slice p n c, .slice q m d] 29)) := by
  obtain ⟨⟨P, h2⟩, ⟨W, h3⟩, ⟨X, h4⟩, h6, h7, hle⟩ := h
  have f := (Fr.refl wr).alloc (.cells #[.slice p n c, .slice q m d] 29)
  exact ⟨Blk.new _ _ _, ⟨P, h2.fr f, trivial⟩, ⟨W, h3.fr f⟩, ⟨X, h4.fr f, trivial⟩, fun e => by have := (h4.blk _ e).2; omega, h6, h7, D.fr f, D.size⟩
set_option maxRecDepth 100000 in
theorem DrawLargestMean_any (w : World) (a : Option Addr) (n cap : Nat) (zs : List Int) (h : SLB w a n cap zs) :
    Calls Try.prog 53 #[.slice a n cap] w fun e w' => ∃ (p : Option Addr) (n c : Nat) (q : Option Addr) (m d : Nat) (a : Option Addr) (k j : Nat), e = .returned (.tuple #[.agg #[.slice p n c, .slice q m d], .slice a k j]) ∧ TrR w.heap.size w' p n c q m d a k j ∧ Fr w w' := by
  have f0 := (Fr.refl w).alloc (.cells #[.slice none 0 0, .slice none 0 0] 29)
  have D0 := Dr.start (h.fr f0)
  have HB := (Blk.new w #[.slice none 0 0, .slice none 0 0] 29).alloc (.cells #[.slice a n cap, .int .i64 0, .int .u64 0] 110)
  have HE : Hid (∀ (A : Nat) (w' : World), Dr (w.alloc (.cells #[.slice none 0 0, .slice none 0 0] 29)).heap.size A ((w.alloc (.cells #[.slice none 0 0, .slice none 0 0] 29)).alloc (.cells #[.slice a n cap, .int .i64 0, .int .u64 0] 110)) w' → Fr w w') := Lib.hid fun A w' h => f0.trans (h.ends rfl)
  have hg : w.heap.size + 1 < ((w.alloc (.cells #[.slice none 0 0, .slice none 0 0] 29)).alloc (.cells #[.slice a n cap, .int .i64 0, .int .u64 0] 110)).heap.size := by simp
  clear h f0
  rw [World.size_alloc] at D0 HE
  go_enter Try.func53, Try.ntmps53
  go_upto_region 2 with fail
  generalize (w.alloc (.cells #[.slice none 0 0, .slice none 0 0] 29)).alloc (.cells #[.slice a n cap, .int .i64 0, .int .u64 0] 110) = v0 at D0 HB HE hg ⊢
  go_wp2_with fail
  refine (halves_dr _ D0 (by omega)).mono ?_
  rintro e w1 ⟨p, n, c, q, m, d, a, k, j, rfl, R, D1, E1⟩
  have HBH := Lib.hid HB
  have hle := R.le
  have S0 := R.hvI D1
  clear D0 HB E1 R D1
  generalize hgt : w1.heap.size = gt at S0
  go_wp2
  clear hgt
  generalize w1.alloc _ = w2 at S0 ⊢
  go_loopw [7] (fun i wr => ∃ x : Nat, x ≤ k ∧ i = .int .i64 x ∧ HvI (fun _ => True) (fun _ => True) v0 (w.heap.size + 1) (0 + 1000 + 2 * x) gt p n c q m d a k j wr) (fun i _ => k - (intOf i).toNat)
  case atStart => exact ⟨0, Nat.zero_le _, rfl, S0⟩
  case round =>
    clear S0
    obtain ⟨x, hx, rfl, S⟩ := hrel
    obtain ⟨wo, rfl⟩ : ∃ wo : World, wo = wr := ⟨_, rfl⟩
    have vx0 : (0 : Int) ≤ (x : Int) := by omega
    by_cases hlt : x < k
    · have vx : (x : Int) < (k : Int) := by omega
      go_wp2_with fail
      refine (one_dr _ 30 S.D (by omega) (by unfold I64; omega)).mono ?_
      rintro e w3 ⟨b, rfl, D3, E3⟩
      have S3 := S.step hg E3
      clear S D3 E3
      cases b
      · obtain ⟨X, oX, _⟩ := S3.ox
        obtain ⟨ga, rfl, _, _, qX, zX⟩ := oX.op (by omega)
        replace qX := qX x hlt
        replace zX := zX x
        have hI := oX.sl.rngAt x
        generalize nth X x = t at qX hI
        clear oX
        go_wp2_with fail
        refine (l1Least_any _ _ _).mono ?_
        rintro e w' ⟨rfl, rfl⟩
        have S4 := S3.setX hg hlt (v := min (wrap64 (t + 10)) 999) (by unfold I64 wrap64; omega)
        clear S3
        go_wp2
        go_roundw
        case rel => exact ⟨x + 1, by omega, by go_num, S4.mono (by omega)⟩
        case measure => simp [intOf]; omega
      · have HB2 := S3.D.blk HBH.out (by omega)
        have R3 := S3.trR hle
        have f0 := HB2.free 0; have f1 := HB2.free 1
        have i0 := HB2.cell (j := 0) rfl; have i1 := HB2.cell (j := 1) rfl
        have c0 := S3.B.cell (j := 0) rfl; have c1 := S3.B.cell (j := 1) rfl
        have FIN := Lib.hid (And.intro (R3.done HB2 (by omega) (show w.heap.size ≤ v0.heap.size by omega)) (((HE.out _ _ S3.D).setCell (p := ⟨w.heap.size, 0, none⟩) (Nat.le_refl _) (.slice p n c)).setCell (p := ⟨w.heap.size, 1, none⟩) (Nat.le_refl _) (.slice q m d)))
        clear S3 HB2 R3
        go_wp2
        refine bodyPost_ret (results_TS Try.results53 _ _ w.heap.size (.slice p n c) (.slice q m d) _ rfl rfl (FIN.out.1.1.cell rfl) (FIN.out.1.1.cell rfl)) rfl ?_
        exact ⟨_, _, _, _, _, _, _, _, _, rfl, FIN.out.1.2, FIN.out.2⟩
    · have vx : ¬ (x : Int) < (k : Int) := by omega
      have S3 := S
      have HB2 := S3.D.blk HBH.out (by omega)
      have R3 := S3.trR hle
      have f0 := HB2.free 0; have f1 := HB2.free 1
      have i0 := HB2.cell (j := 0) rfl; have i1 := HB2.cell (j := 1) rfl
      have c0 := S3.B.cell (j := 0) rfl; have c1 := S3.B.cell (j := 1) rfl
      have FIN := Lib.hid (And.intro (R3.done HB2 (by omega) (show w.heap.size ≤ v0.heap.size by omega)) (((HE.out _ _ S3.D).setCell (p := ⟨w.heap.size, 0, none⟩) (Nat.le_refl _) (.slice p n c)).setCell (p := ⟨w.heap.size, 1, none⟩) (Nat.le_refl _) (.slice q m d)))
      clear S S3 HB2 R3
      go_wp2
      refine bodyPost_ret (results_TS Try.results53 _ _ w.heap.size (.slice p n c) (.slice q m d) _ rfl rfl (FIN.out.1.1.cell rfl) (FIN.out.1.1.cell rfl)) rfl ?_
      exact ⟨_, _, _, _, _, _, _, _, _, rfl, FIN.out.1.2, FIN.out.2⟩
theorem lit8L (V : World) : ∀ i, i < 8 → ∃ x, (V.alloc (.cells #[.int .i64 10, .int .i64 12, .int .i64 8, .int .i64 15, .int .i64 1, .int .i64 999, .int .i64 1000, .int .i64 0] 3)).cell? ⟨V.heap.size, i, none⟩ = some (.int .i64 x) ∧ (0 ≤ x ∧ x ≤ 1000) := fun i hi => by
  have h : i = 0 ∨ i = 1 ∨ i = 2 ∨ i = 3 ∨ i = 4 ∨ i = 5 ∨ i = 6 ∨ i = 7 := by omega
  rcases h with rfl | rfl | rfl | rfl | rfl | rfl | rfl | rfl
  all_goals exact ⟨_, by rw [cell_of_row _ _ _ _ _ _ (heap_alloc_new _ _)]; rfl, by omega⟩
set_option maxRecDepth 100000 in
theorem DrawLargestChance_any (w : World) (a : Option Addr) (n cap : Nat) (zs : List Int) (h : SLB w a n cap zs) :
    Calls Try.prog 52 #[.slice a n cap] w fun e w' => ∃ (p : Option Addr) (n c : Nat) (q : Option Addr) (m d : Nat) (a : Option Addr) (k j : Nat) (v : Int), e = .returned (.tuple #[.agg #[.slice p n c, .slice q m d], .slice a k j, .int .i64 v]) ∧ (0 ≤ v ∧ v ≤ 1000) ∧ TrR w.heap.size w' p n c q m d a k j ∧ Fr w w' := by
  have f0 := (Fr.refl w).alloc (.cells #[.slice none 0 0, .slice none 0 0] 29)
  have D0 := Dr.start (h.fr f0)
  have h2 := h.fr (f0.alloc (.cells #[.slice a n cap, .int .i64 0, .int .u64 0] 110))
  have HB := (Blk.new w #[.slice none 0 0, .slice none 0 0] 29).alloc (.cells #[.slice a n cap, .int .i64 0, .int .u64 0] 110)
  have HE : Hid (∀ (A : Nat) (w' : World), Dr (w.alloc (.cells #[.slice none 0 0, .slice none 0 0] 29)).heap.size A ((w.alloc (.cells #[.slice none 0 0, .slice none 0 0] 29)).alloc (.cells #[.slice a n cap, .int .i64 0, .int .u64 0] 110)) w' → Fr w w') := Lib.hid fun A w' h => f0.trans (h.ends rfl)
  have hg : w.heap.size + 1 < ((w.alloc (.cells #[.slice none 0 0, .slice none 0 0] 29)).alloc (.cells #[.slice a n cap, .int .i64 0, .int .u64 0] 110)).heap.size := by simp
  clear h f0
  rw [World.size_alloc] at D0 HE
  go_enter Try.func52, Try.ntmps52
  go_upto_region 2 with fail
  generalize (w.alloc (.cells #[.slice none 0 0, .slice none 0 0] 29)).alloc (.cells #[.slice a n cap, .int .i64 0, .int .u64 0] 110) = v0 at D0 HB HE hg h2 ⊢
  go_wp2_with fail
  refine (DrawLargestMean_any _ _ _ _ _ h2).mono ?_
  rintro e w1 ⟨p, n, c, q, m, d, a, k, j, rfl, R, f1⟩
  have D1 := D0.fr f1
  have HB1 := HB.fr f1
  have S := R.hvI D1
  have hle := R.le
  have HA : Blk (w1.alloc (.cells #[.slice p n c, .slice q m d] 29)) w.heap.size #[.slice none 0 0, .slice none 0 0] 29 := HB1.alloc _
  have R1 := S.trR hle
  have hlt1 := S.D.cur.lt
  have HNE : Hid (w.heap.size + 1 ≠ w.heap.size) := Lib.hid (by omega)
  clear D0 D1 HB HB1 R f1 h2
  generalize hgt : w1.heap.size = gt at S
  go_upto_region 3 with fail
  clear hgt
  generalize w1.alloc (.cells #[.slice p n c, .slice q m d] 29) = w2 at S HA R1 hlt1 ⊢
  have SB : HvI (fun _ => True) (fun _ => True) v0 (w.heap.size + 1) 0 gt p n c q m d a k j w2.drew := S.fr (Fr.drewN w2 1)
  have SC : HvI (fun _ => True) (fun _ => True) v0 (w.heap.size + 1) 0 gt p n c q m d a k j (w2.alloc (.cells #[.int .i64 10, .int .i64 12, .int .i64 8, .int .i64 15, .int .i64 1, .int .i64 999, .int .i64 1000, .int .i64 0] 3)) := S.fr ((Fr.refl w2).alloc _)
  have SD : HvI (fun _ => True) (fun _ => True) v0 (w.heap.size + 1) 0 gt p n c q m d a k j (w2.alloc (.cells #[.int .i64 10, .int .i64 12, .int .i64 8, .int .i64 15, .int .i64 1, .int .i64 999, .int .i64 1000, .int .i64 0] 3)).drew := S.fr (((Fr.refl w2).alloc _).drew' 1)
  have HD : Blk (w2.alloc (.cells #[.int .i64 10, .int .i64 12, .int .i64 8, .int .i64 15, .int .i64 1, .int .i64 999, .int .i64 1000, .int .i64 0] 3)).drew w.heap.size #[.slice none 0 0, .slice none 0 0] 29 := HA.fr (((Fr.refl w2).alloc _).drew' 1)
  have HC : Blk (w2.alloc (.cells #[.int .i64 10, .int .i64 12, .int .i64 8, .int .i64 15, .int .i64 1, .int .i64 999, .int .i64 1000, .int .i64 0] 3)) w.heap.size #[.slice none 0 0, .slice none 0 0] 29 := HA.fr ((Fr.refl w2).alloc _)
  have a0 := S.B.cell (j := 0) rfl; have a1 := S.B.cell (j := 1) rfl
  have b0 := SB.B.cell (j := 0) rfl; have b1 := SB.B.cell (j := 1) rfl
  have c0 := SC.B.cell (j := 0) rfl; have c1 := SC.B.cell (j := 1) rfl
  have d0 := SD.B.cell (j := 0) rfl; have d1 := SD.B.cell (j := 1) rfl
  have LC := lit8L w2
  have LD : ∀ i, i < 8 → ∃ x, (w2.alloc (.cells #[.int .i64 10, .int .i64 12, .int .i64 8, .int .i64 15, .int .i64 1, .int .i64 999, .int .i64 1000, .int .i64 0] 3)).drew.cell? ⟨w2.heap.size, i, none⟩ = some (.int .i64 x) ∧ (0 ≤ x ∧ x ≤ 1000) := LC
  go_region_with (go_at_call 96; go_must (refine (among_any (w.heap.size + 1) _ w2.heap.size 8 8 (fun x => 0 ≤ x ∧ x ≤ 1000) _ (by first | with_reducible exact SD.D.cur | with_reducible exact SC.D.cur) (by omega) (by omega) (by omega) (by omega) (by first | with_reducible exact LD | with_reducible exact LC)).mono ?_; rintro e wb ⟨z, rfl, hz, Cb, gB⟩; have EB : Dr (w.heap.size + 1) _ _ wb := ⟨Cb, gB⟩; have PB : HvI (fun _ => True) (fun _ => True) v0 (w.heap.size + 1) (0 + 2) gt p n c q m d a k j wb := (by first | with_reducible exact SD.step hg EB | with_reducible exact SC.step hg EB); have BB : Blk wb w.heap.size #[.slice none 0 0, .slice none 0 0] 29 := (by first | with_reducible exact EB.blk HD HNE.out | with_reducible exact EB.blk HC HNE.out); have e0 := PB.B.cell (j := 0) rfl; have e1 := PB.B.cell (j := 1) rfl; have i0 := BB.cell (j := 0) rfl; have i1 := BB.cell (j := 1) rfl; have f0 := BB.free 0; have f1 := BB.free 1; have FIN := Lib.hid (And.intro ((PB.trR hle).done BB (show w.heap.size < v0.heap.size by omega) (show w.heap.size ≤ v0.heap.size by omega)) (((HE.out _ _ PB.D).setCell (p := ⟨w.heap.size, 0, none⟩) (Nat.le_refl _) (.slice p n c)).setCell (p := ⟨w.heap.size, 1, none⟩) (Nat.le_refl _) (.slice q m d)))))
  all_goals
    go_wp2
    refine bodyPost_ret (results_TSS Try.results52 _ _ w.heap.size (.slice p n c) (.slice q m d) _ _ rfl rfl rfl (FIN.out.1.1.cell rfl) (FIN.out.1.1.cell rfl)) rfl ?_
    exact ⟨_, _, _, _, _, _, _, _, _, _, rfl, by omega, FIN.out.1.2, FIN.out.2⟩
end Go.Proofs.Ytojipjjfndgbhaa
