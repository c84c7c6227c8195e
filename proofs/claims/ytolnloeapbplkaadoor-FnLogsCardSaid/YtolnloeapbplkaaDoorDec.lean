import Derived.Test.YtolnloeapbplkaaDoorDecM
import Derived.Deep.RegionHeld3
import Derived.Deep.DeepCutAuto
/- The reference's reading of one line. -/
set_option linter.unusedVariables false
set_option linter.unusedSimpArgs false
namespace Go.Proofs.YtolnloeapbplkaaDoor
open Go.ChangeShapes Go.WideShapes Go.ChangeAt Go.RowKit

def Box (w : World) (g : Nat) (cs : Array Value) (t : TypeId) : Prop := w.heap[g]? = some (.cells cs t (0, 0))
theorem Box.new (w : World) (cs : Array Value) (t : TypeId) : Box (w.alloc (.cells cs t)) w.heap.size cs t := heap_alloc_new w _
theorem Box.lt {w : World} {g : Nat} {cs : Array Value} {t : TypeId} (h : Box w g cs t) : g < w.heap.size := (Array.getElem?_eq_some_iff.1 h).1
theorem Box.fr {w w' : World} {g : Nat} {cs : Array Value} {t : TypeId} (h : Box w g cs t) (f : Fr w w') : Box w' g cs t := by unfold Box; rw [f.block g h.lt]; exact h
theorem Box.cell {w : World} {g : Nat} {cs : Array Value} {t : TypeId} (h : Box w g cs t) {j : Nat} {v : Value} (hv : cs[j]? = some v) : w.cell? ⟨g, j, none⟩ = some v := by
  rw [cell_of_row _ g j _ _ (0, 0) h, hv]
theorem Box.free {w : World} {g : Nat} {cs : Array Value} {t : TypeId} (h : Box w g cs t) (j : Nat) : w.frozen? ⟨g, j, none⟩ = false := by
  unfold Box at h; simp [World.frozen?, h]
theorem Box.set {w : World} {g : Nat} {cs : Array Value} {t : TypeId} (h : Box w g cs t) (j : Nat) (v : Value) : Box (w.setCell ⟨g, j, none⟩ v) g (cs.setIfInBounds j v) t := by
  unfold Box at h ⊢; simp [World.setCell, Array.getElem?_modify, h]
theorem Box.set2 {w : World} {g : Nat} {t : TypeId} {z0 z1 : Value} (h : Box w g #[z0, z1] t) (v0 v1 : Value) : Box ((w.setCell ⟨g, 0, none⟩ v0).setCell ⟨g, 1, none⟩ v1) g #[v0, v1] t := by
  have E := (h.set 0 v0).set 1 v1
  simpa only [List.setIfInBounds_toArray, List.set_cons_zero, List.set_cons_succ] using E
theorem Fr.set2 {w0 w : World} {g : Nat} (h : Fr w0 w) (hg : w0.heap.size ≤ g) (v0 v1 : Value) : Fr w0 ((w.setCell ⟨g, 0, none⟩ v0).setCell ⟨g, 1, none⟩ v1) := by
  iterate 2 refine Fr.setCell ?_ (by dsimp only; omega) _
  exact h

theorem str_eq (s t : ByteArray) : (s.toList == t.toList) = (bl s == bl t) := by
  have h := str_neq s t
  rw [bne] at h
  exact Bool.not_inj h

theorem cell2 {w : World} {g b j : Nat} (v0 v1 : Value) (hne : g ≠ b) : ((w.setCell ⟨g, 0, none⟩ v0).setCell ⟨g, 1, none⟩ v1).cell? ⟨b, j, none⟩ = w.cell? ⟨b, j, none⟩ := by
  have e : ∀ (x : World) (i : Nat) (v : Value), (x.setCell ⟨g, i, none⟩ v).cell? ⟨b, j, none⟩ = x.cell? ⟨b, j, none⟩ := fun x i v => by
    apply World.cell?_setCell_other; intro h; simp only [Addr.mk.injEq] at h; exact hne h.1
  rw [e, e]
set_option maxRecDepth 100000 in
theorem l12Decode_any (k : Nat) (s : ByteArray) (w : World) (hk : k < 100) (hs : s.size ≤ 1048576) :
    Calls Tryd.prog 91 #[.string s, .int .i64 k] w fun e w' => ∃ x y, e = .returned (.tuple #[.agg #[.string x, .string y], .bool (decB k (bl s))]) ∧ (decB k (bl s) = true → decE (bl s) = (bl x, bl y)) ∧ Fr w w' := by
  have hfr : Fr w (w.alloc (.cells #[.string ⟨#[]⟩, .string ⟨#[]⟩] 25)) := (Fr.refl w).alloc _
  have G0 := Lib.hid (Box.new w #[.string ⟨#[]⟩, .string ⟨#[]⟩] 25)
  obtain ⟨x0, hx0⟩ : ∃ x0 : ByteArray, ba (Lib.decDigits k) = x0 := ⟨_, rfl⟩
  have Hnum : Hid (∀ W : World, Calls Tryd.prog 84 #[.int .i64 k] W fun e w' => e = .returned (.string x0) ∧ Qt W w') := Lib.hid (fun W => hx0 ▸ l1Num_any k (by omega) W)
  have hn : x0.size ≤ 2 := by rw [← hx0, ba_size]; exact dec_len k 1 (by omega)
  have Hhd : Hid (bl (x0 ++ ⟨#[32]⟩) = headS k) := Lib.hid (by rw [bl_app, ← hx0, bl_ba]; rfl)
  have Hz : Hid ((x0 ++ ⟨#[32]⟩).size ≤ 3) := Lib.hid (by rw [ByteArray.size_append]; have : (⟨#[32]⟩ : ByteArray).size = 1 := rfl; omega)
  clear hx0
  go_enter Tryd.func91, Tryd.ntmps91
  go_wp2_with (go_at_call 84; refine (Hnum.out _).mono ?_; rintro e w' ⟨rfl, k1, rfl⟩)
  generalize x0 ++ ⟨#[32]⟩ = ad at Hhd Hz ⊢
  refine (l1Split_any s 35 35 rfl _ (by omega)).mono ?_
  rintro e w2 ⟨a, n, cap, xs, rfl, ho, ⟨hp0, hpn⟩, f2, hn2⟩
  have hl := ho.len
  have hn1 : 0 < n := by
    rcases xs with _ | ⟨x, xs⟩
    · simp at hp0
    · simp at hl; omega
  obtain ⟨g, rfl, hg⟩ := ho.op hn1
  have hc := ho.cellAt rfl hp0
  have hF2 := (hfr.drew' k1).trans f2
  have G2 := Lib.hid ((G0.out.fr (Fr.drewN _ k1)).fr f2)
  obtain ⟨tx, htx⟩ : ∃ tx, ba (ahead 35 (bl s)) = tx := ⟨_, rfl⟩
  rw [htx] at hc
  have Htb : Hid (bl tx = ahead 35 (bl s)) := Lib.hid (by rw [← htx, bl_ba])
  have htz : tx.size ≤ 1048576 := by rw [← htx, ba_size]; have := ahead_le 35 (bl s); rw [bl_len] at this; omega
  have hz := Hz.out
  clear htx hp0 hpn ho hl hg G0 Hz hn Hnum
  have i0 := G2.out.free 0; have i1 := G2.out.free 1
  have j0 := G2.out.cell (j := 0) rfl; have j1 := G2.out.cell (j := 1) rfl
  by_cases h1 : tx.size < ad.size
  · have HV : Hid (decB k (bl s) = false) := Lib.hid (decB_short (by rw [← Htb.out, ← Hhd.out, bl_len, bl_len]; exact h1))
    have h1i : (tx.size : Int) < (ad.size : Int) := by omega
    clear h1
    go_wp2
    refine bodyPost_ret (results_RB Tryd.results91 _ _ w.heap.size _ _ _ rfl rfl ((G2.out.set2 _ _).cell rfl) ((G2.out.set2 _ _).cell rfl)) rfl ?_
    exact ⟨⟨#[]⟩, ⟨#[]⟩, by rw [HV.out]; rfl, fun h => (by rw [HV.out] at h; cases h), hF2.set2 (Nat.le_refl _) _ _⟩
  · have h1i : ¬ (tx.size : Int) < (ad.size : Int) := by omega
    cases h2 : ((bl tx).take ad.size == bl ad)
    · have HV : Hid (decB k (bl s) = false) := Lib.hid (decB_noHead (by
        rw [← Htb.out, ← Hhd.out, bl_len]; exact fun e => by simp [e] at h2))
      have hb : (!((tx.extract 0 ad.size).toList == ad.toList)) = true := by rw [str_eq, bl_front _ _ (by omega), h2]; rfl
      clear h2
      go_wp2
      refine bodyPost_ret (results_RB Tryd.results91 _ _ w.heap.size _ _ _ rfl rfl ((G2.out.set2 _ _).cell rfl) ((G2.out.set2 _ _).cell rfl)) rfl ?_
      exact ⟨⟨#[]⟩, ⟨#[]⟩, by rw [HV.out]; rfl, fun h => (by rw [HV.out] at h; cases h), hF2.set2 (Nat.le_refl _) _ _⟩
    · have hb : ((tx.extract 0 ad.size).toList == ad.toList) = true := by rw [str_eq, bl_front _ _ (by omega), h2]
      have hb2 : ((tx.extract 0 ad.size).toList != ad.toList) = false := by rw [bne, hb]; rfl
      have HR : Hid (ahead 35 (bl s) = headS k ++ bl (tx.extract ad.size tx.size)) := Lib.hid (by
        rw [← Htb.out, bl_tail _ _ (by omega), ← Hhd.out]
        have h3 : (bl tx).take ad.size = bl ad := by simpa using h2
        rw [← h3, List.take_append_drop])
      clear h2
      go_wp2_with fail
      have hrz : (tx.extract ad.size tx.size).size ≤ 1048576 := by rw [ByteArray.size_extract]; omega
      generalize tx.extract ad.size tx.size = r at HR hrz ⊢
      clear Htb Hhd hb hb2 h1i htz hz hc i0 i1 j0 j1
      refine (l1Split_any r 64 64 rfl _ (by omega)).mono ?_
      rintro e w3 ⟨a', n', cap', xs', rfl, ho, ⟨hp0, hpn⟩, f3, hn3⟩
      have hl := ho.len
      have hn1' : 0 < n' := by
        rcases xs' with _ | ⟨x, xs'⟩
        · simp at hp0
        · simp at hl; omega
      obtain ⟨g', rfl, hg⟩ := ho.op hn1'
      have hc := ho.cellAt rfl hp0
      have hF3 := hF2.trans f3
      have G3 := Lib.hid (G2.out.fr f3)
      obtain ⟨ak, hak⟩ : ∃ ak, ba (ahead 64 (bl r)) = ak := ⟨_, rfl⟩
      rw [hak] at hc
      have Hab : Hid (bl ak = ahead 64 (bl r)) := Lib.hid (by rw [← hak, bl_ba])
      have haz : ak.size ≤ r.size := by rw [← hak, ba_size]; have := ahead_le 64 (bl r); rwa [bl_len] at this
      clear hak hp0 hpn ho hl hg hn3 G2 hF2 f3 hn2
      have i0 := G3.out.free 0; have i1 := G3.out.free 1
      have j0 := G3.out.cell (j := 0) rfl; have j1 := G3.out.cell (j := 1) rfl
      by_cases h3 : ak.size = r.size
      · have HV : Hid (decB k (bl s) = false) := Lib.hid (decB_noAsk HR.out (ahead_len_iff.1 (by rw [← Hab.out, bl_len, bl_len]; exact h3)))
        have h3i : ((ak.size : Int) == (r.size : Int)) = true := by rw [h3]; simp
        clear h3
        go_wp2
        refine bodyPost_ret (results_RB Tryd.results91 _ _ w.heap.size _ _ _ rfl rfl ((G3.out.set2 _ _).cell rfl) ((G3.out.set2 _ _).cell rfl)) rfl ?_
        exact ⟨⟨#[]⟩, ⟨#[]⟩, by rw [HV.out]; rfl, fun h => (by rw [HV.out] at h; cases h), hF3.set2 (Nat.le_refl _) _ _⟩
      · have h3i : ((ak.size : Int) == (r.size : Int)) = false := by rw [beq_eq_false_iff_ne]; omega
        have h64 : (64 : UInt8) ∈ bl r := Decidable.byContradiction fun hm => h3 (by have := ahead_len_iff.2 hm; rw [← Hab.out, bl_len, bl_len] at this; exact this)
        have haz' : ak.size + 1 ≤ r.size := by omega
        have Hyb : Hid (bl (r.extract (ak.size + 1) r.size) = behind 64 (bl r)) := Lib.hid (by rw [bl_tail _ _ haz', behind, ← Hab.out, bl_len])
        have hyz : (r.extract (ak.size + 1) r.size).size ≤ 1048576 := by rw [ByteArray.size_extract]; omega
        have HE : Hid (decE (bl s) = (bl ak, bl (r.extract (ak.size + 1) r.size))) := Lib.hid (by rw [decE_head HR.out, Hab.out, Hyb.out])
        have HD := Lib.hid (decB_val k (bl s))
        have hlen : IntKind.i64.wrap ((ak.size : Int) + 1) = (ak.size : Int) + 1 := IntWalk.i64_in _ (by omega)
        clear h64 h3
        go_upto_region 10 with fail
        generalize r.extract (ak.size + 1) r.size = y at Hyb hyz HE ⊢
        have C := Box.new w3 #[.string ak, .string y] 25
        have F4 : Fr w (w3.alloc (.cells #[.string ak, .string y] 25)) := hF3.alloc _
        have G4 := Lib.hid (G3.out.fr ((Fr.refl w3).alloc (.cells #[.string ak, .string y] 25)))
        have c0 : (w3.alloc (.cells #[.string ak, .string y] 25)).cell? ⟨w3.heap.size, 0, none⟩ = some (.string ak) := C.cell rfl
        have c1 : (w3.alloc (.cells #[.string ak, .string y] 25)).cell? ⟨w3.heap.size, 1, none⟩ = some (.string y) := C.cell rfl
        have hne : w.heap.size ≠ w3.heap.size := by have := G3.out.lt; omega
        have hne' : ¬ w3.heap.size = w.heap.size := fun e => hne e.symm
        have a1 := fun W => run_string_add_sum (P := Tryd.prog) W s ⟨#[10]⟩ (by have : (⟨#[10]⟩ : ByteArray).size = 1 := rfl; omega)
        clear hF3 G3 hc i0 i1 j0 j1 C Hab Hyb HR hlen h3i
        generalize w3.alloc (.cells #[.string ak, .string y] 25) = w4 at *
        generalize w3.heap.size = N at *
        cases hr : recB (bl ak, bl y)
        · have HV : Hid (decB k (bl s) = false) := Lib.hid (by rw [HD.out, HE.out, hr]; rfl)
          have HREC : Hid (∀ W : World, Calls Tryd.prog 57 #[.agg #[.string ak, .string y]] W fun e w' => e = .returned (.bool false) ∧ Fr W w') := Lib.hid (fun W => by
            have h := l12Record_any ak y W (by omega) (by omega)
            rw [hr] at h; exact h)
          clear hr
          refine wp_region_held_drew (S := fun w' => w'.cell? ⟨N, 0, none⟩ = some (.string ak) ∧ w'.cell? ⟨N, 1, none⟩ = some (.string y)) (by kernel_rfl) ⟨c0, c1⟩ (fun hH => ?_)
          refine wpAnyH_take (i := 0) (oi := _) (v := .agg #[.string ak, .string y]) rfl (by kernel_rfl) (by kernel_rfl) (by kernel_rfl) (fun _ _ _ h => h) (Or.inl ⟨by rfl, by (intro w hSw; (try dsimp only at hSw); go_simp)⟩) hH ?_
          simp only [List.getElem_toArray, List.getElem_cons_succ, List.getElem_cons_zero, Act.put, List.setIfInBounds_toArray, List.set_cons_zero, List.set_cons_succ]
          refine wpAnyH_take (i := 1) (oi := _) (v := .agg #[.string ak, .string y]) rfl (by kernel_rfl) (by kernel_rfl) (by kernel_rfl) (fun _ _ _ h => h) (Or.inl ⟨by rfl, by (intro w hSw; (try dsimp only at hSw); go_simp)⟩) hH ?_
          simp only [List.getElem_toArray, List.getElem_cons_succ, List.getElem_cons_zero, Act.put, List.setIfInBounds_toArray, List.set_cons_zero, List.set_cons_succ]
          refine wpAnyH_ready (rs := [2]) (by kernel_rfl) (by simp) ?_
          refine AllReadyH.cons (o := _) rfl (fun K hK => ?_) AllReadyH.nil
          try simp only [List.getElem_toArray, List.getElem_cons_succ, List.getElem_cons_zero]
          rw [if_pos (by rfl)]
          go_simp
          refine (HREC.out _).mono ?_
          rintro e w5 ⟨rfl, g5⟩
          go_wp2_with fail
          have f5 : Fr w4 w5 := ((Fr.refl w4).drew' 1).trans g5
          refine hK.out _ _ ⟨f5.keep c0, f5.keep c1⟩ (fun hHeld => ?_)
          clear hK K
          try simp only [Act.put, List.setIfInBounds_toArray, List.set_cons_zero, List.set_cons_succ]
          refine wpAnyH_take (i := 3) (oi := _) (v := .bool false) rfl (by kernel_rfl) (by kernel_rfl) (by kernel_rfl) (fun _ _ _ h => h) (Or.inl ⟨by rfl, by (intro w hSw; (try dsimp only at hSw); go_simp)⟩) hHeld ?_
          simp only [List.getElem_toArray, List.getElem_cons_succ, List.getElem_cons_zero, Act.put, List.setIfInBounds_toArray, List.set_cons_zero, List.set_cons_succ]
          refine wpAnyH_take (i := 4) (oi := _) (v := undef) rfl (by kernel_rfl) (by kernel_rfl) (by kernel_rfl) (fun _ _ _ h => h) (Or.inr ⟨by rfl, rfl⟩) hHeld ?_
          simp only [List.getElem_toArray, List.getElem_cons_succ, List.getElem_cons_zero, Act.put, List.setIfInBounds_toArray, List.set_cons_zero, List.set_cons_succ]
          refine wpAnyH_take (i := 5) (oi := _) (v := undef) rfl (by kernel_rfl) (by kernel_rfl) (by kernel_rfl) (fun _ _ _ h => h) (Or.inr ⟨by rfl, rfl⟩) hHeld ?_
          simp only [List.getElem_toArray, List.getElem_cons_succ, List.getElem_cons_zero, Act.put, List.setIfInBounds_toArray, List.set_cons_zero, List.set_cons_succ]
          refine wpAnyH_take (i := 6) (oi := _) (v := undef) rfl (by kernel_rfl) (by kernel_rfl) (by kernel_rfl) (fun _ _ _ h => h) (Or.inr ⟨by rfl, rfl⟩) hHeld ?_
          simp only [List.getElem_toArray, List.getElem_cons_succ, List.getElem_cons_zero, Act.put, List.setIfInBounds_toArray, List.set_cons_zero, List.set_cons_succ]
          refine wpAnyH_take (i := 7) (oi := _) (v := undef) rfl (by kernel_rfl) (by kernel_rfl) (by kernel_rfl) (fun _ _ _ h => h) (Or.inr ⟨by rfl, rfl⟩) hHeld ?_
          simp only [List.getElem_toArray, List.getElem_cons_succ, List.getElem_cons_zero, Act.put, List.setIfInBounds_toArray, List.set_cons_zero, List.set_cons_succ]
          refine wpAnyH_take (i := 8) (oi := _) (v := undef) rfl (by kernel_rfl) (by kernel_rfl) (by kernel_rfl) (fun _ _ _ h => h) (Or.inr ⟨by rfl, rfl⟩) hHeld ?_
          simp only [List.getElem_toArray, List.getElem_cons_succ, List.getElem_cons_zero, Act.put, List.setIfInBounds_toArray, List.set_cons_zero, List.set_cons_succ]
          refine wpAnyH_take (i := 9) (oi := _) (v := undef) rfl (by kernel_rfl) (by kernel_rfl) (by kernel_rfl) (fun _ _ _ h => h) (Or.inr ⟨by rfl, rfl⟩) hHeld ?_
          simp only [List.getElem_toArray, List.getElem_cons_succ, List.getElem_cons_zero, Act.put, List.setIfInBounds_toArray, List.set_cons_zero, List.set_cons_succ]
          refine wpAnyH_take (i := 10) (oi := _) (v := .bool false) rfl (by kernel_rfl) (by kernel_rfl) (by kernel_rfl) (fun _ _ _ h => h) (Or.inl ⟨by rfl, by (intro w hSw; (try dsimp only at hSw); go_simp)⟩) hHeld ?_
          simp only [List.getElem_toArray, List.getElem_cons_succ, List.getElem_cons_zero, Act.put, List.setIfInBounds_toArray, List.set_cons_zero, List.set_cons_succ]
          have q0 : w5.cell? ⟨w.heap.size, 0, none⟩ = some (.string ⟨#[]⟩) := f5.keep (G4.out.cell rfl)
          have q1 : w5.cell? ⟨w.heap.size, 1, none⟩ = some (.string ⟨#[]⟩) := f5.keep (G4.out.cell rfl)
          have p0 := (G4.out.fr f5).free 0
          have p1 := (G4.out.fr f5).free 1
          refine wpAnyH_ready (rs := [11]) (by kernel_rfl) (by simp) ?_
          refine AllReadyH.cons (o := _) rfl (fun K hK => ?_) AllReadyH.nil
          try simp only [List.getElem_toArray, List.getElem_cons_succ, List.getElem_cons_zero]
          rw [if_pos (by rfl)]
          go_simp
          refine hK.out _ _ ⟨(cell2 _ _ hne).trans (f5.keep c0), (cell2 _ _ hne).trans (f5.keep c1)⟩ (fun hHeld => ?_)
          clear hK K
          try simp only [List.getElem_toArray, List.getElem_cons_succ, List.getElem_cons_zero, Act.put, List.setIfInBounds_toArray, List.set_cons_zero, List.set_cons_succ]
          refine wpAnyH_take (i := 12) (oi := _) (v := .bool false) rfl (by kernel_rfl) (by kernel_rfl) (by kernel_rfl) (fun _ _ _ h => h) (Or.inl ⟨by rfl, by (intro w hSw; (try dsimp only at hSw); go_simp)⟩) hHeld ?_
          simp only [List.getElem_toArray, List.getElem_cons_succ, List.getElem_cons_zero, Act.put, List.setIfInBounds_toArray, List.set_cons_zero, List.set_cons_succ]
          refine wpAnyH_done (by kernel_rfl) ?_ _
          go_wp2
          refine bodyPost_ret (results_RB Tryd.results91 _ _ w.heap.size _ _ _ rfl rfl (((G4.out.fr f5).set2 _ _).cell rfl) (((G4.out.fr f5).set2 _ _).cell rfl)) rfl ?_
          exact ⟨ak, y, by rw [HV.out]; rfl, fun h => (by rw [HV.out] at h; cases h), (F4.trans f5).set2 (Nat.le_refl _) _ _⟩
        · have HV : Hid (decB k (bl s) = ((ba (lineS k (bl ak, bl y))).toList == (s ++ ⟨#[10]⟩).toList)) := Lib.hid (by
            rw [HD.out, HE.out, hr, str_eq, bl_ba, bl_app]; rfl)
          have HREC : Hid (∀ W : World, Calls Tryd.prog 57 #[.agg #[.string ak, .string y]] W fun e w' => e = .returned (.bool true) ∧ Fr W w') := Lib.hid (fun W => by
            have h := l12Record_any ak y W (by omega) (by omega)
            rw [hr] at h; exact h)
          have HLIN : Hid (∀ W : World, Calls Tryd.prog 58 #[.int .i64 k, .agg #[.string ak, .string y]] W fun e w' => e = .returned (.string (ba (lineS k (bl ak, bl y)))) ∧ Fr W w') := Lib.hid (fun W => l12Line_any k ak y W hk (by omega) (by omega))
          generalize ba (lineS k (bl ak, bl y)) = ln at HV HLIN
          clear hr
          first
            | (go_region_held3 (fun w' => w'.cell? ⟨N, 0, none⟩ = some (.string ak) ∧ w'.cell? ⟨N, 1, none⟩ = some (.string y))
              (first
                | (with_reducible exact ⟨f6.keep r0, f6.keep r1⟩)
                | (with_reducible exact ⟨f5.keep c0, f5.keep c1⟩)
                | (exact ⟨(cell2 _ _ hne).trans (f6.keep r0), (cell2 _ _ hne).trans (f6.keep r1)⟩)
                | (exact ⟨(cell2 _ _ hne).trans (f5.keep c0), (cell2 _ _ hne).trans (f5.keep c1)⟩)
                | go_keep)
              (first
                | (go_at_call 57; refine (HREC.out _).mono ?_; rintro e w5 ⟨rfl, g5⟩; have f5 : Fr w4 w5 := (by first | exact g5 | exact ((Fr.refl w4).drew' 1).trans g5); have q0 : w5.cell? ⟨w.heap.size, 0, none⟩ = some (.string ⟨#[]⟩) := f5.keep (G4.out.cell rfl); have q1 : w5.cell? ⟨w.heap.size, 1, none⟩ = some (.string ⟨#[]⟩) := f5.keep (G4.out.cell rfl); have p0 := (G4.out.fr f5).free 0; have p1 := (G4.out.fr f5).free 1; have r0 := f5.keep c0; have r1 := f5.keep c1)
                | (go_at_call 58; refine (HLIN.out _).mono ?_; rintro e w6 ⟨rfl, g6⟩; have f6 : Fr w5 w6 := (by first | exact g6 | exact ((Fr.refl w5).drew' 1).trans g6); have q0 : w6.cell? ⟨w.heap.size, 0, none⟩ = some (.string ⟨#[]⟩) := (f5.trans f6).keep (G4.out.cell rfl); have q1 : w6.cell? ⟨w.heap.size, 1, none⟩ = some (.string ⟨#[]⟩) := (f5.trans f6).keep (G4.out.cell rfl); have p0 := (G4.out.fr (f5.trans f6)).free 0; have p1 := (G4.out.fr (f5.trans f6)).free 1)))
            | fail
          go_wp2
          refine bodyPost_ret (results_RB Tryd.results91 _ _ w.heap.size _ _ _ rfl rfl (((G4.out.fr (f5.trans f6)).set2 _ _).cell rfl) (((G4.out.fr (f5.trans f6)).set2 _ _).cell rfl)) rfl ?_
          exact ⟨ak, y, by rw [HV.out]; rfl, fun _ => HE.out, (F4.trans (f5.trans f6)).set2 (Nat.le_refl _) _ _⟩
end Go.Proofs.YtolnloeapbplkaaDoor
