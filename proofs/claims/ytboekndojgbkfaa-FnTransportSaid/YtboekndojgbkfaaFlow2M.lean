import Derived.Test.YtboekndojgbkfaaFlowM
/- Cheapest flows: rounds of relaxings, units that go along the chains of nodes before, least costs. Plain part. -/
set_option linter.unusedVariables false
namespace Go.Proofs.Ytboekndojgbkfaa

def upd2 (X : Nat → Nat → Int) (i k : Nat) (v : Int) : Nat → Nat → Int := fun j => if j = i then updI (X i) k v else X j
theorem upd2_row (X : Nat → Nat → Int) (i k : Nat) (v : Int) : upd2 X i k v i = updI (X i) k v := if_pos rfl
theorem upd2_rowNe (X : Nat → Nat → Int) {i j : Nat} (k : Nat) (v : Int) (h : j ≠ i) : upd2 X i k v j = X j := if_neg h
theorem upd2_at (X : Nat → Nat → Int) (i k : Nat) (v : Int) : upd2 X i k v i k = v := by rw [upd2_row, updI_at]
theorem upd2_ne (X : Nat → Nat → Int) {i k j m : Nat} (v : Int) (h : ¬ (j = i ∧ m = k)) : upd2 X i k v j m = X j m := by
  by_cases e : j = i
  · subst e; rw [upd2_row, updI_ne _ _ (fun e2 => h ⟨rfl, e2⟩)]
  · rw [upd2_rowNe _ _ _ e]
theorem upd2_colAt (X : Nat → Nat → Int) (i k : Nat) (v : Int) : (fun j => upd2 X i k v j k) = updI (fun j => X j k) i v := by
  funext j
  by_cases e : j = i
  · subst e; rw [upd2_at, updI_at]
  · rw [upd2_rowNe _ _ _ e, updI_ne _ _ e]
theorem upd2_col (X : Nat → Nat → Int) {i k m : Nat} (v : Int) (h : m ≠ k) : (fun j => upd2 X i k v j m) = fun j => X j m := by
  funext j; exact upd2_ne _ _ (fun e => h e.2)
def costN (n : Nat) (C X : Nat → Nat → Int) : Int := sumG n fun i => sumG n fun k => X i k * C i k
theorem costN_upd {n : Nat} (C X : Nat → Nat → Int) {i k : Nat} (v : Int) (hi : i < n) (hk : k < n) : costN n C (upd2 X i k v) = costN n C X + (v - X i k) * C i k := by
  have e : (fun j => sumG n fun m => upd2 X i k v j m * C j m) = updI (fun j => sumG n fun m => X j m * C j m) i (sumG n fun m => updI (X i) k v m * C i m) := by
    funext j
    by_cases h : j = i
    · subst h; rw [updI_at, upd2_row]
    · rw [updI_ne _ _ h, upd2_rowNe _ _ _ h]
  have e2 : (fun m => updI (X i) k v m * C i m) = updI (fun m => X i m * C i m) k (v * C i k) := by
    funext m
    by_cases h : m = k
    · subst h; rw [updI_at, updI_at]
    · rw [updI_ne _ _ h, updI_ne _ _ h]
  rw [costN, e, sumG_upd _ _ hi, e2, sumG_upd _ _ hk, Int.sub_mul, costN]; omega

/-- The arcs: units may go, and may be taken back. -/
def Arc (n : Nat) (C X : Nat → Nat → Int) (x y : Nat) (c : Int) : Prop :=
  (∃ i k, i < n ∧ k < n ∧ x = i ∧ y = n + k ∧ c = C i k) ∨ ∃ i k, i < n ∧ k < n ∧ 0 < X i k ∧ x = n + k ∧ y = i ∧ c = -C i k
def relP (F : Int) (n : Nat) (C X : Nat → Nat → Int) (i k : Nat) (s : BF) : BF :=
  if 0 < X i k then rlx F (-C i k) (n + k) i (rlx F (C i k) i (n + k) s) else rlx F (C i k) i (n + k) s
def rowTo (F : Int) (n : Nat) (C X : Nat → Nat → Int) (i : Nat) (s : BF) : Nat → BF
  | 0 => s
  | k + 1 => relP F n C X i k (rowTo F n C X i s k)
def rndTo (F : Int) (n : Nat) (C X : Nat → Nat → Int) (s : BF) : Nat → BF
  | 0 => s
  | i + 1 => rowTo F n C X i (rndTo F n C X s i) n
def itR (F : Int) (n : Nat) (C X : Nat → Nat → Int) (s : BF) : Nat → BF
  | 0 => s
  | r + 1 => rndTo F n C X (itR F n C X s r) n

section
variable {F : Int} {n : Nat} {C X : Nat → Nat → Int} {S : Nat → Prop}
theorem relP_steps (s : BF) {i k : Nat} (hi : i < n) (hk : k < n) : Steps F (Arc n C X) (2 * n) s (relP F n C X i k s) := by
  have h1 : Steps F (Arc n C X) (2 * n) s (rlx F (C i k) i (n + k) s) := Steps.one (by omega) (by omega) (.inl ⟨i, k, hi, hk, rfl, rfl, rfl⟩)
  unfold relP
  split
  · next h => exact h1.tail (by omega) (by omega) (.inr ⟨i, k, hi, hk, h, rfl, rfl, rfl⟩)
  · exact h1
theorem rowTo_steps (s : BF) {i : Nat} (hi : i < n) : ∀ {k m : Nat}, k ≤ m → m ≤ n → Steps F (Arc n C X) (2 * n) (rowTo F n C X i s k) (rowTo F n C X i s m)
  | k, 0, h, _ => by obtain rfl : k = 0 := by omega
                     exact .refl _
  | k, m + 1, h, hm => by
    by_cases e : k = m + 1
    · subst e; exact .refl _
    · exact (rowTo_steps s hi (by omega) (by omega)).trans (relP_steps _ hi (by omega))
theorem rndTo_steps (s : BF) : ∀ {i m : Nat}, i ≤ m → m ≤ n → Steps F (Arc n C X) (2 * n) (rndTo F n C X s i) (rndTo F n C X s m)
  | i, 0, h, _ => by obtain rfl : i = 0 := by omega
                     exact .refl _
  | i, m + 1, h, hm => by
    by_cases e : i = m + 1
    · subst e; exact .refl _
    · exact (rndTo_steps s (by omega) (by omega)).trans (rowTo_steps _ (by omega) (Nat.zero_le _) (Nat.le_refl _))
theorem at_steps (s : BF) {i k : Nat} (hi : i < n) (hk : k ≤ n) : Steps F (Arc n C X) (2 * n) s (rowTo F n C X i (rndTo F n C X s i) k) :=
  (rndTo_steps s (Nat.zero_le i) (by omega)).trans (rowTo_steps _ hi (Nat.zero_le _) hk)
theorem at_steps2 (s : BF) {i k : Nat} (hi : i < n) (hk : k ≤ n) : Steps F (Arc n C X) (2 * n) (rowTo F n C X i (rndTo F n C X s i) k) (rndTo F n C X s n) :=
  (rowTo_steps _ hi hk (Nat.le_refl _)).trans (rndTo_steps s (i := i + 1) (by omega) (Nat.le_refl _))
theorem itR_steps (s : BF) : ∀ {r m : Nat}, r ≤ m → Steps F (Arc n C X) (2 * n) (itR F n C X s r) (itR F n C X s m)
  | r, 0, h => by obtain rfl : r = 0 := by omega
                  exact .refl _
  | r, m + 1, h => by
    by_cases e : r = m + 1
    · subst e; exact .refl _
    · exact (itR_steps s (by omega)).trans (rndTo_steps _ (Nat.zero_le _) (Nat.le_refl _))
theorem itR_succ (s : BF) : ∀ r, itR F n C X s (r + 1) = itR F n C X (rndTo F n C X s n) r
  | 0 => rfl
  | r + 1 => by rw [itR, itR_succ s r]; rfl
theorem rlx_arc {c : Int} {x y : Nat} {s : BF} (h : s.d x < F) : (rlx F c x y s).d y ≤ s.d x + c := by
  unfold rlx
  split
  · simp only [updI_at]; exact Int.le_refl _
  · next hc => have : ¬ s.d x + c < s.d y := fun e => hc ⟨h, e⟩
               omega
theorem rnd_arc {s : BF} {x y : Nat} {c : Int} (hg : Arc n C X x y c) (h : s.d x < F) : (rndTo F n C X s n).d y ≤ s.d x + c := by
  rcases hg with ⟨i, k, hi, hk, rfl, rfl, rfl⟩ | ⟨i, k, hi, hk, hx, rfl, rfl, rfl⟩
  · have h1 := (at_steps (F := F) (C := C) (X := X) s hi (Nat.le_of_lt hk)).le x
    have h2 := (at_steps2 (F := F) (C := C) (X := X) s hi (k := k + 1) hk).le (n + k)
    rw [rowTo] at h2
    generalize rowTo F n C X x (rndTo F n C X s x) k = t at h1 h2
    have h3 := rlx_arc (F := F) (c := C x k) (x := x) (y := n + k) (s := t) (by omega)
    have h4 : (relP F n C X x k t).d (n + k) ≤ (rlx F (C x k) x (n + k) t).d (n + k) := by
      unfold relP; split
      · exact rlx_le _ _ _ _ _ _
      · exact Int.le_refl _
    omega
  · have h1 := (at_steps (F := F) (C := C) (X := X) s hi (Nat.le_of_lt hk)).le (n + k)
    have h2 := (at_steps2 (F := F) (C := C) (X := X) s hi (k := k + 1) hk).le y
    rw [rowTo] at h2
    generalize rowTo F n C X y (rndTo F n C X s y) k = t at h1 h2
    have h4 := rlx_le F (C y k) y (n + k) t (n + k)
    have h3 := rlx_arc (F := F) (c := -C y k) (x := n + k) (y := y) (s := rlx F (C y k) y (n + k) t) (by omega)
    rw [relP, if_pos hx] at h2
    omega
theorem rnd_fix {s : BF} (h : rndTo F n C X s n = s) : Fix F (Arc n C X) (2 * n) s := by
  intro x y c _ _ hg hx
  have := rnd_arc hg hx
  rwa [h] at this
theorem Inv.itR {s : BF} {π : Nat → Int} (h : Inv F (Arc n C X) (2 * n) S s) (hp : Pot (Arc n C X) (2 * n) π) (r : Nat) : Inv F (Arc n C X) (2 * n) S (itR F n C X s r) := h.steps hp (itR_steps s (Nat.zero_le r))
theorem Inv.sumLow {s : BF} {π : Nat → Int} {N : Nat} {G : Nat → Nat → Int → Prop} (h : Inv F G N S s) (hp : Pot G N π) {L U : Int} (hL : ∀ y, y < N → L ≤ π y) (hU : ∀ y, y < N → π y ≤ U) (hF : ∀ y, y < N → π y ≤ F + U) (y : Nat) (hy : y < N) : L - U ≤ s.d y := by
  obtain ⟨j, hj⟩ := h.rt y hy
  have := h.low hp hU hF hy hj
  have := hL y hy
  omega
theorem sumG_const (n : Nat) (c : Int) : sumG n (fun _ => c) = n * c := by
  induction n with
  | zero => simp [sumG]
  | succ n ih => rw [sumG, ih, Int.natCast_add, Int.add_mul]; simp
theorem reach_fix {π : Nat → Int} (hp : Pot (Arc n C X) (2 * n) π) {L U : Int} (hL : ∀ y, y < 2 * n → L ≤ π y) (hU : ∀ y, y < 2 * n → π y ≤ U) (hF : ∀ y, y < 2 * n → π y ≤ F + U) :
    ∀ (m : Nat) (s : BF), Inv F (Arc n C X) (2 * n) S s → (sumG (2 * n) s.d - (2 * n : Nat) * (L - U)).toNat ≤ m → ∃ r, Fix F (Arc n C X) (2 * n) (Proofs.Ytboekndojgbkfaa.itR F n C X s r)
  | m, s, h, hm => by
    rcases (rndTo_steps (F := F) (C := C) (X := X) s (Nat.zero_le n) (Nat.le_refl n)).sum with h1 | h1
    · exact ⟨0, rnd_fix h1⟩
    · rw [rndTo] at h1
      have h2 := h.steps hp (rndTo_steps (F := F) (C := C) (X := X) s (Nat.zero_le n) (Nat.le_refl n))
      have h3 : (2 * n : Nat) * (L - U) ≤ sumG (2 * n) (rndTo F n C X s n).d := by
        rw [← sumG_const]; exact sumG_le fun y hy => h2.sumLow hp hL hU hF y hy
      cases m with
      | zero => omega
      | succ m =>
        obtain ⟨r, hr⟩ := reach_fix hp hL hU hF m _ h2 (by omega)
        exact ⟨r + 1, by rw [itR_succ]; exact hr⟩
theorem fix_of_eq {N : Nat} {G : Nat → Nat → Int → Prop} {s t : BF} (h : Fix F G N s) (e : ∀ y, y < N → t.d y = s.d y) : Fix F G N t := by
  intro x y c hx hy hg hlt
  rw [e x hx] at hlt ⊢
  rw [e y hy]
  exact h x y c hx hy hg hlt
/-- Behind as many rounds as there are nodes nothing is left to relax. -/
theorem rounds_fix {π : Nat → Int} (hp : Pot (Arc n C X) (2 * n) π) {L U : Int} (hL : ∀ y, y < 2 * n → L ≤ π y) (hU : ∀ y, y < 2 * n → π y ≤ U) (hF : ∀ y, y < 2 * n → π y ≤ F + U) {s : BF} (h : Inv F (Arc n C X) (2 * n) S s) {r : Nat} (hr : 2 * n ≤ r) :
    Fix F (Arc n C X) (2 * n) (Proofs.Ytboekndojgbkfaa.itR F n C X s r) := by
  obtain ⟨m, hm⟩ := reach_fix hp hL hU hF _ s h (Nat.le_refl _)
  by_cases hmr : m ≤ r
  · rw [← hm.steps (itR_steps s hmr)] at hm; exact hm
  · have hi := h.itR hp m
    have key : ∀ y j, RtN (Proofs.Ytboekndojgbkfaa.itR F n C X s m) y j → y < 2 * n → ∀ r, j ≤ r → (Proofs.Ytboekndojgbkfaa.itR F n C X s r).d y ≤ (Proofs.Ytboekndojgbkfaa.itR F n C X s m).d y := by
      intro y j hj
      induction hj with
      | @root y hb =>
        intro hy r _
        have hir := h.itR hp r
        rcases hi.pre y hy with ⟨_, h3 | ⟨h3, h4⟩⟩ | ⟨x, c, hx, h3, _⟩
        · rw [h3]; exact hir.top y hy
        · rw [h3]; exact hir.src y hy h4
        · rw [hb] at h3; omega
      | @step y x j hb _ ih =>
        intro hy r hjr
        obtain ⟨hx, c, hg, h3, h4⟩ := hi.tight hm hy hb
        have h5 := ih hx j (Nat.le_refl _)
        have h6 := rnd_arc (F := F) (C := C) (X := X) (s := Proofs.Ytboekndojgbkfaa.itR F n C X s j) hg (by omega)
        have h7 := (itR_steps (F := F) (n := n) (C := C) (X := X) s hjr).le y
        rw [Proofs.Ytboekndojgbkfaa.itR] at h7
        omega
    refine fix_of_eq hm fun y hy => ?_
    obtain ⟨j, hj⟩ := hi.rt y hy
    have h1 := hj.lt hi hy
    have h2 := key y j hj hy r (by omega)
    have h3 := (itR_steps (F := F) (n := n) (C := C) (X := X) s (Nat.le_of_not_le hmr)).le y
    omega
end
/-- Where a shortest reckoning starts. -/
def startBF (F : Int) (n : Nat) (h : Nat → Int) : BF := ⟨fun y => if y < n ∧ 0 < h y then 0 else F, fun _ => -1⟩
theorem start_inv {F : Int} {n : Nat} {C X : Nat → Nat → Int} {h : Nat → Int} (hF : 0 ≤ F) : Inv F (Arc n C X) (2 * n) (fun y => y < n ∧ 0 < h y) (startBF F n h) := by
  refine ⟨fun y hy => .inl ⟨rfl, ?_⟩, fun y hy hs => ?_, fun y hy => ?_, fun y hy => ⟨0, .root rfl⟩⟩
  · unfold startBF
    by_cases e : y < n ∧ 0 < h y
    · exact .inr ⟨if_pos e, e⟩
    · exact .inl (if_neg e)
  · unfold startBF; simp only []; rw [if_pos hs]; exact Int.le_refl _
  · unfold startBF; simp only []; split <;> omega

/-- Units that have gone: h are still to go, l are lacking. -/
structure Flow (n : Nat) (C X : Nat → Nat → Int) (p q h l : Nat → Int) (B F : Int) : Prop where
  pos : ∀ i k, i < n → k < n → 0 ≤ X i k
  rows : ∀ i, i < n → sumG n (X i) = p i - h i
  cols : ∀ k, k < n → sumG n (fun i => X i k) = q k - l k
  hpos : ∀ i, i < n → 0 ≤ h i
  lpos : ∀ k, k < n → 0 ≤ l k
  pot : ∃ π : Nat → Int, Pot (Arc n C X) (2 * n) π ∧ ∀ y, y < 2 * n → -B ≤ π y ∧ π y ≤ F

section
variable {F B : Int} {n : Nat} {C X : Nat → Nat → Int} {p q h l : Nat → Int}
theorem Flow.low (H : Flow n C X p q h l B F) (hF : 0 ≤ F) {s : BF} (hi : Inv F (Arc n C X) (2 * n) (fun y => y < n ∧ 0 < h y) s) {y : Nat} (hy : y < 2 * n) : -B - F ≤ s.d y ∧ s.d y ≤ F := by
  obtain ⟨π, hp, hb⟩ := H.pot
  have h1 := hi.sumLow hp (L := -B) (U := F) (fun y hy => (hb y hy).1) (fun y hy => (hb y hy).2) (fun y hy => by have := (hb y hy).2; omega) y hy
  exact ⟨by omega, hi.top y hy⟩
theorem Flow.inv (H : Flow n C X p q h l B F) (hF : 0 ≤ F) {s : BF} (hs : Steps F (Arc n C X) (2 * n) (startBF F n h) s) : Inv F (Arc n C X) (2 * n) (fun y => y < n ∧ 0 < h y) s := by
  obtain ⟨π, hp, hb⟩ := H.pot
  exact (start_inv hF).steps hp hs
theorem Flow.fix (H : Flow n C X p q h l B F) (hF : 0 ≤ F) : Fix F (Arc n C X) (2 * n) (itR F n C X (startBF F n h) (2 * n)) := by
  obtain ⟨π, hp, hb⟩ := H.pot
  exact rounds_fix hp (fun y hy => (hb y hy).1) (fun y hy => (hb y hy).2) (fun y hy => by have := (hb y hy).2; omega) (start_inv hF) (Nat.le_refl _)
/-- All that the distances tell at the end. -/
structure Told (F : Int) (n : Nat) (C X : Nat → Nat → Int) (h : Nat → Int) (s : BF) : Prop where
  inv : Inv F (Arc n C X) (2 * n) (fun y => y < n ∧ 0 < h y) s
  fix : Fix F (Arc n C X) (2 * n) s
variable {s : BF}
theorem Told.end_le (T : Told F n C X h s) (hF : 100 ≤ F) (hC : ∀ i k, i < n → k < n → 0 ≤ C i k ∧ C i k ≤ 99) (hs : ∃ i, i < n ∧ 0 < h i) {k : Nat} (hk : k < n) : s.d (n + k) ≤ 99 := by
  obtain ⟨i, hi, h0⟩ := hs
  have h1 := T.inv.src i (by omega) ⟨hi, h0⟩
  have h2 := T.fix i (n + k) (C i k) (by omega) (by omega) (.inl ⟨i, k, hi, hk, rfl, rfl, rfl⟩) (by omega)
  have := hC i k hi hk
  omega
theorem Told.pot (T : Told F n C X h s) (hF : 100 ≤ F) (hC : ∀ i k, i < n → k < n → 0 ≤ C i k ∧ C i k ≤ 99) (hs : ∃ i, i < n ∧ 0 < h i) : Pot (Arc n C X) (2 * n) s.d := by
  intro x y c hx hy hg
  by_cases hlt : s.d x < F
  · exact T.fix x y c hx hy hg hlt
  · rcases hg with ⟨i, k, hi, hk, rfl, rfl, rfl⟩ | ⟨i, k, hi, hk, h0, rfl, rfl, rfl⟩
    · have := T.inv.top _ hy; have := hC x k hi hk; omega
    · have := T.end_le hF hC hs hk; omega
theorem Told.tight (T : Told F n C X h s) (hF : 100 ≤ F) (hC : ∀ i k, i < n → k < n → 0 ≤ C i k ∧ C i k ≤ 99) (hs : ∃ i, i < n ∧ 0 < h i) {i k : Nat} (hi : i < n) (hk : k < n) (h0 : 0 < X i k) : s.d (n + k) = s.d i + C i k := by
  have hp := T.pot hF hC hs
  have h1 := hp i (n + k) _ (by omega) (by omega) (.inl ⟨i, k, hi, hk, rfl, rfl, rfl⟩)
  have h2 := hp (n + k) i _ (by omega) (by omega) (.inr ⟨i, k, hi, hk, h0, rfl, rfl, rfl⟩)
  omega
/-- The spot before an end. -/
theorem Told.behind (T : Told F n C X h s) (hF : 100 ≤ F) (hC : ∀ i k, i < n → k < n → 0 ≤ C i k ∧ C i k ≤ 99) (hs : ∃ i, i < n ∧ 0 < h i) {k : Nat} (hk : k < n) : ∃ i : Nat, i < n ∧ s.b (n + k) = (i : Int) ∧ s.d (n + k) = s.d i + C i k ∧ s.d i < F := by
  rcases T.inv.pre (n + k) (by omega) with ⟨_, h3 | ⟨_, h3, _⟩⟩ | ⟨x, c, hx, h3, hg, _⟩
  · have := T.end_le hF hC hs hk; omega
  · omega
  · obtain ⟨_, c', hg', h4, h5⟩ := T.inv.tight T.fix (by omega) h3
    rcases hg' with ⟨i, k', hi, hk', rfl, e, rfl⟩ | ⟨i, k', hi, hk', h0, rfl, e, rfl⟩
    · obtain rfl : k = k' := by omega
      exact ⟨x, hi, h3, h4, h5⟩
    · omega
/-- The spot before another one of the first spread. -/
theorem Told.before (T : Told F n C X h s) {i : Nat} (hi : i < n) (hlt : s.d i < F) : (s.b i = -1 ∧ s.d i = 0 ∧ 0 < h i) ∨ ∃ k : Nat, k < n ∧ s.b i = ((n + k : Nat) : Int) ∧ 0 < X i k ∧ s.d i = s.d (n + k) - C i k := by
  rcases T.inv.pre i (by omega) with ⟨h1, h3 | ⟨h3, _, h4⟩⟩ | ⟨x, c, hx, h3, hg, _⟩
  · omega
  · exact .inl ⟨h1, h3, h4⟩
  · obtain ⟨_, c', hg', h4, h5⟩ := T.inv.tight T.fix (by omega) h3
    rcases hg' with ⟨i', k', hi', hk', rfl, e, rfl⟩ | ⟨i', k', hi', hk', h0, rfl, e, rfl⟩
    · omega
    · obtain rfl : i = i' := e
      exact .inr ⟨k', hk', h3, h0, by omega⟩
/-- How long the chains are. -/
theorem Told.dep (T : Told F n C X h s) : ∃ dep : Nat → Nat, (∀ y, y < 2 * n → dep y < 2 * n) ∧ ∀ x y, y < 2 * n → s.b y = ((x : Nat) : Int) → dep x < dep y := by
  refine ⟨fun y => if hy : y < 2 * n then (T.inv.rt y hy).choose else 0, fun y hy => ?_, fun x y hy hb => ?_⟩
  · simp only [dif_pos hy]
    exact (T.inv.rt y hy).choose_spec.lt T.inv hy
  · obtain ⟨hx, _⟩ := T.inv.tight T.fix hy hb
    simp only [dif_pos hy, dif_pos hx]
    have h1 := (T.inv.rt y hy).choose_spec
    have h2 := (T.inv.rt x hx).choose_spec
    have := (RtN.step hb h2).uniq h1
    omega

/-- A unit on its way back from the end 'best', come to the end k. -/
structure AugAt (n : Nat) (C X : Nat → Nat → Int) (s : BF) (dep : Nat → Nat) (best k : Nat) (Y : Nat → Nat → Int) : Prop where
  lt : k < n
  pos : ∀ i k, i < n → k < n → 0 ≤ Y i k
  tight : ∀ i k, i < n → k < n → 0 < Y i k → s.d (n + k) = s.d i + C i k
  rows : ∀ i, i < n → sumG n (Y i) = sumG n (X i)
  cols : ∀ m, m < n → sumG n (fun i => Y i m) = sumG n (fun i => X i m) + (if m = best then 1 else 0) - (if m = k then 1 else 0)
  keep : ∀ i, i < n → dep i < dep (n + k) → ∀ m, X i m ≤ Y i m
  cost : costN n C Y = costN n C X + s.d (n + best) - s.d (n + k)
theorem AugAt.start (T : Told F n C X h s) (hF : 100 ≤ F) (hC : ∀ i k, i < n → k < n → 0 ≤ C i k ∧ C i k ≤ 99) (hs : ∃ i, i < n ∧ 0 < h i) (hX : ∀ i k, i < n → k < n → 0 ≤ X i k) {best : Nat} (hb : best < n) (dep : Nat → Nat) : AugAt n C X s dep best best X :=
  ⟨hb, hX, fun i k hi hk h0 => T.tight hF hC hs hi hk h0, fun _ _ => rfl, fun m hm => by omega, fun _ _ _ _ => Int.le_refl _, by omega⟩
theorem AugAt.next {dep : Nat → Nat} {best k i k2 : Nat} {Y : Nat → Nat → Int} (A : AugAt n C X s dep best k Y) (hi : i < n) (hk2 : k2 < n) (hd1 : dep i < dep (n + k)) (hd2 : dep (n + k2) < dep i)
    (t1 : s.d (n + k) = s.d i + C i k) (t2 : s.d i = s.d (n + k2) - C i k2) (h0 : 0 < X i k2) : AugAt n C X s dep best k2 (upd2 (upd2 Y i k (Y i k + 1)) i k2 (upd2 Y i k (Y i k + 1) i k2 - 1)) ∧ 1 ≤ upd2 Y i k (Y i k + 1) i k2 := by
  have hk := A.lt
  have hkp := A.keep i hi hd1
  have h1 : ∀ m, Y i m ≤ upd2 Y i k (Y i k + 1) i m := fun m => by
    by_cases e : m = k
    · subst e; rw [upd2_at]; omega
    · rw [upd2_ne _ _ (fun e2 => e e2.2)]; exact Int.le_refl _
  have h2 : 1 ≤ upd2 Y i k (Y i k + 1) i k2 := by have := h1 k2; have := hkp k2; omega
  refine ⟨⟨hk2, fun i' k' hi' hk' => ?_, fun i' k' hi' hk' h3 => ?_, fun i' hi' => ?_, fun m hm => ?_, fun i' hi' hd m => ?_, ?_⟩, h2⟩
  · by_cases e : i' = i ∧ k' = k2
    · obtain ⟨rfl, rfl⟩ := e; rw [upd2_at]; omega
    · rw [upd2_ne _ _ e]
      by_cases e : i' = i ∧ k' = k
      · obtain ⟨rfl, rfl⟩ := e; rw [upd2_at]; have := A.pos i' k' hi' hk'; omega
      · rw [upd2_ne _ _ e]; exact A.pos i' k' hi' hk'
  · by_cases e : i' = i ∧ k' = k2
    · obtain ⟨rfl, rfl⟩ := e; omega
    · rw [upd2_ne _ _ e] at h3
      by_cases e : i' = i ∧ k' = k
      · obtain ⟨rfl, rfl⟩ := e; exact t1
      · rw [upd2_ne _ _ e] at h3; exact A.tight i' k' hi' hk' h3
  · by_cases e : i' = i
    · subst e
      rw [upd2_row, sumG_upd _ _ hk2, upd2_row, sumG_upd _ _ hk, A.rows i' hi']; omega
    · rw [upd2_rowNe _ _ _ e, upd2_rowNe _ _ _ e]; exact A.rows i' hi'
  · have h4 := A.cols m hm
    by_cases e2 : m = k2
    · subst e2
      rw [upd2_colAt, sumG_upd _ _ hi]
      by_cases e1 : m = k
      · subst e1; rw [upd2_colAt, sumG_upd _ _ hi, h4, upd2_at]; omega
      · rw [upd2_col _ _ e1, h4, upd2_ne _ _ (fun e => e1 e.2)]; omega
    · rw [upd2_col _ _ e2]
      by_cases e1 : m = k
      · subst e1; rw [upd2_colAt, sumG_upd _ _ hi, h4, if_neg e2]; simp; omega
      · rw [upd2_col _ _ e1, h4, if_neg e1, if_neg e2]
  · have e : i' ≠ i := by rintro rfl; omega
    rw [upd2_rowNe _ _ _ e, upd2_rowNe _ _ _ e]
    exact A.keep i' hi' (by omega) m
  · rw [costN_upd _ _ _ hi hk2, costN_upd _ _ _ hi hk, A.cost, show upd2 Y i k (Y i k + 1) i k2 - 1 - upd2 Y i k (Y i k + 1) i k2 = -1 by omega, show Y i k + 1 - Y i k = 1 by omega]; omega
theorem AugAt.done (H : Flow n C X p q h l B F) (T : Told F n C X h s) (hF : 100 ≤ F) (hC : ∀ i k, i < n → k < n → 0 ≤ C i k ∧ C i k ≤ 99) {dep : Nat → Nat} {best k i : Nat} {Y : Nat → Nat → Int} (A : AugAt n C X s dep best k Y) (hb : best < n) (hlb : 0 < l best) (hi : i < n)
    (t1 : s.d (n + k) = s.d i + C i k) (t2 : s.d i = 0) (h0 : 0 < h i) :
    Flow n C (upd2 Y i k (Y i k + 1)) p q (updI h i (h i - 1)) (updI l best (l best - 1)) (B + F) F ∧ costN n C (upd2 Y i k (Y i k + 1)) = costN n C X + s.d (n + best) := by
  have hk := A.lt
  refine ⟨⟨fun i' k' hi' hk' => ?_, fun i' hi' => ?_, fun m hm => ?_, fun i' hi' => ?_, fun m hm => ?_, s.d, ?_, fun y hy => ?_⟩, ?_⟩
  · by_cases e : i' = i ∧ k' = k
    · obtain ⟨rfl, rfl⟩ := e; rw [upd2_at]; have := A.pos i' k' hi' hk'; omega
    · rw [upd2_ne _ _ e]; exact A.pos i' k' hi' hk'
  · by_cases e : i' = i
    · subst e; rw [upd2_row, sumG_upd _ _ hk, A.rows i' hi', H.rows i' hi', updI_at]; omega
    · rw [upd2_rowNe _ _ _ e, A.rows i' hi', H.rows i' hi', updI_ne _ _ e]
  · have h4 := A.cols m hm
    have h5 := H.cols m hm
    by_cases e1 : m = k
    · subst e1
      rw [upd2_colAt, sumG_upd _ _ hi, h4, h5]
      by_cases e2 : m = best
      · subst e2; rw [updI_at]; simp; omega
      · rw [updI_ne _ _ e2, if_neg e2]; simp; omega
    · rw [upd2_col _ _ e1, h4, h5, if_neg e1]
      by_cases e2 : m = best
      · subst e2; rw [updI_at]; simp; omega
      · rw [updI_ne _ _ e2, if_neg e2]; omega
  · by_cases e : i' = i
    · subst e; rw [updI_at]; omega
    · rw [updI_ne _ _ e]; exact H.hpos i' hi'
  · by_cases e : m = best
    · subst e; rw [updI_at]; omega
    · rw [updI_ne _ _ e]; exact H.lpos m hm
  · intro x y c hx hy hg
    rcases hg with ⟨i', k', hi', hk', rfl, rfl, rfl⟩ | ⟨i', k', hi', hk', h3, rfl, rfl, rfl⟩
    · exact T.pot hF hC ⟨i, hi, h0⟩ _ _ _ hx hy (.inl ⟨x, k', hi', hk', rfl, rfl, rfl⟩)
    · have : s.d (n + k') = s.d y + C y k' := by
        by_cases e : y = i ∧ k' = k
        · obtain ⟨rfl, rfl⟩ := e; exact t1
        · rw [upd2_ne _ _ e] at h3; exact A.tight y k' hi' hk' h3
      omega
  · have := H.low (by omega) T.inv hy
    omega
  · rw [costN_upd _ _ _ hi hk, A.cost, show Y i k + 1 - Y i k = 1 by omega]; omega

/-- A table of units with given rows and columns. -/
def PlanN (n : Nat) (Y : Nat → Nat → Int) (p q : Nat → Int) : Prop := (∀ i k, i < n → k < n → 0 ≤ Y i k) ∧ (∀ i, i < n → sumG n (Y i) = p i) ∧ ∀ k, k < n → sumG n (fun i => Y i k) = q k
/-- Potentials bound the cost of plans from below. -/
theorem plan_ge {Y : Nat → Nat → Int} {u v : Nat → Int} (hY : PlanN n Y p q) (hp : ∀ i k, i < n → k < n → v k - u i ≤ C i k) : sumG n (fun k => q k * v k) - sumG n (fun i => p i * u i) ≤ costN n C Y := by
  obtain ⟨h1, h2, h3⟩ := hY
  have e : sumG n (fun k => q k * v k) - sumG n (fun i => p i * u i) = sumG n fun i => sumG n fun k => Y i k * (v k - u i) := by
    have e1 : sumG n (fun k => q k * v k) = sumG n fun i => sumG n fun k => Y i k * v k := by
      rw [sumG_swap]
      refine sumG_congr fun k hk => ?_
      rw [sumG_mul n (fun i => Y i k), h3 k hk]
    have e2 : sumG n (fun i => p i * u i) = sumG n fun i => sumG n fun k => Y i k * u i := by
      refine sumG_congr fun i hi => ?_
      rw [sumG_mul n (Y i), h2 i hi]
    rw [e1, e2, ← sumG_sub]
    refine sumG_congr fun i hi => ?_
    rw [← sumG_sub]
    refine sumG_congr fun k hk => ?_
    rw [Int.mul_sub]
  rw [e]
  exact sumG_le fun i hi => sumG_le fun k hk => Int.mul_le_mul_of_nonneg_left (hp i k hi hk) (h1 i k hi hk)
theorem plan_eq {Y : Nat → Nat → Int} {u v : Nat → Int} (hY : PlanN n Y p q) (ht : ∀ i k, i < n → k < n → 0 < Y i k → v k - u i = C i k) : costN n C Y = sumG n (fun k => q k * v k) - sumG n (fun i => p i * u i) := by
  obtain ⟨h1, h2, h3⟩ := hY
  have e1 : sumG n (fun k => q k * v k) = sumG n fun i => sumG n fun k => Y i k * v k := by
    rw [sumG_swap]
    refine sumG_congr fun k hk => ?_
    rw [sumG_mul n (fun i => Y i k), h3 k hk]
  have e2 : sumG n (fun i => p i * u i) = sumG n fun i => sumG n fun k => Y i k * u i := by
    refine sumG_congr fun i hi => ?_
    rw [sumG_mul n (Y i), h2 i hi]
  rw [e1, e2, ← sumG_sub]
  refine sumG_congr fun i hi => ?_
  rw [← sumG_sub]
  refine sumG_congr fun k hk => ?_
  rw [← Int.mul_sub]
  by_cases h0 : 0 < Y i k
  · rw [ht i k hi hk h0]
  · have : Y i k = 0 := by have := h1 i k hi hk; omega
    rw [this]; simp
theorem Flow.plan (H : Flow n C X p q h l B F) (hh : ∀ i, i < n → h i = 0) (hl : ∀ k, k < n → l k = 0) : PlanN n X p q :=
  ⟨H.pos, fun i hi => by rw [H.rows i hi, hh i hi]; omega, fun k hk => by rw [H.cols k hk, hl k hk]; omega⟩
/-- A full flow has the least cost. -/
theorem Flow.least (H : Flow n C X p q h l B F) (hh : ∀ i, i < n → h i = 0) (hl : ∀ k, k < n → l k = 0) {Y : Nat → Nat → Int} (hY : PlanN n Y p q) : costN n C X ≤ costN n C Y := by
  obtain ⟨π, hp, _⟩ := H.pot
  have h1 := plan_ge (C := C) (u := π) (v := fun k => π (n + k)) hY (fun i k hi hk => by
    have := hp i (n + k) _ (by omega) (by omega) (.inl ⟨i, k, hi, hk, rfl, rfl, rfl⟩); omega)
  have h2 := plan_eq (C := C) (u := π) (v := fun k => π (n + k)) (H.plan hh hl) (fun i k hi hk h0 => by
    have := hp i (n + k) _ (by omega) (by omega) (.inl ⟨i, k, hi, hk, rfl, rfl, rfl⟩)
    have := hp (n + k) i _ (by omega) (by omega) (.inr ⟨i, k, hi, hk, h0, rfl, rfl, rfl⟩); omega)
  omega
/-- Where no unit has gone yet. -/
theorem Flow.start (hp : ∀ i, i < n → 0 ≤ p i) (hq : ∀ k, k < n → 0 ≤ q k) (hC : ∀ i k, i < n → k < n → 0 ≤ C i k ∧ C i k ≤ 99) (hF : 0 ≤ F) : Flow n C (fun _ _ => 0) p q p q 0 F := by
  refine ⟨fun _ _ _ _ => Int.le_refl _, fun i hi => by rw [sumG_const]; simp, fun k hk => by rw [sumG_const]; simp, hp, hq, fun _ => 0, ?_, fun y hy => by dsimp only; omega⟩
  intro x y c hx hy hg
  rcases hg with ⟨i, k, hi, hk, rfl, rfl, rfl⟩ | ⟨i, k, hi, hk, h0, _⟩
  · have := hC x k hi hk; dsimp only; omega
  · dsimp only at h0; omega
end
end Go.Proofs.Ytboekndojgbkfaa
