import Derived.Test.YtboekndojgbkfaaCore
/- Cheapest flows: relaxing along arcs, potentials, plain part. No statement is proved here. -/
set_option linter.unusedVariables false
namespace Go.Proofs.Ytboekndojgbkfaa

/-- Distances and the nodes before. -/
structure BF where
  d : Nat → Int
  b : Nat → Int
def updI (f : Nat → Int) (x : Nat) (v : Int) : Nat → Int := fun y => if y = x then v else f y
theorem updI_at (f : Nat → Int) (x : Nat) (v : Int) : updI f x v x = v := if_pos rfl
theorem updI_ne (f : Nat → Int) {x y : Nat} (v : Int) (h : y ≠ x) : updI f x v y = f y := if_neg h
/-- One relaxing. -/
def rlx (F c : Int) (x y : Nat) (s : BF) : BF := if s.d x < F ∧ s.d x + c < s.d y then ⟨updI s.d y (s.d x + c), updI s.b y x⟩ else s

/-- The node has a chain of nodes before it, j long. -/
inductive RtN (s : BF) : Nat → Nat → Prop
  | root {y : Nat} : s.b y = -1 → RtN s y 0
  | step {y x j : Nat} : s.b y = (x : Int) → RtN s x j → RtN s y (j + 1)

section
variable (F : Int) (G : Nat → Nat → Int → Prop) (N : Nat) (S : Nat → Prop)

structure Inv (s : BF) : Prop where
  pre : ∀ y, y < N → (s.b y = -1 ∧ (s.d y = F ∨ s.d y = 0 ∧ S y)) ∨ ∃ (x : Nat) (c : Int), x < N ∧ s.b y = (x : Int) ∧ G x y c ∧ s.d x + c ≤ s.d y ∧ s.d x < F
  src : ∀ y, y < N → S y → s.d y ≤ 0
  top : ∀ y, y < N → s.d y ≤ F
  rt : ∀ y, y < N → ∃ j, RtN s y j

/-- Some relaxings along arcs. -/
inductive Steps : BF → BF → Prop
  | refl (s : BF) : Steps s s
  | tail {s t : BF} {x y : Nat} {c : Int} : Steps s t → x < N → y < N → G x y c → Steps s (rlx F c x y t)
end

section
variable {F : Int} {G : Nat → Nat → Int → Prop} {N : Nat} {S : Nat → Prop}

theorem rlx_le (F c : Int) (x y : Nat) (s : BF) (z : Nat) : (rlx F c x y s).d z ≤ s.d z := by
  unfold rlx
  split
  · next h =>
    by_cases hz : z = y
    · subst hz; simp only [updI_at]; omega
    · simp only [updI_ne _ _ hz]; exact Int.le_refl _
  · exact Int.le_refl _
theorem Steps.le {s t : BF} (h : Steps F G N s t) (z : Nat) : t.d z ≤ s.d z := by
  induction h with
  | refl => exact Int.le_refl _
  | tail h _ _ _ ih => exact Int.le_trans (rlx_le _ _ _ _ _ _) ih
theorem Steps.trans {s t u : BF} (h : Steps F G N s t) (k : Steps F G N t u) : Steps F G N s u := by
  induction k with
  | refl => exact h
  | tail _ hx hy hg ih => exact ih.tail hx hy hg
theorem Steps.one {s : BF} {x y : Nat} {c : Int} (hx : x < N) (hy : y < N) (hg : G x y c) : Steps F G N s (rlx F c x y s) := (Steps.refl s).tail hx hy hg

/-- Potentials. -/
def Pot (G : Nat → Nat → Int → Prop) (N : Nat) (π : Nat → Int) : Prop := ∀ x y c, x < N → y < N → G x y c → π y ≤ π x + c

/-- Ahead of a node the reduced distances are no greater. -/
theorem Inv.low {s : BF} {π : Nat → Int} (h : Inv F G N S s) (hp : Pot G N π) {U : Int} (hU : ∀ y, y < N → π y ≤ U) (hF : ∀ y, y < N → π y ≤ F + U) {y j : Nat} (hy : y < N) (hr : RtN s y j) : π y - U ≤ s.d y := by
  induction hr with
  | @root y hb =>
    have h1 := hU y hy; have h2 := hF y hy
    rcases h.pre y hy with ⟨_, h3 | ⟨h3, _⟩⟩ | ⟨x, c, hx, h3, _⟩
    · omega
    · omega
    · rw [hb] at h3; omega
  | @step y x j hb _ ih =>
    rcases h.pre y hy with ⟨h3, _⟩ | ⟨x', c, hx, h3, hg, h4, _⟩
    · rw [hb] at h3; omega
    · rw [hb] at h3
      obtain rfl : x' = x := by omega
      have := ih hx
      have := hp _ _ _ hx hy hg
      omega
/-- A chain stays behind a relaxing of a node with a greater reduced distance. -/
theorem Inv.keepRt {s : BF} {π : Nat → Int} (h : Inv F G N S s) (hp : Pot G N π) {x y : Nat} {c : Int} {z j : Nat} (hz : z < N) (hr : RtN s z j) (hlt : s.d z - π z < s.d y - π y) (d' : Nat → Int) : RtN ⟨d', updI s.b y x⟩ z j := by
  induction hr with
  | @root z hb =>
    have hne : z ≠ y := by rintro rfl; omega
    exact .root (by show updI s.b y (x : Int) z = -1; rw [updI_ne _ _ hne]; exact hb)
  | @step z x' j hb _ ih =>
    have hne : z ≠ y := by rintro rfl; omega
    refine .step (x := x') (by show updI s.b y (x : Int) z = (x' : Int); rw [updI_ne _ _ hne]; exact hb) ?_
    rcases h.pre z hz with ⟨h3, _⟩ | ⟨x'', c', hx, h3, hg, h4, _⟩
    · rw [hb] at h3; omega
    · rw [hb] at h3
      obtain rfl : x'' = x' := by omega
      have := hp _ _ _ hx hz hg
      exact ih hx (by omega)
theorem Inv.rlx {s : BF} {π : Nat → Int} (h : Inv F G N S s) (hp : Pot G N π) {x y : Nat} {c : Int} (hx : x < N) (hy : y < N) (hg : G x y c) : Inv F G N S (rlx F c x y s) := by
  unfold Proofs.Ytboekndojgbkfaa.rlx
  split
  · next hc =>
    obtain ⟨hc1, hc2⟩ := hc
    have hpp := hp _ _ _ hx hy hg
    have hxy : x ≠ y := by rintro rfl; omega
    refine ⟨fun z hz => ?_, fun z hz hs => ?_, fun z hz => ?_, ?_⟩
    · by_cases e : z = y
      · subst e
        exact .inr ⟨x, c, hx, by simp only [updI_at], hg, by simp only [updI_at, updI_ne _ _ hxy]; omega, by simp only [updI_ne _ _ hxy]; exact hc1⟩
      · simp only [updI_ne _ _ e]
        rcases h.pre z hz with h1 | ⟨x', c', h1, h2, h3, h4, h5⟩
        · exact .inl h1
        · refine .inr ⟨x', c', h1, h2, h3, ?_, ?_⟩
          · by_cases e2 : x' = y
            · subst e2; simp only [updI_at]; omega
            · simp only [updI_ne _ _ e2]; exact h4
          · by_cases e2 : x' = y
            · subst e2; simp only [updI_at]; have := h.top x' hy; omega
            · simp only [updI_ne _ _ e2]; exact h5
    · by_cases e : z = y
      · subst e; simp only [updI_at]; have := h.src z hz hs; omega
      · simp only [updI_ne _ _ e]; exact h.src z hz hs
    · by_cases e : z = y
      · subst e; simp only [updI_at]; have := h.top z hz; omega
      · simp only [updI_ne _ _ e]; exact h.top z hz
    · obtain ⟨j, hj⟩ := h.rt x hx
      have hxr : RtN ⟨updI s.d y (s.d x + c), updI s.b y x⟩ x j := h.keepRt hp (c := c) hx hj (by omega) _
      have hyr : RtN ⟨updI s.d y (s.d x + c), updI s.b y x⟩ y (j + 1) := .step (x := x) (by simp only [updI_at]) hxr
      intro z hz
      obtain ⟨i, hi⟩ := h.rt z hz
      clear hj hxr
      induction hi with
      | @root z hb =>
        by_cases e : z = y
        · subst e; exact ⟨_, hyr⟩
        · exact ⟨0, .root (by simp only [updI_ne _ _ e]; exact hb)⟩
      | @step z x' i hb _ ih =>
        by_cases e : z = y
        · subst e; exact ⟨_, hyr⟩
        · rcases h.pre z hz with ⟨h3, _⟩ | ⟨x'', c', hx2, h3, _⟩
          · rw [hb] at h3; omega
          · rw [hb] at h3
            obtain rfl : x'' = x' := by omega
            obtain ⟨m, hm⟩ := ih hx2
            exact ⟨m + 1, .step (x := x'') (by simp only [updI_ne _ _ e]; exact hb) hm⟩
  · exact h
theorem Inv.steps {s t : BF} {π : Nat → Int} (h : Inv F G N S s) (hp : Pot G N π) (k : Steps F G N s t) : Inv F G N S t := by
  induction k with
  | refl => exact h
  | tail _ hx hy hg ih => exact ih.rlx hp hx hy hg

/-- The sum of the first numbers. -/
def sumG (n : Nat) (f : Nat → Int) : Int := match n with
  | 0 => 0
  | n + 1 => sumG n f + f n
theorem sumG_congr {n : Nat} {f g : Nat → Int} (h : ∀ i, i < n → f i = g i) : sumG n f = sumG n g := by
  induction n with
  | zero => rfl
  | succ n ih => rw [sumG, sumG, ih (fun i hi => h i (by omega)), h n (by omega)]
theorem sumG_le {n : Nat} {f g : Nat → Int} (h : ∀ i, i < n → f i ≤ g i) : sumG n f ≤ sumG n g := by
  induction n with
  | zero => exact Int.le_refl _
  | succ n ih => have := ih (fun i hi => h i (by omega)); have := h n (by omega); simp only [sumG]; omega
theorem sumG_upd {n : Nat} (f : Nat → Int) {x : Nat} (v : Int) (h : x < n) : sumG n (updI f x v) = sumG n f + (v - f x) := by
  induction n with
  | zero => omega
  | succ n ih =>
    by_cases e : x = n
    · subst e
      rw [sumG, sumG, updI_at, sumG_congr (g := f) (fun i hi => updI_ne _ _ (by omega))]; omega
    · rw [sumG, sumG, ih (by omega), updI_ne _ _ (by omega)]; omega
theorem sumG_add (n : Nat) (f g : Nat → Int) : sumG n (fun i => f i + g i) = sumG n f + sumG n g := by
  induction n with
  | zero => rfl
  | succ n ih => simp only [sumG, ih]; omega
theorem sumG_sub (n : Nat) (f g : Nat → Int) : sumG n (fun i => f i - g i) = sumG n f - sumG n g := by
  induction n with
  | zero => rfl
  | succ n ih => simp only [sumG, ih]; omega
theorem sumG_mul (n : Nat) (f : Nat → Int) (c : Int) : sumG n (fun i => f i * c) = sumG n f * c := by
  induction n with
  | zero => simp [sumG]
  | succ n ih => simp only [sumG, ih, Int.add_mul]
theorem sumG_swap (n m : Nat) (f : Nat → Nat → Int) : sumG n (fun i => sumG m (fun k => f i k)) = sumG m (fun k => sumG n (fun i => f i k)) := by
  induction n with
  | zero => simp only [sumG]; induction m with
    | zero => rfl
    | succ m ih => rw [sumG, ← ih]; rfl
  | succ n ih => simp only [sumG, ih, sumG_add]
theorem sumG_nonneg {n : Nat} {f : Nat → Int} (h : ∀ i, i < n → 0 ≤ f i) : 0 ≤ sumG n f := by
  induction n with
  | zero => exact Int.le_refl _
  | succ n ih => have := ih (fun i hi => h i (by omega)); have := h n (by omega); simp only [sumG]; omega
theorem sumG_one {n : Nat} {f : Nat → Int} (h : ∀ i, i < n → 0 ≤ f i) {i : Nat} (hi : i < n) : f i ≤ sumG n f := by
  induction n with
  | zero => omega
  | succ n ih =>
    have h1 := sumG_nonneg (f := f) (n := n) (fun i hi => h i (by omega)); have := h n (by omega)
    simp only [sumG]
    by_cases e : i = n
    · subst e; omega
    · have := ih (fun i hi => h i (by omega)) (by omega); omega
theorem sumG_pos {n : Nat} {f : Nat → Int} (h : 0 < sumG n f) : ∃ i, i < n ∧ 0 < f i := by
  induction n with
  | zero => simp [sumG] at h
  | succ n ih =>
    by_cases e : 0 < f n
    · exact ⟨n, by omega, e⟩
    · simp only [sumG] at h
      obtain ⟨i, hi, h2⟩ := ih (by omega)
      exact ⟨i, by omega, h2⟩

/-- What a relaxing does to the sum of the distances. -/
theorem rlx_sum (F c : Int) {x y N : Nat} (hy : y < N) (s : BF) : rlx F c x y s = s ∨ sumG N (rlx F c x y s).d < sumG N s.d := by
  unfold rlx
  split
  · next h => right; simp only []; rw [sumG_upd _ _ hy]; omega
  · exact .inl rfl
theorem Steps.sum {s t : BF} (h : Steps F G N s t) : t = s ∨ sumG N t.d < sumG N s.d := by
  induction h with
  | refl => exact .inl rfl
  | @tail t x y c _ _ hy _ ih =>
    rcases rlx_sum F c (x := x) hy t with h1 | h1
    · rw [h1]; exact ih
    · rcases ih with h2 | h2
      · subst h2; exact .inr h1
      · exact .inr (by omega)
theorem Steps.same {s t u : BF} (h : Steps F G N s t) (k : Steps F G N t u) (e : u = s) : t = s := by
  rcases h.sum with h1 | h1
  · exact h1
  · rcases k.sum with h2 | h2
    · rw [← h2]; exact e
    · rw [e] at h2; omega
theorem rlx_same {F c : Int} {x y : Nat} {s : BF} (h : rlx F c x y s = s) : ¬ (s.d x < F ∧ s.d x + c < s.d y) := by
  intro hc
  have := congrArg (fun t => t.d y) h
  rw [rlx, if_pos hc] at this
  simp only [updI_at] at this
  omega
/-- Nothing is left to relax. -/
def Fix (F : Int) (G : Nat → Nat → Int → Prop) (N : Nat) (s : BF) : Prop := ∀ x y c, x < N → y < N → G x y c → s.d x < F → s.d y ≤ s.d x + c
theorem rlx_fix {s : BF} (h : Fix F G N s) {x y : Nat} {c : Int} (hx : x < N) (hy : y < N) (hg : G x y c) : rlx F c x y s = s := by
  unfold rlx
  rw [if_neg]
  rintro ⟨h1, h2⟩
  have := h x y c hx hy hg h1
  omega
theorem Fix.steps {s t : BF} (h : Fix F G N s) (k : Steps F G N s t) : t = s := by
  induction k with
  | refl => rfl
  | tail _ hx hy hg ih => rw [ih]; exact rlx_fix h hx hy hg
/-- Arcs to the nodes before are tight at the end. -/
theorem Inv.tight {s : BF} (h : Inv F G N S s) (hf : Fix F G N s) {x y : Nat} (hy : y < N) (hb : s.b y = (x : Int)) : x < N ∧ ∃ c, G x y c ∧ s.d y = s.d x + c ∧ s.d x < F := by
  rcases h.pre y hy with ⟨h1, _⟩ | ⟨x', c, hx, h3, hg, h4, h5⟩
  · rw [hb] at h1; omega
  · rw [hb] at h3
    obtain rfl : x' = x := by omega
    have := hf _ _ _ hx hy hg h5
    exact ⟨hx, c, hg, by omega, h5⟩
theorem RtN.uniq {s : BF} {y i j : Nat} (h : RtN s y i) (k : RtN s y j) : i = j := by
  induction h generalizing j with
  | root hb => cases k with
    | root _ => rfl
    | step hb2 _ => rw [hb] at hb2; omega
  | @step y x i hb _ ih => cases k with
    | root hb2 => rw [hb] at hb2; omega
    | @step _ x' j' hb2 h2 =>
      rw [hb] at hb2
      obtain rfl : x' = x := by omega
      rw [ih h2]
/-- Different numbers below a bound are no more than it. -/
theorem nodup_le : ∀ (N : Nat) (l : List Nat), l.Nodup → (∀ x ∈ l, x < N) → l.length ≤ N
  | 0, l, _, h => by
    cases l with
    | nil => simp
    | cons a l => have := h a (by simp); omega
  | N + 1, l, hd, h => by
    have h1 := nodup_le N (l.erase N) (hd.erase N) (fun x hx => by
      have h2 := h x (List.mem_of_mem_erase hx)
      have h3 : x ≠ N := by rintro rfl; exact (hd.not_mem_erase) hx
      omega)
    rw [List.length_erase] at h1
    split at h1 <;> omega
theorem RtN.chain {s : BF} (h : Inv F G N S s) {y j : Nat} (hy : y < N) (hr : RtN s y j) : ∃ l : List Nat, l.length = j + 1 ∧ l.Nodup ∧ (∀ x ∈ l, x < N) ∧ ∀ x ∈ l, ∃ i, i ≤ j ∧ RtN s x i := by
  induction hr with
  | @root y hb => exact ⟨[y], rfl, by simp, by simpa using hy, fun x hx => by simp at hx; subst hx; exact ⟨0, Nat.le_refl _, .root hb⟩⟩
  | @step y x j hb hr ih =>
    rcases h.pre y hy with ⟨h3, _⟩ | ⟨x', c, hx, h3, _⟩
    · rw [hb] at h3; omega
    · rw [hb] at h3
      obtain rfl : x' = x := by omega
      obtain ⟨l, h1, h2, h4, h5⟩ := ih hx
      refine ⟨y :: l, by simp [h1], List.nodup_cons.2 ⟨fun hm => ?_, h2⟩, fun z hz => ?_, fun z hz => ?_⟩
      · obtain ⟨i, hi, hr2⟩ := h5 y hm
        have := (RtN.step hb hr).uniq hr2
        omega
      · rcases List.mem_cons.1 hz with rfl | hz
        · exact hy
        · exact h4 z hz
      · rcases List.mem_cons.1 hz with rfl | hz
        · exact ⟨j + 1, Nat.le_refl _, .step hb hr⟩
        · obtain ⟨i, hi, h6⟩ := h5 z hz
          exact ⟨i, by omega, h6⟩
theorem RtN.lt {s : BF} (h : Inv F G N S s) {y j : Nat} (hy : y < N) (hr : RtN s y j) : j < N := by
  obtain ⟨l, h1, h2, h3, _⟩ := RtN.chain h hy hr
  have := nodup_le N l h2 h3
  omega
end
end Go.Proofs.Ytboekndojgbkfaa
