import Derived.Test.YtolnloeapbplkaaDoorLine
import Derived.Test.YtolnloeapbplkaaDoorApp
/- Slices of strings of the call's own; l1Split. -/
set_option linter.unusedVariables false
namespace Go.Proofs.YtolnloeapbplkaaDoor
open Go.ChangeShapes Go.WideShapes Go.ChangeAt Go.RowKit

structure OwnT (B : Nat) (w : World) (a : Option Addr) (n cap : Nat) (xs : List ByteArray) : Prop where
  row : w.ownsRow B 9 1 (.slice a n cap) n (xs.map Value.string)
section
variable {B : Nat} {w w' : World} {a : Option Addr} {n cap : Nat} {xs : List ByteArray}
theorem OwnT.len (h : OwnT B w a n cap xs) : xs.length = n := by simpa using h.row.1
theorem OwnT.cellAt (h : OwnT B w a n cap xs) {g : Nat} (ha : a = some ⟨g, 0, none⟩) {i : Nat} {x : ByteArray} (hi : xs[i]? = some x) : w.cell? ⟨g, i, none⟩ = some (.string x) := by
  have hc := h.row.cells (g := g) (by simp [Value.ownBlock, ha]) i (.string x) (by simp [hi])
  have hadd : (⟨g, 0, none⟩ : Addr).add i = ⟨g, i, none⟩ := by unfold Addr.add; split <;> simp_all
  rwa [hadd] at hc
theorem OwnT.blk (h : OwnT B w a n cap xs) : ∀ k, blkOf a = some k → B ≤ k ∧ k < w.heap.size := by
  intro k hk
  refine h.row.lt k ?_
  cases a with
  | none => simp [blkOf] at hk
  | some x => simpa [blkOf, Value.ownBlock] using hk
theorem OwnT.op (h : OwnT B w a n cap xs) (hn : 0 < n) : ∃ g, a = some ⟨g, 0, none⟩ ∧ B ≤ g := by
  rcases h.row.2 with ⟨h2, h3⟩ | ⟨g, cap', cur, h2, h3, _⟩
  · omega
  · simp only [Value.slice.injEq] at h2
    exact ⟨g, h2.1, h3⟩
theorem OwnT.fr (h : OwnT B w a n cap xs) (f : Fr w w') : OwnT B w' a n cap xs := by
  refine ⟨⟨h.row.1, ?_⟩⟩
  rcases h.row.2 with h2 | ⟨g, cap', cur, h2, h3, h4, h5⟩
  · exact .inl h2
  · refine .inr ⟨g, cap', cur, h2, h3, ?_, h5⟩
    rw [f.block g (Array.getElem?_eq_some_iff.1 h4).1]; exact h4
theorem OwnT.made0 (w : World) (hB : B ≤ w.heap.size) : OwnT B (w.alloc (.cells #[] 9)) (some ⟨w.heap.size, 0, none⟩) 0 0 [] :=
  ⟨⟨by simp, .inr ⟨w.heap.size, 0, #[], rfl, hB, heap_alloc_new w _, Nat.le_refl _, by unfold maxLen; omega, by simp, by simp⟩⟩⟩
end
theorem infoStr : (Tryd.prog.info? 9).map (fun i => (i.zero, i.size, i.bytes)) = some (some (.string ⟨#[]⟩), 1, 16) := by kernel_rfl
theorem ap_str (W : World) {ops : Array Oper} {rest : List Oper} {o : Oper} {act : Act} {Q : Exit → Act → World → Prop} (hgd : o.guard = none) (s x : Operand)
    (ho : o.op = .call { callee := .builtin .append, args := #[s, x], argTypes := #[108, 108] }) (B : Nat) (p : Option Addr) (n c : Nat) (xs : List ByteArray) (z : ByteArray)
    (hs : act.eval s = .slice p n c) (hx : act.eval x = .slice (some ⟨W.heap.size, 0, none⟩) 1 1) (hown : OwnT B W p n c xs) (hB : B ≤ W.heap.size) (hn : n ≤ 4194304)
    (h : ∀ g c' w', OwnT B w' (some ⟨g, 0, none⟩) (n + 1) c' (xs ++ [z]) → W.grownBy w' (blkOf p) → wpList Tryd.prog ops Q rest (act.put o.dst (.slice (some ⟨g, 0, none⟩) (n + 1) c')) w') :
    wpList Tryd.prog ops Q (o :: rest) act (W.alloc (.cells #[.string z] 9)) := by
  obtain ⟨i0, hi, hz0, hz1, hz2⟩ := info_parts infoStr
  refine ap_own _ hgd s x 108 9 ho i0 (.string ⟨#[]⟩) 16 Tryd.underlying108 hi hz0 hz1 hz2 rfl B p n c _ hs (hown.row.alloc _) ⟨W.heap.size, 0, none⟩ 1 1 [.string z] hx rfl ?_ ?_ (by omega) (by unfold maxLen; omega) (by omega) (by simp; omega) ?_
  · intro j u hu
    have hj : j = 0 := by
      rcases j with _ | j
      · rfl
      · simp at hu
    subst hj
    have hadd : (⟨W.heap.size, 0, none⟩ : Addr).add 0 = ⟨W.heap.size, 0, none⟩ := by simp [Addr.add]
    rw [hadd, cell_of_row _ W.heap.size 0 #[.string z] 9 (0, 0) (heap_alloc_new W _)]
    simpa using hu
  · intro u hu; simp at hu; subst hu; rfl
  · intro g c' w' h1 h2 h3
    have hg : W.grownBy w' (blkOf p) := grownBy_trans (World.grownBy_alloc W _ _) h2
    exact h g c' w' ⟨by simpa using h1⟩ hg

/-- What l1Split has cut off behind k bytes. -/
def SplitTo (b : UInt8) (l : List UInt8) (k f : Nat) (xs : List ByteArray) : Prop :=
  (b ∉ l.take k ∧ xs = [] ∧ f = 0) ∨ (b ∈ l.take k ∧ 1 ≤ xs.length ∧ xs[0]? = some (ba (ahead b l)))
def Pieces (b : UInt8) (l : List UInt8) (xs : List ByteArray) : Prop := xs[0]? = some (ba (ahead b l)) ∧ (2 ≤ xs.length ↔ b ∈ l)
theorem bl_extract0 (s : ByteArray) (k : Nat) (hk : k ≤ s.size) : s.extract 0 k = ba ((bl s).take k) := ba_eq (by
  unfold bl
  rw [ByteArray.data_extract, Array.toList_extract]
  simp [List.extract])
theorem ahead_take {b : UInt8} {l : List UInt8} {k : Nat} (h : b ∉ l.take k) (hk : l[k]? = some b) : ahead b l = l.take k := by
  have hlt : k < l.length := by
    rcases Nat.lt_or_ge k l.length with h1 | h1
    · exact h1
    · rw [List.getElem?_eq_none h1] at hk; cases hk
  have e : l = l.take k ++ b :: l.drop (k + 1) := by
    have h2 : l[k] = b := by rw [List.getElem?_eq_getElem hlt] at hk; exact Option.some.inj hk
    conv => lhs; rw [← List.take_append_drop k l, List.drop_eq_getElem_cons hlt, h2]
  conv => lhs; rw [e]
  exact ahead_app h
theorem SplitTo.hit {b : UInt8} {s : ByteArray} {k f : Nat} {xs : List ByteArray} (h : SplitTo b (bl s) k f xs) (hk : k < s.size) (he : s[k] = b) (f' : Nat) : SplitTo b (bl s) (k + 1) f' (xs ++ [s.extract f k]) := by
  have hg : (bl s)[k]? = some b := by unfold bl; rw [← he]; simp [hk]; rfl
  have hm : b ∈ (bl s).take (k + 1) := by rw [bl_take s k hk, he]; simp
  rcases h with ⟨h1, rfl, rfl⟩ | ⟨h1, h2, h3⟩
  · exact .inr ⟨hm, by simp, by rw [ahead_take h1 hg, ← bl_extract0 s k (by omega)]; rfl⟩
  · exact .inr ⟨hm, by simp, by rw [List.getElem?_append_left (by omega)]; exact h3⟩
theorem SplitTo.miss {b : UInt8} {s : ByteArray} {k f : Nat} {xs : List ByteArray} (h : SplitTo b (bl s) k f xs) (hk : k < s.size) (he : s[k] ≠ b) : SplitTo b (bl s) (k + 1) f xs := by
  have e := bl_take s k hk
  rcases h with ⟨h1, h2, h3⟩ | ⟨h1, h2, h3⟩
  · exact .inl ⟨by rw [e]; simp only [List.mem_append, List.mem_singleton, not_or]; exact ⟨h1, fun x => he x.symm⟩, h2, h3⟩
  · exact .inr ⟨by rw [e]; simp only [List.mem_append]; exact .inl h1, h2, h3⟩
theorem SplitTo.done {b : UInt8} {s : ByteArray} {f : Nat} {xs : List ByteArray} (h : SplitTo b (bl s) s.size f xs) : Pieces b (bl s) (xs ++ [s.extract f s.size]) := by
  have e : (bl s).take s.size = bl s := bl_all s s.size (Nat.le_refl _)
  rw [SplitTo, e] at h
  rcases h with ⟨h1, rfl, rfl⟩ | ⟨h1, h2, h3⟩
  · exact ⟨by rw [bl_extract0 s _ (Nat.le_refl _), e, ahead_all h1]; rfl, by simp [h1]⟩
  · exact ⟨by rw [List.getElem?_append_left (by omega)]; exact h3, by simp [h1]; omega⟩
set_option maxRecDepth 100000 in
theorem l1Split_any (s : ByteArray) (b : UInt8) (bn : Nat) (hbn : bn = b.toNat) (w : World) (hs : s.size ≤ 2097152) :
    Calls Tryd.prog 90 #[.string s, .int .u8 bn] w fun e w' => ∃ a n cap xs, e = .returned (.slice a n cap) ∧ OwnT w.heap.size w' a n cap xs ∧ Pieces b (bl s) xs ∧ Fr w w' ∧ n ≤ 2097153 := by
  have hmade := OwnT.made0 (B := w.heap.size) w (Nat.le_refl _)
  have hfa : Fr w (w.alloc (.cells #[] 9)) := (Fr.refl _).alloc _
  go_enter Tryd.func90, Tryd.ntmps90
  go_wp2
  go_loopw [5, 6, 7] (fun v f i wr => ∃ (k l cc q : Nat) (a : Option Addr) (xs : List ByteArray), k ≤ s.size ∧ q ≤ k ∧ l ≤ k ∧ i = .int .i64 k ∧ f = .int .i64 q ∧ v = .slice a l cc ∧ OwnT w.heap.size wr a l cc xs ∧ SplitTo b (bl s) k q xs ∧ Fr w wr) (fun _ _ i _ => s.size - (intOf i).toNat)
  case atStart => exact ⟨0, 0, 0, 0, _, [], by omega, by omega, by omega, rfl, rfl, rfl, hmade, .inl ⟨by simp, rfl, rfl⟩, hfa⟩
  case round =>
    clear hmade hfa
    obtain ⟨k, l, cc, q, a, xs, hk, hq, hl, rfl, rfl, rfl, ho, hS, hF⟩ := hrel
    by_cases hlt : k < s.size
    · by_cases he : s[k] = b
      · have HS := Lib.hid (hS.hit hlt he (k + 1))
        have hb : ((s[k].toNat : Int) == (bn : Int)) = true := by rw [he, hbn]; simp
        clear he hbn hS
        go_wp2_with (at_builtin; refine ap_str _ rfl _ _ rfl w.heap.size a l cc xs _ rfl rfl ho hF.size (by omega) ?_)
        intro g' c' w' k1 k2
        go_wp2
        go_roundw
        case rel => exact ⟨k + 1, l + 1, c', k + 1, _, _, by omega, by omega, by omega, by go_num, by go_num, rfl, k1, HS.out, hF.grown k2 (fun z hz => (ho.blk z hz).1)⟩
        case measure => simp [intOf]; omega
      · have HS := Lib.hid (hS.miss hlt he)
        have hb : ((s[k].toNat : Int) == (bn : Int)) = false := by
          rw [hbn, beq_eq_false_iff_ne]
          intro h
          exact he (UInt8.toNat_inj.1 (by omega))
        clear he hbn hS
        go_wp2
        go_roundw
        case rel => exact ⟨k + 1, l, cc, q, a, xs, by omega, by omega, by omega, by go_num, rfl, rfl, ho, HS.out, hF⟩
        case measure => simp [intOf]; omega
    · obtain rfl : k = s.size := by omega
      have HS := Lib.hid hS.done
      clear hS hbn
      go_wp2_with (at_builtin; refine ap_str _ rfl _ _ rfl w.heap.size a l cc xs _ rfl rfl ho hF.size (by omega) ?_)
      intro g' c' w' k1 k2
      go_wp2
      go_ret
      exact ⟨_, _, _, _, rfl, k1, HS.out, hF.grown k2 (fun z hz => (ho.blk z hz).1), by omega⟩

end Go.Proofs.YtolnloeapbplkaaDoor
