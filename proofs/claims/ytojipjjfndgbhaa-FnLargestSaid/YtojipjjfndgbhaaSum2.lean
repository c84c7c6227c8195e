import Derived.Test.YtojipjjfndgbhaaSum
/- Contracts of trees: sums, and the numbers of ends spread over the nodes. -/
set_option linter.unusedVariables false
namespace Go.Proofs.Ytojipjjfndgbhaa
open Go.ChangeShapes Go.WideShapes Go.ChangeAt Go.RowKit

/-- The numbers of the first i ends times their weights, at their nodes. -/
def spreadTo (P W V : List Int) : Nat → List Int
  | 0 => List.replicate P.length 0
  | i + 1 => (spreadTo P W V i).set (nth (endsM P) i).toNat (nth V i * nth W (nth (endsM P) i).toNat)
def spreadM (P W V : List Int) : List Int := spreadTo P W V (endsM P).length
theorem spreadTo_len (P W V : List Int) (i : Nat) : (spreadTo P W V i).length = P.length := by
  induction i with
  | zero => simp [spreadTo]
  | succ i ih => rw [spreadTo, List.length_set, ih]
theorem natAbs_mul_le {x y M N : Int} (h1 : (x.natAbs : Int) ≤ M) (h2 : (y.natAbs : Int) ≤ N) : ((x * y).natAbs : Int) ≤ M * N := by
  rw [Int.natAbs_mul]
  have : ((x.natAbs * y.natAbs : Nat) : Int) = (x.natAbs : Int) * (y.natAbs : Int) := by simp
  rw [this]
  exact Int.le_trans (Int.mul_le_mul_of_nonneg_right h1 (by omega)) (Int.mul_le_mul_of_nonneg_left h2 (by omega))
theorem spreadTo_bd {P W V : List Int} (hW : ∀ i, 0 ≤ nth W i ∧ nth W i ≤ 20) (hV : ∀ i, -999 ≤ nth V i ∧ nth V i ≤ 999) (i : Nat) : ∀ x, ((nth (spreadTo P W V i) x).natAbs : Int) ≤ 19980 := by
  induction i with
  | zero =>
    intro x; simp only [spreadTo]
    by_cases hx : x < P.length
    · rw [nth_eq (by simpa using hx)]; simp
    · rw [nth_out (by simp; omega)]; simp
  | succ i ih =>
    intro x
    rw [spreadTo]
    by_cases e : (nth (endsM P) i).toNat = x
    · subst e
      by_cases hx : (nth (endsM P) i).toNat < (spreadTo P W V i).length
      · rw [nth_set_same hx]
        have h1 := hV i; have h2 := hW (nth (endsM P) i).toNat
        have := natAbs_mul_le (M := 999) (N := 20) (show ((nth V i).natAbs : Int) ≤ 999 by omega) (show ((nth W (nth (endsM P) i).toNat).natAbs : Int) ≤ 20 by omega)
        omega
      · rw [List.set_eq_of_length_le (by omega)]; exact ih _
    · rw [nth_set_ne e]; exact ih x
theorem spread_abs {P W V : List Int} (hW : ∀ i, 0 ≤ nth W i ∧ nth W i ≤ 20) (hV : ∀ i, -999 ≤ nth V i ∧ nth V i ≤ 999) (hn : P.length ≤ 24) : absTo (spreadM P W V) P.length ≤ 479520 := by
  have := absTo_le (spreadTo_bd (P := P) hW hV (endsM P).length) P.length
  have : (19980 : Int) * P.length ≤ 479520 := by omega
  unfold spreadM; omega
def totalsM (P W V : List Int) : List Int := gathM P (spreadM P W V)
theorem totals_bd {P W V : List Int} (hp : parB P = true) (hW : ∀ i, 0 ≤ nth W i ∧ nth W i ≤ 20) (hV : ∀ i, -999 ≤ nth V i ∧ nth V i ≤ 999) (hn : P.length ≤ 24) (h1 : 1 ≤ P.length) (x : Nat) : ((nth (totalsM P W V) x).natAbs : Int) ≤ 479520 := by
  have := (gathTo_abs (a := spreadM P W V) hp (spreadTo_len _ _ _ _) (P.length - 1) (by omega)).2 x
  have := spread_abs hW hV hn
  rw [totalsM, gathM]; omega
theorem wei_abs {P W : List Int} (h : treeB P W = true) : absTo W P.length ≤ 480 := by
  have := absTo_le (xs := W) (M := 20) (fun i => by have := tree_wei h i; omega) P.length
  have := (treeB_iff.1 h).1
  omega

set_option maxRecDepth 100000 in
theorem sums_any (w : World) (p q : Option Addr) (n c m d : Nat) (P W : List Int) (hP : SL w p n c P) (hW : SL w q m d W) (ht : treeB P W = true) :
    Calls Try.prog 91 #[.agg #[.slice p n c, .slice q m d]] w (RetS (gathM P W) w) := by
  have HP := Lib.hid hP.len
  have HW := Lib.hid hW.len
  have hwa := wei_abs ht
  obtain ⟨t1, t2, t3, _⟩ := treeB_iff.1 ht
  rw [HP.out] at t1 hwa
  rw [HP.out, HW.out] at t2
  subst t2
  have hb : absTo W m ≤ 1000000000000 := by omega
  have hfr : Fr w (w.alloc (.cells #[.slice p m c, .slice q m d] 29)) := (Fr.refl w).alloc _
  go_enter Try.func91, Try.ntmps91
  go_wp2_with fail
  refine (gathered_any _ _ _ _ _ _ _ _ _ _ _ _ (hP.fr hfr) (hW.fr hfr) t3 t1.2 t1.1 rfl hb).mono ?_
  rintro e w1 ⟨a1, n1, c1, rfl, o1, f1, m1⟩
  go_wp2
  go_ret
  rw [World.size_alloc] at o1
  exact ⟨_, _, _, rfl, o1.mono (by omega), hfr.trans f1, m1⟩

theorem l2Sums_any (w : World) (p q : Option Addr) (n c m d : Nat) (P W : List Int) (hP : SL w p n c P) (hW : SL w q m d W) (ht : treeB P W = true) :
    Calls Try.prog 122 #[.agg #[.slice p n c, .slice q m d]] w (RetS (gathM P W) w) := by
  have HP := Lib.hid hP.len
  have HW := Lib.hid hW.len
  have hwa := wei_abs ht
  obtain ⟨t1, t2, t3, _⟩ := treeB_iff.1 ht
  rw [HP.out] at t1 hwa
  rw [HP.out, HW.out] at t2
  subst t2
  have Hp := Lib.hid t3
  have hbd : Hid (∀ j, j + 1 ≤ m → ∀ i, ((nth (gathTo P W j) i).natAbs : Int) ≤ 480) := Lib.hid (fun j hj i => by
    have := (gathTo_abs (a := W) t3 (by have := HP.out; have := HW.out; omega) j (by have := HP.out; omega)).2 i
    rw [HP.out] at this; omega)
  clear t3 hwa ht
  have hfr : Fr w (w.alloc (.cells #[.slice p m c, .slice q m d] 29)) := (Fr.refl w).alloc _
  go_enter Try.func122, Try.ntmps122
  go_wp2_with fail
  refine (l1Own_any _ _ _ _ _ (hW.fr hfr) (by omega)).mono ?_
  rintro e w1 ⟨a1, n1, c1, rfl, o1, f1, _⟩
  obtain rfl : n1 = m := by rw [← o1.len, HW.out]
  have z1 := f1.size
  simp only [World.size_alloc] at z1
  rw [World.size_alloc] at o1
  go_wp2
  go_loopw [4] (fun i wr => ∃ x : Nat, x < n1 ∧ i = .int .i64 x ∧ Own (w.heap.size + 1) wr a1 n1 c1 (gathTo P W (n1 - 1 - x)) ∧ Fr (w.alloc (.cells #[.slice p n1 c, .slice q n1 d] 29)) wr) (fun i _ => (intOf i).toNat)
  case atStart => exact ⟨n1 - 1, by omega, congrArg (Value.int .i64) (by omega), by rw [Nat.sub_self]; exact o1, f1⟩
  case round =>
    clear o1 f1
    obtain ⟨x, hx, rfl, ho, hf⟩ := hrel
    have hF : Fr w wr := hfr.trans hf
    by_cases h0 : 0 < x
    · have hbox := hf.newCell (j := 0) (v := .slice p n1 c) rfl
      obtain ⟨bp, op, rfl, hcp⟩ := (hP.fr hF).cells.resolve_left (by omega)
      replace hcp := hcp x hx
      obtain ⟨y, hy⟩ := Int.eq_ofNat_of_zero_le (by have := (parB_iff.1 Hp.out).2 x (by rw [HP.out]; exact hx) h0; omega : 0 ≤ nth P x)
      have hyx : y < x := by have := (parB_iff.1 Hp.out).2 x (by rw [HP.out]; exact hx) h0; omega
      have HG : Hid (gathTo P W (n1 - 1 - (x - 1)) = (gathTo P W (n1 - 1 - x)).set y (nth (gathTo P W (n1 - 1 - x)) y + nth (gathTo P W (n1 - 1 - x)) x)) := Lib.hid (by
        rw [show n1 - 1 - (x - 1) = (n1 - 1 - x) + 1 by omega, gathTo, gathS, HP.out, show n1 - 1 - (n1 - 1 - x) = x by omega, hy]; simp)
      rw [hy] at hcp
      clear hy
      obtain ⟨g, rfl, hB, hlt2, hcc, hfro⟩ := ho.op (by omega)
      have hcx := hcc x hx
      have hcy := hcc y (by omega)
      replace hfro := hfro y
      clear hcc
      have b1 := hbd.out (n1 - 1 - x) (by omega) x
      have b2 := hbd.out (n1 - 1 - x) (by omega) y
      have i1 : (0 : Int) ≤ (x : Int) := by omega
      have i2 : (x : Int) < (n1 : Int) := by omega
      have i3 : (0 : Int) ≤ (y : Int) := by omega
      have i4 : (y : Int) < (n1 : Int) := by omega
      have hxd : decide (0 < x) = true := by simp; omega
      go_wp2
      have e1 : IntKind.i64.wrap (nth (gathTo P W (n1 - 1 - x)) y + nth (gathTo P W (n1 - 1 - x)) x) = nth (gathTo P W (n1 - 1 - x)) y + nth (gathTo P W (n1 - 1 - x)) x := IntWalk.i64_in _ (by omega)
      go_region
      clear e1
      go_wp2
      go_roundw
      case rel =>
        refine ⟨x - 1, by omega, congrArg (Value.int .i64) (by omega), ?_, ?_⟩
        · rw [HG.out]; exact (ho.drewN 1).set rfl (by omega) (by unfold I64; omega)
        · exact (hf.drew' 1).setCell (by simp; omega) _
      case measure => simp [intOf]; omega
    · obtain rfl : x = 0 := by omega
      have HM : Hid (gathTo P W (n1 - 1 - 0) = gathM P W) := Lib.hid (by rw [gathM, HP.out]; rfl)
      rw [HM.out] at ho
      go_wp2
      go_ret
      exact ⟨_, _, _, rfl, ho.mono (by omega), hF, by omega⟩

end Go.Proofs.Ytojipjjfndgbhaa
