import Derived.Test.YtojipjjfndgbhaaPrice
/- Deals of houses: plain part. -/
set_option linter.unusedVariables false
namespace Go.Proofs.Ytojipjjfndgbhaa
open Go.ChangeShapes Go.WideShapes Go.ChangeAt Go.RowKit

def mayB (P : List Int) (t kd A B : Int) : Bool :=
  if kd = 1 then (B == 0) && decide (A ∈ kidsTo P t.toNat P.length)
  else if kd = 2 then B == 0
  else if kd = 3 then (B == 0) && inB A (-999) 999
  else if kd = 4 then (A == 0) && (B == 0)
  else if kd = 5 then inB A 0 ((P.length : Int) - 1)
  else if kd = 6 then decide (A ∈ endsM P)
  else false
def dW (W : List Int) (kd A B : Int) : List Int := if kd = 6 then W.set A.toNat B else W
def dX (X : List Int) (kd A B : Int) : List Int := if kd = 5 then X.set A.toNat B else X
def dAt (t kd A : Int) : Int := if kd = 1 then A else if kd = 4 then 0 else t
def dSt (s kd A : Int) : Int := if kd = 2 then A else s
def dPu (X : List Int) (t s u kd A : Int) : Int := if kd = 1 then u + s * (nth X A.toNat - nth X t.toNat) else if kd = 3 then u + A else u
def doneB (P W X : List Int) (t s u v kd A B : Int) : Bool := houseB P (dW W kd A B) (dX X kd A B) (dAt t kd A) (dSt s kd A) (dPu X t s u kd A) (v + 1)
/-- A deal of a valid house is possible. -/
def goB (P W X : List Int) (t s u v kd A B : Int) : Bool := mayB P t kd A B && doneB P W X t s u v kd A B
def dealB (P W X : List Int) (t s u v kd A B : Int) : Bool := houseB P W X t s u v && goB P W X t s u v kd A B
def dV (b : Bool) (x : Int) : Int := bif b then x else 0
theorem kids_mem {P : List Int} {x k : Nat} {A : Int} : A ∈ kidsTo P x k ↔ ∃ y : Nat, A = (y : Int) ∧ y < k ∧ nth P y = (x : Int) := by
  simp only [kidsTo, List.mem_map, List.mem_filter, List.mem_range, beq_iff_eq]
  exact ⟨fun ⟨y, ⟨h1, h2⟩, h3⟩ => ⟨y, h3.symm, h1, h2⟩, fun ⟨y, h3, h1, h2⟩ => ⟨y, ⟨h1, h2⟩, h3.symm⟩⟩
theorem ends_mem {P : List Int} {A : Int} : A ∈ endsM P ↔ ∃ y : Nat, A = (y : Int) ∧ y < P.length ∧ endB P y = true := by
  simp only [endsM, endsTo, List.mem_map, List.mem_filter, List.mem_range]
  exact ⟨fun ⟨y, ⟨h1, h2⟩, h3⟩ => ⟨y, h3.symm, h1, h2⟩, fun ⟨y, h3, h1, h2⟩ => ⟨y, ⟨h1, h2⟩, h3.symm⟩⟩
theorem ends_wei {P W : List Int} (h : treeB P W = true) {A : Int} : A ∈ endsM P ↔ inB A 0 ((P.length : Int) - 1) = true ∧ 0 < nth W A.toNat := by
  rw [ends_mem, inB_iff]
  constructor
  · rintro ⟨y, rfl, hy, he⟩
    have := weiOk_bd ((treeB_iff.1 h).2.2.2 y hy)
    exact ⟨by omega, by rw [Int.toNat_natCast]; exact this.2.2.1 he⟩
  · rintro ⟨h1, h2⟩
    obtain ⟨y, rfl⟩ := Int.eq_ofNat_of_zero_le h1.1
    rw [Int.toNat_natCast] at h2
    have hy : y < P.length := by omega
    exact ⟨y, rfl, hy, (weiOk_bd ((treeB_iff.1 h).2.2.2 y hy)).2.2.2 h2⟩
theorem houseB_all {P W X : List Int} {x s u v : Int} (h : houseB P W X x s u v = true) : (0 ≤ x ∧ x < P.length) ∧ (-20 ≤ s ∧ s ≤ 20) ∧ (-1000000 ≤ u ∧ u ≤ 1000000) ∧ (0 ≤ v ∧ v ≤ 1000) := by
  simp only [houseB, l3B, Bool.and_eq_true, inB_iff] at h
  obtain ⟨⟨⟨⟨⟨h1, h2⟩, h3⟩, h4⟩, h5⟩, h6⟩ := h
  exact ⟨by omega, h4, h5, h6⟩
theorem dPu_bd {s x y : Int} (hs : -20 ≤ s ∧ s ≤ 20) (hx : -999 ≤ x ∧ x ≤ 999) (hy : -999 ≤ y ∧ y ≤ 999) : -39960 ≤ s * (x - y) ∧ s * (x - y) ≤ 39960 := by
  have := natAbs_mul_le (M := 20) (N := 1998) (show ((s).natAbs : Int) ≤ 20 by omega) (show ((x - y).natAbs : Int) ≤ 1998 by omega)
  omega
end Go.Proofs.Ytojipjjfndgbhaa
