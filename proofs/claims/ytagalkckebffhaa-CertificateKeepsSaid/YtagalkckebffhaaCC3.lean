/-
  Contracts of functions of the program, over the engine.
  No condition.
-/
import Derived.Test.YtagalkckebffhaaCC2
namespace Go.Proofs.Ytagalkckebffhaa
open Go.Eng
set_option linter.all false
attribute [local irreducible] DCallsG SWp Fct CallQ XCallQ LCallQ XLCallQ drun xrun

theorem take_snoc {α : Type} [Inhabited α] {l : List α} {i : Nat} (h : i < l.length) : l.take (i + 1) = l.take i ++ [l.getD i default] := by
  rw [List.take_succ_eq_append_getElem h]
  simp [List.getD_eq_getElem?_getD, List.getElem?_eq_getElem h]
theorem flat_snoc {α β : Type} [Inhabited α] (f : α → List β) (l : List α) {i : Nat} (h : i < l.length) : (l.take (i + 1)).flatMap f = (l.take i).flatMap f ++ f (l.getD i default) := by
  rw [take_snoc h]; simp
abbrev nums (r : List Int) : List UInt8 := r.flatMap fun n => beBytes 8 (un64 n)
def encRow (r : List Int) : List UInt8 := beBytes 2 (un64 ((r.length : Int) / 2)) ++ nums r
def encHead (l : List (List Int)) : List UInt8 := [82, 67, 1] ++ beBytes 2 (un64 (l.length : Int))
def encBody (l : List (List Int)) : List UInt8 := encHead l ++ l.flatMap encRow
def encAll (l : List (List Int)) : List UInt8 := encBody l ++ beBytes 4 (un64 (sumN (encBody l) : Nat))
def sizeI (l : List (List Int)) (i : Nat) : Nat := 9 + ((l.take i).map fun r => 2 + 8 * r.length).sum
theorem nums_len (r : List Int) : (nums r).length = 8 * r.length := by
  induction r with
  | nil => rfl
  | cons a r ih => simp only [nums, List.flatMap_cons, List.length_append, beBytes_length, List.length_cons] at *; omega
theorem encRow_len (r : List Int) : (encRow r).length = 2 + 8 * r.length := by
  unfold encRow; rw [List.length_append, beBytes_length, nums_len]
theorem sizeI_next (l : List (List Int)) {i : Nat} (h : i < l.length) : sizeI l (i + 1) = sizeI l i + (2 + 8 * (l.getD i default).length) := by
  unfold sizeI
  rw [take_snoc h]; simp; omega
theorem part_len (l : List (List Int)) : ∀ i, (encHead l ++ (l.take i).flatMap encRow).length + 4 = sizeI l i := fun i => by
  have : ∀ k : List (List Int), (k.flatMap encRow).length = (k.map fun r => 2 + 8 * r.length).sum := fun k => by
    induction k with
    | nil => rfl
    | cons a k ih => simp [encRow_len, ih]
  simp [encHead, beBytes_length, this, sizeI]; omega
theorem sizeI_le {l : List (List Int)} (h : ∀ i, i < l.length → (l.getD i default).length ≤ 8000) : ∀ i, i ≤ l.length → sizeI l i ≤ 9 + 64002 * i
  | 0, _ => by simp [sizeI]
  | i + 1, hi => by
    have := sizeI_le h i (by omega)
    have := h i (by omega)
    rw [sizeI_next l (by omega)]; omega
theorem encBody_len (l : List (List Int)) : (encBody l).length + 4 = sizeI l l.length := by
  have := part_len l l.length
  rwa [List.take_length] at this
theorem encAll_len (l : List (List Int)) : (encAll l).length = sizeI l l.length := by
  have := encBody_len l
  simp [encAll, beBytes_length]; omega
theorem full_row {l : List (List Int)} {k : Nat} (h : fullB l k = false) {i : Nat} (hi : i < l.length) : l.length ≤ k ∧ (l.getD i default).length ≤ 8000 := by
  unfold fullB at h
  simp only [Bool.or_eq_false_iff, decide_eq_false_iff_not, List.any_eq_false] at h
  have := h.2 _ (getD_mem hi)
  have h8 : ¬ 8000 < (l.getD i default).length := fun q => this (decide_eq_true q)
  omega
def encR (l : List (List Int)) : List UInt8 × Int := if rightE l ≠ 0 then ([], rightE l) else if 1048576 < sizeI l l.length then ([], 5) else (encAll l, 0)
def evM (x y : List Int) : Bool := (List.range (x.length / 2)).any fun j => decide (¬ x.getD (2 * j) default = y.getD (2 * j) default)
def wkP (x y : Int) : Bool := decide (y = -1) || (!decide (x = -1) && decide (x ≤ y))
def evW (x y : List Int) : Bool := (List.range (x.length / 2)).all fun j => wkP (x.getD (2 * j + 1) default) (y.getD (2 * j + 1) default)
def sizesB (a b : List (List Int)) : Bool := decide (a.length = b.length) && (List.range a.length).all fun i => decide ((a.getD i default).length = (b.getD i default).length)
def weakR (a b : List (List Int)) : Bool × Int :=
  if (fullB a 201 || fullB b 201) = true then (false, 4)
  else if sizesB a b = false then (false, 3)
  else if a.any oddB = true then (false, 1)
  else if ((List.range a.length).any fun i => evM (a.getD i default) (b.getD i default)) = true then (false, 25)
  else ((List.range a.length).all fun i => evW (a.getD i default) (b.getD i default), 0)

end Go.Proofs.Ytagalkckebffhaa
