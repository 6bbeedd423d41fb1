/-
  A part of the engine that reckons calls at the level of data.
  No condition.
-/

import Derived.Test.YtlgfdfljnbncfaaGreatPl0
namespace Go.Eng
set_option linter.all false
open Go.RowKit
section
variable {α : Type} (g : α -> List PV) (e : TypeId) (n : Nat)
def famR : Nat -> Nat -> List (List DV)
  | _, 0 => []
  | f, k + 1 => [.gl f] :: famR (f + 1) k
theorem famR_len : ∀ (k f : Nat), (famR f k).length = k
  | 0, _ => rfl
  | k + 1, f => by simp [famR, famR_len k (f + 1)]
theorem famR_at : ∀ (k f i : Nat), i < k -> (famR f k)[i]? = some [.gl (f + i)]
  | 0, _, _, h => by omega
  | k + 1, f, 0, _ => by simp [famR]
  | k + 1, f, i + 1, h => by
    have := famR_at k (f + 1) i (by omega);simp only [famR, List.getElem?_cons_succ, this];congr 3; omega
theorem famR_get {k f i : Nat} (h : i < k) : (famR f k).getD i [] = [.gl (f + i)] := by
  simp [List.getD_eq_getElem?_getD, famR_at k f i h]
theorem uses_rows (U : Nat -> Prop) (L : List α) : DV.usesL U (rows g L).flatten :=
  usesL_iff.2 fun d hd => by
    obtain ⟨r, hr, hd⟩ := List.mem_flatten.1 hd;obtain ⟨x, _, rfl⟩ := List.mem_map.1 hr;obtain ⟨y, _, rfl⟩ := List.mem_map.1 hd;trivial
theorem HSat.seen {B : Base} {U U' : Nat -> Prop} {ρ ρ' : Nat -> Hd} {S : Nat -> Prop} {w : World} {h h' : Nat -> Option HV} (H : HSat B U ρ S w h) (hρ : ∀ i, B.U0 i -> ρ' i = ρ i)
    (hh : ∀ i v, h' i = some v -> HRel ρ' S w i v /\ U' i /\ v.uses U' /\ ∀ b, hblk (ρ' i) v = some b -> ∃ u, h i = some u /\ hblk (ρ i) u = some b) : HSat B U' ρ' S w h' where
  heap i v k := (hh i v k).1
  heapU i v k := ⟨(hh i v k).2.1, (hh i v k).2.2.1⟩
  disj i j v u b hi hj h1 h2 := by
    obtain ⟨v', k1, k2⟩ := (hh i v hi).2.2.2 b h1;obtain ⟨u', k3, k4⟩ := (hh j u hj).2.2.2 b h2;exact H.disj i j v' u' b k1 k3 k2 k4
  sep i v b hi hb := by
    obtain ⟨v', k1, k2⟩ := (hh i v hi).2.2.2 b hb;exact H.sep i v' b k1 k2
  prov i v b hi hb := by
    obtain ⟨v', k1, k2⟩ := (hh i v hi).2.2.2 b hb;exact H.prov i v' b k1 k2
  sIn := H.sIn
  sProv := H.sProv
  sOld := H.sOld
  pin i hi := (hρ i hi).trans (H.pin i hi)
  ownU := H.ownU
  os := H.os
  tape := H.tape
  output := H.output
  size := H.size
  keep := H.keep
end
section
variable [Dfr]
variable {P : Program}
end
theorem nz_t {p : Prop} [Decidable p] [h : Nonempty p] : decide p = true := decide_eq_true (h.elim id)
theorem nz_f {p : Prop} [Decidable p] [h : Nonempty (¬ p)] : decide p = false := decide_eq_false (h.elim id)
theorem nzb_t {a b : Int} [h : Nonempty (a = b)] : (a == b) = true := beq_iff_eq.2 (h.elim id)
theorem nzb_f {a b : Int} [h : Nonempty (¬ a = b)] : (a == b) = false := beq_eq_false_iff_ne.2 (h.elim id)
theorem lapp_cons {α : Type} (a : α) (l m : List α) : List.append (a :: l) m = a :: List.append l m := rfl
theorem lapp_nil {α : Type} (m : List α) : List.append [] m = m := rfl
theorem nzn_t {a b : Int} [h : Nonempty (a = b)] : (a != b) = false := by rw [bne_eq_false_iff_eq]; exact h.elim id
theorem nzn_f {a b : Int} [h : Nonempty (¬ a = b)] : (a != b) = true := by rw [bne_iff_ne]; exact h.elim id
attribute [push_cast] nzn_t nzn_f
theorem idx_nz {α : Type} [Inhabited α] (f : α -> List PV) (l : List α) (i : Nat) [h : Nonempty (i < l.length)] : idx (l.map f) (i : Int) = f (l.getD i default) := idx_nat f l i (h.elim id)
theorem rows_nz {α : Type} [Inhabited α] (f : α -> List PV) (l : List α) (i : Nat) [h : Nonempty (i < l.length)] : (rows f l).getD i [] = (f (l.getD i default)).map DV.p := rows_get f l i (h.elim id)
theorem famR_nz (f k i : Nat) [h : Nonempty (i < k)] : (famR f k).getD i [] = [.gl (f + i)] := famR_get (h.elim id)
attribute [push_cast] idx_nz rows_nz famR_nz famR_len
theorem set_in (l : List Int) (i : Nat) (v : Int) : (rows inRow l).set i [.p (.lit (.int .i64 v))] = rows inRow (l.set i v) := rows_set inRow l i v
theorem app_in (l : List Int) (v : Int) : rows inRow l ++ [[.p (.lit (.int .i64 v))]] = rows inRow (l ++ [v]) := by simp [rows, inRow]
attribute [push_cast] set_in app_in List.set_set
theorem dpick_t (x y : DV) : dpick true x y = x := by
  unfold dpick; split <;> rfl
theorem dpick_f (x y : DV) : dpick false x y = y := by
  unfold dpick; split <;> rfl
attribute [push_cast high] dpick_t dpick_f
attribute [push_cast] nz_t nz_f nzb_t nzb_f lapp_cons lapp_nil
end Go.Eng
