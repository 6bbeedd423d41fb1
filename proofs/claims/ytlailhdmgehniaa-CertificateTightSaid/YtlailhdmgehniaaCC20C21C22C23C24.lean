/-
  Contracts of functions of the program, over the engine.
  No condition.
-/
import Derived.Test.YtlailhdmgehniaaCC0C1C2C3
import Derived.Test.YtlailhdmgehniaaCC9C10C11C12C13C14C15C16C17C19
namespace Go.Proofs.Ytlailhdmgehniaa
open Go.Eng
set_option linter.all false
attribute [local irreducible] DCallsG SWp Fct CallQ XCallQ LCallQ XLCallQ drun xrun

abbrev li8 (n : Nat) : DV := lv (.int .u64 (n : Int))
def rdE (l : List UInt8) (e : Bool) (n : Nat) : Bool := e || decide (l.length < n)
def rdL (l : List UInt8) (e : Bool) (n : Nat) : List UInt8 := if rdE l e n = true then l else l.drop n
def rdV (l : List UInt8) (e : Bool) (n : Nat) : Int := if rdE l e n = true then 0 else IntKind.i64.wrap (numU (l.take n))
theorem mulAdd_u64 (x : Nat) (c : UInt8) : IntKind.u64.wrap (IntKind.u64.wrap ((x : Int) * 256) + (c.toNat : Int)) = (numStep x c : Nat) := by
  rw [u64w, u64w]; unfold numStep; omega
attribute [push_cast] mulAdd_u64
def tkV (l : List UInt8) (a c : Nat) : Int := IntKind.i64.wrap (numU ((l.drop a).take c))
theorem wrap_ok (z : Int) : i64ok (IntKind.i64.wrap z) := by
  unfold i64ok
  rw [IntKind.wrap_i64]; omega
def rowN (l : List UInt8) (j : Nat) : List Int := (List.range j).map fun k => tkV l (8 * k) 8
theorem rowN_next (l : List UInt8) (j : Nat) : rowN l (j + 1) = rowN l j ++ [tkV l (8 * j) 8] := by simp [rowN, List.range_succ]
theorem rowN_len (l : List UInt8) (j : Nat) : (rowN l j).length = j := by simp [rowN]
theorem rowN_ok {l : List UInt8} {j : Nat} (h : j ≤ 281474976710656) : intsOk (rowN l j) := by
  refine ⟨by rw [rowN_len]; exact h, fun z hz => ?_⟩
  simp only [rowN, List.mem_map, List.mem_range] at hz
  obtain ⟨k, _, rfl⟩ := hz
  exact wrap_ok _
def pI (L : List UInt8) : Nat → Option (List (List Int) × List UInt8)
  | 0 => some ([], L)
  | i + 1 => match pI L i with
    | none => none
    | some (rs, l) => if l.length < 2 then none else if (l.drop 2).length < 8 * (2 * numU (l.take 2)) then none else some (rs ++ [rowN (l.drop 2) (2 * numU (l.take 2))], (l.drop 2).drop (8 * (2 * numU (l.take 2))))
theorem pI_none {L : List UInt8} {i : Nat} (h : pI L i = none) : pI L (i + 1) = none := by
  unfold pI; rw [h]
theorem pI_end {L : List UInt8} {i : Nat} (h : pI L i = none) : ∀ {j : Nat}, i ≤ j → pI L j = none
  | 0, hj => by have : i = 0 := by omega
                rw [← this]; exact h
  | j + 1, hj => by
    by_cases e : i = j + 1
    · rw [← e]; exact h
    · exact pI_none (pI_end h (by omega : i ≤ j))
theorem pI_short {L l : List UInt8} {i : Nat} {rs : List (List Int)} (h : pI L i = some (rs, l)) (h2 : l.length < 2) : pI L (i + 1) = none := by
  unfold pI; rw [h]; simp [h2]
theorem pI_cut {L l : List UInt8} {i : Nat} {rs : List (List Int)} (h : pI L i = some (rs, l)) (h2 : (l.drop 2).length < 8 * (2 * numU (l.take 2))) : pI L (i + 1) = none := by
  by_cases h3 : l.length < 2
  · exact pI_short h h3
  · rw [pI, h]; dsimp only; rw [if_neg h3, if_pos h2]
theorem pI_next {L l : List UInt8} {i : Nat} {rs : List (List Int)} (h : pI L i = some (rs, l)) (h1 : ¬ l.length < 2) (h2 : ¬ (l.drop 2).length < 8 * (2 * numU (l.take 2))) : pI L (i + 1) = some (rs ++ [rowN (l.drop 2) (2 * numU (l.take 2))], (l.drop 2).drop (8 * (2 * numU (l.take 2)))) := by
  rw [pI, h]; dsimp only; rw [if_neg h1, if_neg h2]
theorem pI_ok {L : List UInt8} (hL : L.length ≤ 281474976710656) : ∀ {i : Nat} {rs : List (List Int)} {l : List UInt8}, pI L i = some (rs, l) → rs.length = i ∧ (∀ r, r ∈ rs → intsOk r) ∧ l.length + 2 * i ≤ L.length
  | 0, rs, l, h => by
    simp only [pI, Option.some.injEq, Prod.mk.injEq] at h
    obtain ⟨rfl, rfl⟩ := h
    simp
  | i + 1, rs, l, h => by
    cases hp : pI L i with
    | none => rw [pI_none hp] at h; cases h
    | some x =>
      obtain ⟨ps, q⟩ := x
      have ih := pI_ok hL hp
      by_cases h1 : q.length < 2
      · rw [pI_short hp h1] at h; cases h
      · by_cases h2 : (q.drop 2).length < 8 * (2 * numU (q.take 2))
        · rw [pI_cut hp h2] at h; cases h
        · rw [pI_next hp h1 h2] at h
          simp only [Option.some.injEq, Prod.mk.injEq] at h
          obtain ⟨rfl, rfl⟩ := h
          have h3 : (q.drop 2).length = q.length - 2 := List.length_drop
          refine ⟨by simp [ih.1], fun r hr => ?_, ?_⟩
          · rcases List.mem_append.1 hr with hr | hr
            · exact ih.2.1 r hr
            · simp only [List.mem_singleton] at hr
              subst hr
              exact rowN_ok (by omega)
          · rw [List.length_drop, h3]; omega
abbrev magic : List UInt8 := [82, 67, 1]
def decT (b : List UInt8) : Option (List (List Int) × List UInt8) → List (List Int) × Int
  | none => ([], 8)
  | some (rs, l) => if l.length < 4 then ([], 8) else if 4 < l.length then ([], 7) else if ¬ IntKind.i64.wrap (numU (l.take 4)) = (sumN (b.take (b.length - l.length)) : Nat) then ([], 18) else if ¬ rightE rs = 0 then ([], rightE rs) else (rs, 0)
def decR (b : List UInt8) : List (List Int) × Int :=
  if 1048576 < b.length then ([], 5)
  else if ¬ b.take 3 = magic then ([], 7)
  else if b.length < 5 then ([], 8)
  else decT b (pI (b.drop 5) (numU ((b.drop 3).take 2)))
theorem numU_lt (l : List UInt8) : numU l < 256 ^ l.length ∧ numU l < 18446744073709551616 := by
  have key : ∀ (l : List UInt8) (n : Nat), n < 18446744073709551616 → l.foldl numStep n < 18446744073709551616 ∧ l.foldl numStep n < (n + 1) * 256 ^ l.length := fun l => by
    induction l with
    | nil => intro n hn; simp; omega
    | cons b l ih =>
      intro n hn
      have hb := u8lt b
      have h1 : numStep n b < 18446744073709551616 := Nat.mod_lt _ (by decide)
      have h2 : numStep n b ≤ n * 256 + b.toNat := Nat.mod_le _ _
      have h3 := ih _ h1
      refine ⟨h3.1, Nat.lt_of_lt_of_le h3.2 ?_⟩
      rw [List.length_cons, Nat.pow_succ, ← Nat.mul_assoc, Nat.mul_right_comm]
      exact Nat.mul_le_mul_right _ (by omega)
  have := key l 0 (by decide)
  unfold numU
  exact ⟨by simpa using this.2, this.1⟩
theorem num2_lt (l : List UInt8) : numU (l.take 2) < 65536 := by
  have h1 := (numU_lt (l.take 2)).1
  have h2 : (l.take 2).length ≤ 2 := by rw [List.length_take]; omega
  exact Nat.lt_of_lt_of_le h1 (Nat.le_trans (Nat.pow_le_pow_right (by decide) h2) (by decide))
theorem num2_w (l : List UInt8) : IntKind.i64.wrap (numU (l.take 2)) = (numU (l.take 2) : Nat) := by
  have := num2_lt l
  exact i64w (by omega)
theorem app_il (l : List (List Int)) (r : List Int) : rows ilRow (l ++ [r]) = rows ilRow l ++ [[.p (.dat 1 (r.map inRow))]] := by simp [rows, ilRow]
theorem rows_ext {a b : List (List Int)} (h1 : a.length = b.length) (h2 : ∀ i, i < a.length → a.getD i default = b.getD i default) : a = b := by
  refine List.ext_getElem h1 fun i hi hj => ?_
  have := h2 i hi
  rw [List.getD_eq_getElem?_getD, List.getD_eq_getElem?_getD, List.getElem?_eq_getElem hi, List.getElem?_eq_getElem hj] at this
  exact this
end Go.Proofs.Ytlailhdmgehniaa
