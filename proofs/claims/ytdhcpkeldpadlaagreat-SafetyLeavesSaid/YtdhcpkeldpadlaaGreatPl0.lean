/-
  Plain facts on bytes and numbers.
  No condition.
-/

import Derived.Test.YtdhcpkeldpadlaaGreatEngO
namespace Go.Eng
set_option linter.all false
theorem u64w (z : Int) : IntKind.u64.wrap z = z % 18446744073709551616 := by rfl
theorem u8lt (b : UInt8) : b.toNat < 256 := b.toNat_lt
theorem wrap_u8_u64 (b : UInt8) : IntKind.u64.wrap (b.toNat : Int) = (b.toNat : Int) := by have := u8lt b; rw [u64w]; omega
theorem wrap_u8_i64 (b : UInt8) : IntKind.i64.wrap (b.toNat : Int) = (b.toNat : Int) := by have := u8lt b; exact i64w (by omega)
theorem wrap_u8_u32 (b : UInt8) : IntKind.u32.wrap (b.toNat : Int) = (b.toNat : Int) := by have := u8lt b; exact IntWalk.u32_in _ (by omega)
attribute [push_cast] wrap_u8_u64 wrap_u8_i64 wrap_u8_u32 byRow
def inRow (n : Int) : List PV := [.lit (.int .i64 n)]
abbrev ints (l : List Int) : DV := .p (.dat 1 (l.map inRow))
attribute [push_cast] inRow
def idxI {α : Type} (p : α -> Bool) (l : List α) : Int := match l.findIdx? p with
  | some i => i
  | none => -1
theorem idxI_any {α : Type} (p : α -> Bool) (l : List α) : decide (0 <= idxI p l) = l.any p := by
  unfold idxI;cases h : l.findIdx? p with
  | none =>
    rw [List.findIdx?_eq_none_iff] at h;have : l.any p = false := by rw [List.any_eq_false]; intro x hx; simp [h x hx]
    rw [this]; rfl
  | some i =>
    have h' := h;rw [List.findIdx?_eq_some_iff_getElem] at h';obtain ⟨hi, hp, _⟩ := h';have : l.any p = true := by rw [List.any_eq_true]; exact ⟨_, List.getElem_mem hi, hp⟩
    rw [this];have : (0 : Int) <= (i : Int) := by omega
    simpa using this
theorem idxI_hit {α : Type} [Inhabited α] {p : α -> Bool} {l : List α} {i : Nat} (h : (l.take i).any p = false) (hi : i < l.length) (hp : p (l.getD i default) = true) : idxI p l = i := by
  have e : l.getD i default = l[i] := by simp [List.getD_eq_getElem?_getD, List.getElem?_eq_getElem hi]
  rw [e] at hp;unfold idxI;have : l.findIdx? p = some i := by
    rw [List.findIdx?_eq_some_iff_getElem];refine ⟨hi, hp, fun j hj => ?_⟩;rw [List.any_eq_false] at h;have hm : l[j] ∈ l.take i := by
      rw [List.mem_take_iff_getElem];exact ⟨j, by omega, rfl⟩
    exact h _ hm
  rw [this]
theorem idxI_none {α : Type} {p : α -> Bool} {l : List α} (h : l.any p = false) : idxI p l = -1 := by
  unfold idxI;have : l.findIdx? p = none := by
    rw [List.findIdx?_eq_none_iff];rw [List.any_eq_false] at h;intro x hx; simpa using h x hx
  rw [this]
theorem any_step {α : Type} [Inhabited α] {p : α -> Bool} {l : List α} {i : Nat} (h : (l.take i).any p = false) (hi : i < l.length) (hp : p (l.getD i default) = false) : (l.take (i + 1)).any p = false := by
  rw [List.take_succ_eq_append_getElem hi, List.any_append, h];simpa [List.getD_eq_getElem?_getD, List.getElem?_eq_getElem hi] using hp
theorem take_next {α : Type} [Inhabited α] {l m : List α} {i : Nat} (h : l.take i = m.take i) (hl : i < l.length) (hm : i < m.length) (he : l.getD i default = m.getD i default) : l.take (i + 1) = m.take (i + 1) := by
  rw [List.take_add_one, List.take_add_one, h, List.getElem?_eq_getElem hl, List.getElem?_eq_getElem hm];simp [List.getD_eq_getElem?_getD, List.getElem?_eq_getElem hl, List.getElem?_eq_getElem hm] at he;rw [he]
end Go.Eng
