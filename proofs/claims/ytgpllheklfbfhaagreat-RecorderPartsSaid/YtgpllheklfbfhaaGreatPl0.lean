/-
  Plain facts on bytes and numbers.
  No condition.
-/

import Derived.Test.YtgpllheklfbfhaaGreatEngO
namespace Go.Eng
set_option linter.all false
theorem u64w (z : Int) : IntKind.u64.wrap z = z % 18446744073709551616 := by rfl
theorem u8lt (b : UInt8) : b.toNat < 256 := b.toNat_lt
theorem wrap_u8_u64 (b : UInt8) : IntKind.u64.wrap (b.toNat : Int) = (b.toNat : Int) := by have := u8lt b; rw [u64w]; omega
theorem wrap_u8_i64 (b : UInt8) : IntKind.i64.wrap (b.toNat : Int) = (b.toNat : Int) := by have := u8lt b; exact i64w (by omega)
theorem wrap_u8_u32 (b : UInt8) : IntKind.u32.wrap (b.toNat : Int) = (b.toNat : Int) := by have := u8lt b; exact IntWalk.u32_in _ (by omega)
attribute [push_cast] wrap_u8_u64 wrap_u8_i64 wrap_u8_u32 byRow
def beBytes : Nat -> Nat -> List UInt8
  | 0, _ => []
  | k + 1, u => UInt8.ofNat (u / 256 ^ k) :: beBytes k u
def un64 (n : Int) : Nat := (n % 18446744073709551616).toNat
theorem beBytes_length (k u : Nat) : (beBytes k u).length = k := by induction k <;> simp [beBytes, *]
theorem shr_u8 (n : Int) (k : Nat) (hk : k <= 7) : IntKind.u8.wrap ((IntKind.u64.wrap n).fdiv (2 ^ (min (8 * (k : Int)).toNat IntKind.u64.bits))) = ((UInt8.ofNat (un64 n / 256 ^ k)).toNat : Int) := by
  have hm : min (8 * (k : Int)).toNat IntKind.u64.bits = 8 * k := by
    show min _ 64 = _;omega
  have hu : IntKind.u64.wrap n = (un64 n : Int) := by rw [u64w]; unfold un64; omega
  rw [hm, hu];have e : (2 : Int) ^ (8 * k) = ((256 ^ k : Nat) : Int) := by
    rw [show (256 : Nat) = 2 ^ 8 by rfl, <- Nat.pow_mul]; push_cast; rfl
  rw [e, Int.fdiv_eq_ediv_of_nonneg _ (Int.natCast_nonneg _), <- Int.natCast_ediv];generalize un64 n / 256 ^ k = x;rw [IntKind.wrap_u8];simp
def inRow (n : Int) : List PV := [.lit (.int .i64 n)]
abbrev ints (l : List Int) : DV := .p (.dat 1 (l.map inRow))
attribute [push_cast] inRow
def idxI {α : Type} (p : α -> Bool) (l : List α) : Int := match l.findIdx? p with
  | some i => i
  | none => -1
theorem idxI_any {α : Type} (p : α -> Bool) (l : List α) : decide (0 <= idxI p l) = l.any p := by
  unfold idxI;cases h : l.findIdx? p with
  | none =>
    rw [List.findIdx?_eq_none_iff] at h;have : l.any p = false := by rw [List.any_eq_false]; intro x hx; simp [h x hx]
    rw [this]; rfl
  | some i =>
    have h' := h;rw [List.findIdx?_eq_some_iff_getElem] at h';obtain ⟨hi, hp, _⟩ := h';have : l.any p = true := by rw [List.any_eq_true]; exact ⟨_, List.getElem_mem hi, hp⟩
    rw [this];have : (0 : Int) <= (i : Int) := by omega
    simpa using this
theorem idxI_hit {α : Type} [Inhabited α] {p : α -> Bool} {l : List α} {i : Nat} (h : (l.take i).any p = false) (hi : i < l.length) (hp : p (l.getD i default) = true) : idxI p l = i := by
  have e : l.getD i default = l[i] := by simp [List.getD_eq_getElem?_getD, List.getElem?_eq_getElem hi]
  rw [e] at hp;unfold idxI;have : l.findIdx? p = some i := by
    rw [List.findIdx?_eq_some_iff_getElem];refine ⟨hi, hp, fun j hj => ?_⟩;rw [List.any_eq_false] at h;have hm : l[j] ∈ l.take i := by
      rw [List.mem_take_iff_getElem];exact ⟨j, by omega, rfl⟩
    exact h _ hm
  rw [this]
theorem idxI_none {α : Type} {p : α -> Bool} {l : List α} (h : l.any p = false) : idxI p l = -1 := by
  unfold idxI;have : l.findIdx? p = none := by
    rw [List.findIdx?_eq_none_iff];rw [List.any_eq_false] at h;intro x hx; simpa using h x hx
  rw [this]
theorem any_step {α : Type} [Inhabited α] {p : α -> Bool} {l : List α} {i : Nat} (h : (l.take i).any p = false) (hi : i < l.length) (hp : p (l.getD i default) = false) : (l.take (i + 1)).any p = false := by
  rw [List.take_succ_eq_append_getElem hi, List.any_append, h];simpa [List.getD_eq_getElem?_getD, List.getElem?_eq_getElem hi] using hp
theorem take_next {α : Type} [Inhabited α] {l m : List α} {i : Nat} (h : l.take i = m.take i) (hl : i < l.length) (hm : i < m.length) (he : l.getD i default = m.getD i default) : l.take (i + 1) = m.take (i + 1) := by
  rw [List.take_add_one, List.take_add_one, h, List.getElem?_eq_getElem hl, List.getElem?_eq_getElem hm];simp [List.getD_eq_getElem?_getD, List.getElem?_eq_getElem hl, List.getElem?_eq_getElem hm] at he;rw [he]
def sumStep (n : Nat) (c : UInt8) : Nat := (31 * n + c.toNat + 1) % 4294967296
def sumN (l : List UInt8) : Nat := l.foldl sumStep 7
theorem sumN_snoc (l : List UInt8) (i : Nat) (h : i < l.length) : sumN (l.take (i + 1)) = sumStep (sumN (l.take i)) (l.getD i default) := by
  unfold sumN;rw [List.take_succ_eq_append_getElem h, List.foldl_append];simp [List.getD_eq_getElem?_getD, List.getElem?_eq_getElem h]
theorem sumN_lt (l : List UInt8) : sumN l < 4294967296 := by
  unfold sumN;rcases List.eq_nil_or_concat l with rfl | ⟨l', x, rfl⟩
  · decide
  · rw [List.concat_eq_append, List.foldl_append]; exact Nat.mod_lt _ (by decide)
attribute [push_cast] beBytes_length
end Go.Eng
