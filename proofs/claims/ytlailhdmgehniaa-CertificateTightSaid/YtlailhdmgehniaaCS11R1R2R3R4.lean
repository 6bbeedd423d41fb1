/-
  Contracts of functions of the program, over the engine.
  No condition.
-/
import Derived.Test.YtlailhdmgehniaaCS5S6S7S8S9S10
import Derived.Test.YtlailhdmgehniaaCC9C10C11C12C13C14C15C16C17C19
import Derived.Test.YtlailhdmgehniaaCW2W3W4W5W6
import Derived.Test.YtlailhdmgehniaaCK3K5K4W0W1
namespace Go.Proofs.Ytlailhdmgehniaa
open Go.Eng
set_option linter.all false
attribute [local irreducible] DCallsG SWp Fct CallQ XCallQ LCallQ XLCallQ drun xrun

theorem goS_path {p : Plan} {a : List UInt8} : ∀ i, ∀ out v, goS p a i = some (out, v) → out.length = i ∧ (∀ j, j < i → out.getD j default ∈ p.rel) ∧ ∀ rs, (∀ j, j < i → rs.getD j default = out.getD j default) → ∃ s, pathC p rs i = some (s, v) := by
  intro i
  induction i with
  | zero =>
    intro out v h
    rw [goS] at h
    cases h
    exact ⟨rfl, fun j hj => by omega, fun rs _ => ⟨0, rfl⟩⟩
  | succ i ih =>
    intro out v h
    rw [goS] at h
    cases h0 : goS p a i with
    | none => rw [h0] at h; cases h
    | some x =>
      obtain ⟨out0, v0⟩ := x
      rw [h0] at h
      dsimp only at h
      split at h
      · cases h
      next hC =>
      cases h
      obtain ⟨h1, h2, h3⟩ := ih out0 v0 h0
      have hm := List.mem_filter.1 (pick_mem (a := a) hC)
      have hlast : (out0 ++ [pickS p a i v0]).getD i default = pickS p a i v0 := by
        rw [List.getD_eq_getElem?_getD, List.getElem?_append_right (by omega), h1, Nat.sub_self]; rfl
      have hold : ∀ j, j < i → (out0 ++ [pickS p a i v0]).getD j default = out0.getD j default := fun j hj => by
        rw [List.getD_eq_getElem?_getD, List.getElem?_append_left (by omega), ← List.getD_eq_getElem?_getD]
      refine ⟨by simp [h1], fun j hj => ?_, fun rs hrs => ?_⟩
      · by_cases e : j = i
        · rw [e, hlast]; exact hm.1
        · rw [hold j (by omega)]; exact h2 j (by omega)
      · obtain ⟨s0, hs0⟩ := h3 rs fun j hj => by rw [hrs j (by omega), hold j hj]
        have e : rs.getD i default = pickS p a i v0 := by rw [hrs i (by omega), hlast]
        exact ⟨s0 + costI p i v0 (pickS p a i v0), by rw [path_next hs0, e, if_pos hm.2]⟩
theorem sched_cost {p : Plan} {a : List UInt8} (hp : planB p = true) (h : (schedR p a).2 = true) : ∃ s v, (schedR p a).1.length = p.inf.length ∧ (∀ i, i < p.inf.length → (schedR p a).1.getD i default ∈ p.rel) ∧ pathC p (schedR p a).1 p.inf.length = some (s, v) ∧ costR p (schedR p a).1 = (s, volsC p (schedR p a).1 p.inf.length, 0) := by
  cases hg : goS p a p.inf.length with
  | none =>
    have : schedR p a = ([], false) := by unfold schedR; rw [hg]
    rw [this] at h; cases h
  | some x =>
    obtain ⟨out, v⟩ := x
    have e : schedR p a = (out, true) := by unfold schedR; rw [hg]
    rw [e]
    obtain ⟨h1, h2, h3⟩ := goS_path _ _ _ hg
    obtain ⟨s, hs⟩ := h3 out fun _ _ => rfl
    refine ⟨s, v, h1, h2, hs, ?_⟩
    have hany : (out.any fun r => !p.rel.any (eqB r)) = false := by
      rw [List.any_eq_false]
      intro x hx
      obtain ⟨j, hj, rfl⟩ := List.mem_iff_getElem.1 hx
      have hm := h2 j (by omega)
      have e2 : out.getD j default = out[j] := by rw [List.getD_eq_getElem?_getD, List.getElem?_eq_getElem hj]; rfl
      rw [e2] at hm
      have : p.rel.any (eqB out[j]) = true := List.any_eq_true.2 ⟨_, hm, decide_eq_true rfl⟩
      rw [this]; simp
    unfold costR
    rw [if_neg (by rw [hp]; decide), if_neg (by rw [h1]; simp), hany, if_neg (by decide)]
    dsimp only
    rw [h1, hs]
theorem given_ready {p : Plan} {l : List (List Int)} (h : failK p l < l.length → False) (h0 : givenE p l = 0) : checkR p l = (true, 0, 0) := by
  unfold checkR
  rw [if_neg (fun k => k h0), if_neg h]
abbrev uD (h l : Nat) : DV := .agg [lu h, lu l]
abbrev nuD (h l : Nat) (b : Bool) : DV := .agg [lu h, lu l, lb b]
theorem mulr_s (p q r t hi lo : Nat) (hp : p ≤ 18446744065119617025) (hq : q ≤ 18446744065119617025) (hr : r ≤ 18446744065119617025) (ht : t ≤ 18446744065119617025) (e : p * 18446744073709551616 + q * 4294967296 + r * 4294967296 + t = hi * 18446744073709551616 + lo) (hlo : lo < 18446744073709551616) :
    IntKind.u64.wrap (IntKind.u64.wrap (IntKind.u64.wrap (p : Int) + IntKind.u64.wrap (IntKind.u64.wrap (q : Int) + IntKind.u64.wrap (t : Int) / 4294967296) / 4294967296) + IntKind.u64.wrap (IntKind.u64.wrap (r : Int) + IntKind.u64.wrap (IntKind.u64.wrap (q : Int) + IntKind.u64.wrap (t : Int) / 4294967296) % 4294967296) / 4294967296) = (hi : Int) ∧
    IntKind.u64.wrap (IntKind.u64.wrap (IntKind.u64.wrap (IntKind.u64.wrap (r : Int) + IntKind.u64.wrap (IntKind.u64.wrap (q : Int) + IntKind.u64.wrap (t : Int) / 4294967296) % 4294967296) * 4294967296) + IntKind.u64.wrap (t : Int) % 4294967296) = (lo : Int) := by
  simp only [u64w]
  constructor
  · omega
  · omega
theorem shift_s (h l b h2 l2 : Nat) (hh : h < 18446744073709551616) (hl : l < 18446744073709551616) (hb : b ≤ 1) (h2l : h2 < 18446744073709551616) (l2l : l2 < 18446744073709551616) (c : Nat) (e : 2 * (h * 18446744073709551616 + l) + b = c * 340282366920938463463374607431768211456 + (h2 * 18446744073709551616 + l2)) :
    IntKind.u64.wrap (IntKind.u64.wrap ((h : Int) * 2 ^ min 1 IntKind.u64.bits) + (l : Int).fdiv (2 ^ min 63 IntKind.u64.bits)) = (h2 : Int) ∧ IntKind.u64.wrap (IntKind.u64.wrap ((l : Int) * 2 ^ min 1 IntKind.u64.bits) + (b : Int)) = (l2 : Int) := by
  have e1 : (2 : Nat) ^ 1 = 2 := rfl
  have e2 : (2 : Nat) ^ 63 = 9223372036854775808 := rfl
  rw [shl64m h 1 (by omega), shl64m l 1 (by omega), shr64 l 63 (by omega), e1, e2, u64w, u64w]
  constructor
  · omega
  · omega
theorem div_step {X top a b q r bit a2 : Nat} (hX : X = top * 340282366920938463463374607431768211456 + a) (ht : top = b * q + r) (ha : 2 * a = bit * 340282366920938463463374607431768211456 + a2) : 2 * X = (b * (2 * q) + (2 * r + bit)) * 340282366920938463463374607431768211456 + a2 := by
  have e : b * (2 * q) = 2 * (b * q) := by rw [← Nat.mul_assoc, Nat.mul_comm b 2, Nat.mul_assoc]
  rw [e, hX, ht]
  generalize b * q = t at *
  omega
theorem dbl_cut (h l bit : Nat) (hh : h < 18446744073709551616) (hl : l < 18446744073709551616) (hb : h / 9223372036854775808 = bit) : ∃ h2 l2, 2 * (h * 18446744073709551616 + l) + 0 = bit * 340282366920938463463374607431768211456 + (h2 * 18446744073709551616 + l2) ∧ h2 < 18446744073709551616 ∧ l2 < 18446744073709551616 :=
  ⟨2 * h - bit * 18446744073709551616 + l / 9223372036854775808, 2 * l % 18446744073709551616, by omega, by omega, by omega⟩
theorem top_le {A X top a i : Nat} (hi : i ≤ 128) (hX : X = A * 2 ^ i) (e : X = top * 340282366920938463463374607431768211456 + a) : top ≤ A := by
  have h1 : 2 ^ i ≤ 2 ^ 128 := Nat.pow_le_pow_right (by decide) hi
  have h2 : A * 2 ^ i ≤ A * 2 ^ 128 := Nat.mul_le_mul_left A h1
  have h3 : (2 : Nat) ^ 128 = 340282366920938463463374607431768211456 := by decide
  rw [h3] at h2
  rw [← hX] at h2
  omega
structure DvI (A b i h l q r : Nat) : Prop where
  hh : h < 18446744073709551616
  hl : l < 18446744073709551616
  hr : r < b
  hb : b < 4611686018427387904
  hA : A < b * 4611686018427387904
  hq : q < 4611686018427387904
  ex : ∃ X, X = A * 2 ^ i ∧ X = (b * q + r) * 340282366920938463463374607431768211456 + (h * 18446744073709551616 + l)
theorem DvI.init {A b h l : Nat} (hh : h < 18446744073709551616) (hl : l < 18446744073709551616) (hb : 0 < b ∧ b < 4611686018427387904) (hA : A < b * 4611686018427387904) (e : h * 18446744073709551616 + l = A) : DvI A b 0 h l 0 0 :=
  ⟨hh, hl, hb.1, hb.2, hA, by decide, A, by rw [Nat.pow_zero, Nat.mul_one], by rw [Nat.mul_zero]; omega⟩
theorem q_lt {A b q r : Nat} (h : b * q + r ≤ A) (hA : A < b * 4611686018427387904) : q < 4611686018427387904 :=
  Nat.lt_of_mul_lt_mul_left (a := b) (Nat.lt_of_le_of_lt (Nat.le_trans (Nat.le_add_right _ _) h) hA)
theorem sub_back {b q t : Nat} (h : b ≤ t) : b * (q + 1) + (t - b) = b * q + t := by rw [Nat.mul_add, Nat.mul_one]; omega
theorem DvI.step {A b i h l q r : Nat} (I : DvI A b i h l q r) (hi : i < 128) : ∃ h2 l2 bit r2 q2 : Nat, (h : Int).fdiv (2 ^ min 63 IntKind.u64.bits) = (bit : Int) ∧ bit ≤ 1 ∧ h2 < 18446744073709551616 ∧ l2 < 18446744073709551616 ∧
    2 * (h * 18446744073709551616 + l) + 0 = bit * 340282366920938463463374607431768211456 + (h2 * 18446744073709551616 + l2) ∧ 2 * r + bit = r2 ∧ 2 * q = q2 ∧ r2 < 9223372036854775808 ∧ q2 < 9223372036854775808 ∧
    (r2 < b → DvI A b (i + 1) h2 l2 q2 r2) ∧ (¬ r2 < b → DvI A b (i + 1) h2 l2 (q2 + 1) (r2 - b)) := by
  obtain ⟨hh, hl, hr, hb, hA, hq, X, e1, e2⟩ := I
  obtain ⟨bit, hbit⟩ : ∃ bit, h / 9223372036854775808 = bit := ⟨_, rfl⟩
  obtain ⟨h2, l2, hs2, hh2, hl2⟩ := dbl_cut h l bit hh hl hbit
  have hb1 : bit ≤ 1 := by clear e1 e2 hs2; omega
  have hr3 : 2 * r + bit < 9223372036854775808 := by clear e1 e2 hs2 hbit; omega
  have hq3 : 2 * q < 9223372036854775808 := by clear e1 e2 hs2 hbit; omega
  have hfd : (h : Int).fdiv (2 ^ min 63 IntKind.u64.bits) = (bit : Int) := by rw [← hbit]; exact shr64 h 63 (by decide)
  have hs3 := hs2
  rw [Nat.add_zero] at hs3
  have hstep := div_step (a2 := h2 * 18446744073709551616 + l2) e2 rfl hs3
  have hX2 : 2 * X = A * 2 ^ (i + 1) := by rw [e1, Nat.pow_succ, ← Nat.mul_assoc A, Nat.mul_comm 2]
  have htop := top_le (i := i + 1) (by omega) hX2 hstep
  have hq2 := q_lt htop hA
  refine ⟨h2, l2, bit, 2 * r + bit, 2 * q, hfd, hb1, hh2, hl2, hs2, rfl, rfl, hr3, hq3, fun hlt => ?_, fun hlt => ?_⟩
  · exact ⟨hh2, hl2, hlt, hb, hA, hq2, 2 * X, hX2, hstep⟩
  · have e3 : b * (2 * q + 1) + (2 * r + bit - b) = b * (2 * q) + (2 * r + bit) := sub_back (Nat.le_of_not_lt hlt)
    refine ⟨hh2, hl2, by clear e1 e2 hs2 hstep hX2 htop e3; omega, hb, hA, q_lt (r := 2 * r + bit - b) (by rw [e3]; exact htop) hA, 2 * X, hX2, by rw [e3]; exact hstep⟩
theorem DvI.fin {A b h l q r : Nat} (I : DvI A b 128 h l q r) : A = b * q + r ∧ r < b := by
  obtain ⟨hh, hl, hr, hb, hA, hq, X, e1, e2⟩ := I
  refine ⟨?_, hr⟩
  have h3 : (2 : Nat) ^ 128 = 340282366920938463463374607431768211456 := by decide
  rw [h3] at e1
  rw [e1] at e2
  generalize b * q + r = t at *
  omega
attribute [push_cast] Int.zero_fdiv
theorem cut64 (M : Nat) (h : M < 340282366920938463463374607431768211456) : ∃ h l, M = h * 18446744073709551616 + l ∧ l < 18446744073709551616 ∧ h < 18446744073709551616 := ⟨M / 18446744073709551616, M % 18446744073709551616, by omega, by omega, by omega⟩
def cntX (t : List Knot) (x : Int) : Nat := if knX t x < t.length ∧ (t.getD (knX t x) default).x = x then knX t x + 1 else knX t x
theorem cntX_le (t : List Knot) (x : Int) : cntX t x ≤ t.length := by
  have := knX_le t x
  unfold cntX
  split <;> omega
theorem cntX_lo {t : List Knot} {x : Int} {j : Nat} (hj : j < cntX t x) : (t.getD j default).x ≤ x := by
  unfold cntX at hj
  split at hj
  · next h =>
    by_cases e : j = knX t x
    · rw [e]; omega
    · have := knX_lo (t := t) (x := x) (j := j) (by omega); omega
  · have := knX_lo (t := t) (x := x) (j := j) hj; omega
theorem cntX_hi {t : List Knot} {x : Int} {j : Nat} (h : tabB t = true) (hj : cntX t x ≤ j) (hl : j < t.length) : x < (t.getD j default).x := by
  unfold cntX at hj
  split at hj
  · next hf =>
    have h1 := (tab_in h).2.2.2 (knX t x) (by omega)
    have h2 := tab_mono2 h j (knX t x + 1) hj hl
    omega
  · next hf =>
    have h1 := knX_hi h hj hl
    by_cases e : j = knX t x
    · have : ¬ (t.getD (knX t x) default).x = x := fun q => hf ⟨by omega, q⟩
      rw [e] at h1 ⊢; omega
    · have h2 := knX_hi (x := x) h (Nat.le_refl _) (by omega : knX t x < t.length)
      have h3 := (tab_in h).2.2.2 (knX t x) (by omega)
      have h4 := tab_mono2 h j (knX t x + 1) (by omega) hl
      omega
theorem ediv_zero0 (U D : Int) : U * 0 / D = 0 := by rw [Int.mul_zero, Int.zero_ediv]
theorem floorT_at {t : List Knot} {x : Int} {j : Nat} (h : tabB t = true) (hj : j + 1 < t.length) (hc : cntX t x = j + 1) : floorT t x = (t.getD j default).y + ((t.getD (j + 1) default).y - (t.getD j default).y) * (x - (t.getD j default).x) / ((t.getD (j + 1) default).x - (t.getD j default).x) := by
  unfold cntX at hc
  unfold floorT
  split at hc
  · next hf =>
    rw [if_pos (.inl hf)]
    obtain rfl : j = knX t x := by omega
    rw [hf.2, Int.sub_self, ediv_zero0, Int.add_zero]
  · next hf =>
    have hk : knX t x = j + 1 := hc
    rw [if_neg (by rintro (q | q); exact hf q; omega), if_neg (by omega), hk, Nat.add_sub_cancel]
theorem floorT_0 {t : List Knot} {x : Int} (hc : cntX t x = 0) : floorT t x = (t.getD 0 default).y := by
  unfold cntX at hc
  unfold floorT
  split at hc
  · omega
  · next hf => rw [if_pos (.inr hc), hc]
theorem floorT_n {t : List Knot} {x : Int} (h : tabB t = true) (hc : cntX t x = t.length) : floorT t x = (t.getD (t.length - 1) default).y := by
  have h1 := (tab_in h).1
  unfold cntX at hc
  unfold floorT
  split at hc
  · next hf =>
    rw [if_pos (.inl hf)]
    congr 2; omega
  · next hf =>
    rw [if_neg (by rintro (q | q); exact hf q; omega), if_pos hc, hc]
end Go.Proofs.Ytlailhdmgehniaa
