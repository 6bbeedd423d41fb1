/-
  Contracts of functions of the program, over the engine.
  No condition.
-/
import Derived.Test.YthacnhidipeckaaGreatCK4W0W1W2W3
import Derived.Test.YthacnhidipeckaaGreatCW4W5W6
namespace Go.Proofs.YthacnhidipeckaaGreat
open Go.Eng
set_option linter.all false
attribute [local irreducible] DCallsG SWp Fct CallQ XCallQ LCallQ XLCallQ drun xrun
theorem div_step {X top a b q r bit a2 : Nat} (hX : X = top * 340282366920938463463374607431768211456 + a) (ht : top = b * q + r) (ha : 2 * a = bit * 340282366920938463463374607431768211456 + a2) : 2 * X = (b * (2 * q) + (2 * r + bit)) * 340282366920938463463374607431768211456 + a2 := by
  have e : b * (2 * q) = 2 * (b * q) := by rw [← Nat.mul_assoc, Nat.mul_comm b 2, Nat.mul_assoc]
  rw [e, hX, ht]
  generalize b * q = t at *
  omega
theorem dbl_cut (h l bit : Nat) (hh : h < 18446744073709551616) (hl : l < 18446744073709551616) (hb : h / 9223372036854775808 = bit) : ∃ h2 l2, 2 * (h * 18446744073709551616 + l) + 0 = bit * 340282366920938463463374607431768211456 + (h2 * 18446744073709551616 + l2) ∧ h2 < 18446744073709551616 ∧ l2 < 18446744073709551616 :=
  ⟨2 * h - bit * 18446744073709551616 + l / 9223372036854775808, 2 * l % 18446744073709551616, by omega, by omega, by omega⟩
theorem top_le {A X top a i : Nat} (hi : i ≤ 128) (hX : X = A * 2 ^ i) (e : X = top * 340282366920938463463374607431768211456 + a) : top ≤ A := by
  have h1 : 2 ^ i ≤ 2 ^ 128 := Nat.pow_le_pow_right (by decide) hi
  have h2 : A * 2 ^ i ≤ A * 2 ^ 128 := Nat.mul_le_mul_left A h1
  have h3 : (2 : Nat) ^ 128 = 340282366920938463463374607431768211456 := by decide
  rw [h3] at h2
  rw [← hX] at h2
  omega
structure DvI (A b i h l q r : Nat) : Prop where
  hh : h < 18446744073709551616
  hl : l < 18446744073709551616
  hr : r < b
  hb : b < 4611686018427387904
  hA : A < b * 4611686018427387904
  hq : q < 4611686018427387904
  ex : ∃ X, X = A * 2 ^ i ∧ X = (b * q + r) * 340282366920938463463374607431768211456 + (h * 18446744073709551616 + l)
theorem DvI.init {A b h l : Nat} (hh : h < 18446744073709551616) (hl : l < 18446744073709551616) (hb : 0 < b ∧ b < 4611686018427387904) (hA : A < b * 4611686018427387904) (e : h * 18446744073709551616 + l = A) : DvI A b 0 h l 0 0 :=
  ⟨hh, hl, hb.1, hb.2, hA, by decide, A, by rw [Nat.pow_zero, Nat.mul_one], by rw [Nat.mul_zero]; omega⟩
theorem q_lt {A b q r : Nat} (h : b * q + r ≤ A) (hA : A < b * 4611686018427387904) : q < 4611686018427387904 :=
  Nat.lt_of_mul_lt_mul_left (a := b) (Nat.lt_of_le_of_lt (Nat.le_trans (Nat.le_add_right _ _) h) hA)
theorem sub_back {b q t : Nat} (h : b ≤ t) : b * (q + 1) + (t - b) = b * q + t := by rw [Nat.mul_add, Nat.mul_one]; omega
theorem DvI.step {A b i h l q r : Nat} (I : DvI A b i h l q r) (hi : i < 128) : ∃ h2 l2 bit r2 q2 : Nat, (h : Int).fdiv (2 ^ min 63 IntKind.u64.bits) = (bit : Int) ∧ bit ≤ 1 ∧ h2 < 18446744073709551616 ∧ l2 < 18446744073709551616 ∧
    2 * (h * 18446744073709551616 + l) + 0 = bit * 340282366920938463463374607431768211456 + (h2 * 18446744073709551616 + l2) ∧ 2 * r + bit = r2 ∧ 2 * q = q2 ∧ r2 < 9223372036854775808 ∧ q2 < 9223372036854775808 ∧
    (r2 < b → DvI A b (i + 1) h2 l2 q2 r2) ∧ (¬ r2 < b → DvI A b (i + 1) h2 l2 (q2 + 1) (r2 - b)) := by
  obtain ⟨hh, hl, hr, hb, hA, hq, X, e1, e2⟩ := I
  obtain ⟨bit, hbit⟩ : ∃ bit, h / 9223372036854775808 = bit := ⟨_, rfl⟩
  obtain ⟨h2, l2, hs2, hh2, hl2⟩ := dbl_cut h l bit hh hl hbit
  have hb1 : bit ≤ 1 := by clear e1 e2 hs2; omega
  have hr3 : 2 * r + bit < 9223372036854775808 := by clear e1 e2 hs2 hbit; omega
  have hq3 : 2 * q < 9223372036854775808 := by clear e1 e2 hs2 hbit; omega
  have hfd : (h : Int).fdiv (2 ^ min 63 IntKind.u64.bits) = (bit : Int) := by rw [← hbit]; exact shr64 h 63 (by decide)
  have hs3 := hs2
  rw [Nat.add_zero] at hs3
  have hstep := div_step (a2 := h2 * 18446744073709551616 + l2) e2 rfl hs3
  have hX2 : 2 * X = A * 2 ^ (i + 1) := by rw [e1, Nat.pow_succ, ← Nat.mul_assoc A, Nat.mul_comm 2]
  have htop := top_le (i := i + 1) (by omega) hX2 hstep
  have hq2 := q_lt htop hA
  refine ⟨h2, l2, bit, 2 * r + bit, 2 * q, hfd, hb1, hh2, hl2, hs2, rfl, rfl, hr3, hq3, fun hlt => ?_, fun hlt => ?_⟩
  · exact ⟨hh2, hl2, hlt, hb, hA, hq2, 2 * X, hX2, hstep⟩
  · have e3 : b * (2 * q + 1) + (2 * r + bit - b) = b * (2 * q) + (2 * r + bit) := sub_back (Nat.le_of_not_lt hlt)
    refine ⟨hh2, hl2, by clear e1 e2 hs2 hstep hX2 htop e3; omega, hb, hA, q_lt (r := 2 * r + bit - b) (by rw [e3]; exact htop) hA, 2 * X, hX2, by rw [e3]; exact hstep⟩
theorem DvI.fin {A b h l q r : Nat} (I : DvI A b 128 h l q r) : A = b * q + r ∧ r < b := by
  obtain ⟨hh, hl, hr, hb, hA, hq, X, e1, e2⟩ := I
  refine ⟨?_, hr⟩
  have h3 : (2 : Nat) ^ 128 = 340282366920938463463374607431768211456 := by decide
  rw [h3] at e1
  rw [e1] at e2
  generalize b * q + r = t at *
  omega
attribute [push_cast] Int.zero_fdiv
end Go.Proofs.YthacnhidipeckaaGreat
