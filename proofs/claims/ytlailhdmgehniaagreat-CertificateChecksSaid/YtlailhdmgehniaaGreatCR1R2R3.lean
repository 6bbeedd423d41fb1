/-
  Contracts of functions of the program, over the engine.
  No condition.
-/
import Derived.Test.YtlailhdmgehniaaGreatCW1W2W3W4
import Derived.Test.YtlailhdmgehniaaGreatCW5W6
namespace Go.Proofs.YtlailhdmgehniaaGreat
open Go.Eng
set_option linter.all false
attribute [local irreducible] DCallsG SWp Fct CallQ XCallQ LCallQ XLCallQ drun xrun

abbrev uD (h l : Nat) : DV := .agg [lu h, lu l]
abbrev nuD (h l : Nat) (b : Bool) : DV := .agg [lu h, lu l, lb b]
theorem rsize_f (n : Nat) (m : Nat) (h : n < 9223372036854775808) : DCalls Tryz.prog 128 [li n] (hget []) m (lu n) (hget []) := by
  have h0 : ¬ ((n : Int) < 0) := by omega
  (have := Nonempty.intro h0)
  refine pureC (n := 10) (rs := [.tmp 2]) (ts := [120]) Tryz.func128 rfl (by decide) [] (by (exact SD)) ?_
  (repeat' (first | refine swp_seq [0, 2, 4] ?_ | refine st2 ?_ | (show Fct ..; refine fctI (fun hf => ?_)) | (show SWp _ _ _ (.cond _ _ _) _ _ _ _; first | refine cB (fun hc => ?_) (fun hc => ?_) | refine cU ?_ ?_)))
  (refine DVQ ?_)
  rw [u64n n (by omega)]
theorem mulr_s (p q r t hi lo : Nat) (hp : p ≤ 18446744065119617025) (hq : q ≤ 18446744065119617025) (hr : r ≤ 18446744065119617025) (ht : t ≤ 18446744065119617025) (e : p * 18446744073709551616 + q * 4294967296 + r * 4294967296 + t = hi * 18446744073709551616 + lo) (hlo : lo < 18446744073709551616) :
    IntKind.u64.wrap (IntKind.u64.wrap (IntKind.u64.wrap (p : Int) + IntKind.u64.wrap (IntKind.u64.wrap (q : Int) + IntKind.u64.wrap (t : Int) / 4294967296) / 4294967296) + IntKind.u64.wrap (IntKind.u64.wrap (r : Int) + IntKind.u64.wrap (IntKind.u64.wrap (q : Int) + IntKind.u64.wrap (t : Int) / 4294967296) % 4294967296) / 4294967296) = (hi : Int) ∧
    IntKind.u64.wrap (IntKind.u64.wrap (IntKind.u64.wrap (IntKind.u64.wrap (r : Int) + IntKind.u64.wrap (IntKind.u64.wrap (q : Int) + IntKind.u64.wrap (t : Int) / 4294967296) % 4294967296) * 4294967296) + IntKind.u64.wrap (t : Int) % 4294967296) = (lo : Int) := by
  simp only [u64w]
  constructor
  · omega
  · omega
set_option maxRecDepth 20000 in
set_option maxHeartbeats 8000000 in
theorem rmul_f (x y hi lo : Nat) (m : Nat) (hx : x < 18446744073709551616) (hy : y < 18446744073709551616) (e : x * y = hi * 18446744073709551616 + lo) (hlo : lo < 18446744073709551616) : DCalls Tryz.prog 127 [lu x, lu y] (hget []) m (uD hi lo) (hget []) := by
  obtain ⟨a, b, ha, hb, hab⟩ : ∃ a b : Nat, (x : Int) / 4294967296 = a ∧ (x : Int) % 4294967296 = b ∧ (a ≤ 4294967295 ∧ b ≤ 4294967295 ∧ x = a * 4294967296 + b) := ⟨x / 4294967296, x % 4294967296, by omega, by omega, by omega⟩
  obtain ⟨c, d, hc1, hd, hcd⟩ : ∃ c d : Nat, (y : Int) / 4294967296 = c ∧ (y : Int) % 4294967296 = d ∧ (c ≤ 4294967295 ∧ d ≤ 4294967295 ∧ y = c * 4294967296 + d) := ⟨y / 4294967296, y % 4294967296, by omega, by omega, by omega⟩
  have e2 : a * c * 18446744073709551616 + a * d * 4294967296 + b * c * 4294967296 + b * d = hi * 18446744073709551616 + lo := by
    rw [← e, hab.2.2, hcd.2.2]; grind
  have hm : ∀ p q : Nat, p ≤ 4294967295 → q ≤ 4294967295 → p * q ≤ 18446744065119617025 := fun p q h1 h2 => Nat.mul_le_mul h1 h2
  have hs := mulr_s _ _ _ _ hi lo (hm a c hab.1 hcd.1) (hm a d hab.1 hcd.2.1) (hm b c hab.2.1 hcd.1) (hm b d hab.2.1 hcd.2.1) e2 hlo
  simp only [Int.natCast_mul] at hs
  refine pureC (n := 50) (rs := [.cell 4 155]) (ts := [155]) Tryz.func127 rfl (by decide) [] (by (exact SD)) ?_
  (repeat' (first | (show SWp _ _ _ (.seq (.region 2 _ _) _) _ _ _ _; refine (stop_in ?_)) | refine swp_seq [0, 1, 4, 5, 6, 7, 8, 9, 10, 11] ?_ | refine st2 ?_ | (show CallQ ..; first | refine cQ (fun hcc => (by fail)) ?_ | (refine lP ?_; refine lQ (fun hcc m => (by fail)) ?_)) | (show Fct ..; refine fctI (fun hf => ?_)) | (show SWp _ _ _ (.cond _ _ _) _ _ _ _; first | refine cB (fun hc => ?_) (fun hc => ?_) | refine cU ?_ ?_)))
  refine stop_out ?_
  rw [ha, hb, hc1, hd]
  (repeat' (first | refine swp_seq [0, 1, 4, 5, 6, 7, 8, 9, 10, 11] ?_ | refine st2 ?_ | (show Fct ..; refine fctI (fun hf => ?_)) | (show SWp _ _ _ (.cond _ _ _) _ _ _ _; first | refine cB (fun hc => ?_) (fun hc => ?_) | refine cU ?_ ?_)))
  (refine DVQ ?_)
  have e3 : (2 : Int) ^ min 32 IntKind.u64.bits = 4294967296 := rfl
  rw [hs.1, e3, hs.2]; rfl
theorem made_f (h l : Nat) (m : Nat) : DCalls Tryz.prog 126 [uD h l, lb false] (hget []) m (nuD h l false) (hget []) := by
  refine pureC (n := 13) (rs := [.cell 4 157]) (ts := [157]) Tryz.func126 rfl (by decide) [] (by (exact SD)) ?_
  (repeat' (first | refine swp_seq [0, 1, 2, 4] ?_ | (show SWp _ _ _ (.region _ _ true) _ _ _ _; refine xG mixed [8] ?_) | refine st2 ?_ | (show Fct ..; refine fctI (fun hf => ?_)) | (show SWp _ _ _ (.cond _ _ _) _ _ _ _; first | refine cB (fun hc => ?_) (fun hc => ?_) | refine cU ?_ ?_)))
  exact DVR
set_option maxHeartbeats 4000000 in
theorem rtimes_f (a b h l : Nat) (m : Nat) (ha : a < 9223372036854775808) (hb : b < 9223372036854775808) (e : a * b = h * 18446744073709551616 + l) (hl : l < 18446744073709551616) : DCalls Tryz.prog 120 [li a, li b] (hget []) m (nuD h l false) (hget []) := by
  have h0 : ¬ ((a : Int) < 0) := by omega
  have h1 : ¬ ((b : Int) < 0) := by omega
  (have := Nonempty.intro h0)
  (have := Nonempty.intro h1)
  have cm := fun m => rmul_f a b h l m (by omega) (by omega) e hl
  clear e
  refine pureC (n := 16) (rs := [.cell 4 157]) (ts := [157]) Tryz.func120 rfl (by decide) [] (by (exact SD)) ?_
  (repeat' (first | refine swp_seq [0, 1, 4] ?_ | refine st2 ?_ | (show CallQ ..; first | refine cQ (fun hcc => (by first | exact rsize_f _ _ (by omega) | exact cm _ | exact made_f _ _ _)) ?_ | (refine lP ?_; refine lQ (fun hcc m => (by first | exact rsize_f _ _ (by omega) | exact cm _ | exact made_f _ _ _)) ?_)) | (show Fct ..; refine fctI (fun hf => ?_)) | (show SWp _ _ _ (.cond _ _ _) _ _ _ _; first | refine cB (fun hc => ?_) (fun hc => ?_) | refine cU ?_ ?_)))
  exact DVR
set_option maxHeartbeats 4000000 in
theorem ofInt_f (n : Nat) (m : Nat) (h : n < 9223372036854775808) : DCalls Tryz.prog 121 [li n] (hget []) m (nuD 0 n false) (hget []) := by
  have h0 : ¬ ((n : Int) < 0) := by omega
  (have := Nonempty.intro h0)
  have cm := fun m => made_f 0 n m
  refine pureC (n := 9) (rs := [.cell 2 157]) (ts := [157]) Tryz.func121 rfl (by decide) [] (by (exact SD)) ?_
  (repeat' (first | refine swp_seq [0, 2] ?_ | refine st2 ?_ | (show CallQ ..; first | refine cQ (fun hcc => (by first | exact rsize_f _ _ (by omega) | exact cm _)) ?_ | (refine lP ?_; refine lQ (fun hcc m => (by first | exact rsize_f _ _ (by omega) | exact cm _)) ?_)) | (show Fct ..; refine fctI (fun hf => ?_)) | (show SWp _ _ _ (.cond _ _ _) _ _ _ _; first | refine cB (fun hc => ?_) (fun hc => ?_) | refine cU ?_ ?_)))
  exact DVR
theorem shift_s (h l b h2 l2 : Nat) (hh : h < 18446744073709551616) (hl : l < 18446744073709551616) (hb : b ≤ 1) (h2l : h2 < 18446744073709551616) (l2l : l2 < 18446744073709551616) (c : Nat) (e : 2 * (h * 18446744073709551616 + l) + b = c * 340282366920938463463374607431768211456 + (h2 * 18446744073709551616 + l2)) :
    IntKind.u64.wrap (IntKind.u64.wrap ((h : Int) * 2 ^ min 1 IntKind.u64.bits) + (l : Int).fdiv (2 ^ min 63 IntKind.u64.bits)) = (h2 : Int) ∧ IntKind.u64.wrap (IntKind.u64.wrap ((l : Int) * 2 ^ min 1 IntKind.u64.bits) + (b : Int)) = (l2 : Int) := by
  have e1 : (2 : Nat) ^ 1 = 2 := rfl
  have e2 : (2 : Nat) ^ 63 = 9223372036854775808 := rfl
  rw [shl64m h 1 (by omega), shl64m l 1 (by omega), shr64 l 63 (by omega), e1, e2, u64w, u64w]
  constructor
  · omega
  · omega
set_option maxHeartbeats 4000000 in
theorem shift_f (h l b h2 l2 c : Nat) (m : Nat) (hh : h < 18446744073709551616) (hl : l < 18446744073709551616) (hb : b ≤ 1) (h2l : h2 < 18446744073709551616) (l2l : l2 < 18446744073709551616) (e : 2 * (h * 18446744073709551616 + l) + b = c * 340282366920938463463374607431768211456 + (h2 * 18446744073709551616 + l2)) :
    DCalls Tryz.prog 129 [uD h l, lu b] (hget []) m (uD h2 l2) (hget []) := by
  have hs := shift_s h l b h2 l2 hh hl hb h2l l2l c e
  clear e
  refine pureC (n := 18) (rs := [.cell 4 155]) (ts := [155]) Tryz.func129 rfl (by decide) [] (by (exact SD)) ?_
  (repeat' (first | refine swp_seq [0, 1, 2, 4] ?_ | refine st2 ?_ | (show Fct ..; refine fctI (fun hf => ?_)) | (show SWp _ _ _ (.cond _ _ _) _ _ _ _; first | refine cB (fun hc => ?_) (fun hc => ?_) | refine cU ?_ ?_)))
  (refine DVQ ?_)
  rw [hs.1, hs.2]; rfl
theorem less0_f (a b : Nat) (m : Nat) : DCalls Tryz.prog 130 [uD 0 a, uD 0 b] (hget []) m (lb (decide (a < b))) (hget []) := by
  have e : decide (a < b) = decide ((a : Int) < (b : Int)) := by rw [decide_eq_decide]; omega
  rw [e]
  refine pureC (n := 24) (rs := [.tmp 4]) (ts := [4]) Tryz.func130 rfl (by decide) [] (by (exact SD)) ?_
  (repeat' (first | refine swp_seq [0, 1, 2, 3, 4] ?_ | refine st2 ?_ | (show Fct ..; refine fctI (fun hf => ?_)) | (show SWp _ _ _ (.cond _ _ _) _ _ _ _; first | refine cB (fun hc => ?_) (fun hc => ?_) | refine cU ?_ ?_)))
  exact DVR
theorem minusr_f (a b : Nat) (m : Nat) (ha : a < 18446744073709551616) (h : b ≤ a) : DCalls Tryz.prog 131 [uD 0 a, uD 0 b] (hget []) m (uD 0 (a - b)) (hget []) := by
  have h0 : ¬ ((a : Int) < (b : Int)) := by omega
  (have := Nonempty.intro h0)
  have e1 : IntKind.u64.wrap ((a : Int) - (b : Int)) = ((a - b : Nat) : Int) := by rw [u64w]; omega
  generalize a - b = d at *
  refine pureC (n := 25) (rs := [.cell 4 155]) (ts := [155]) Tryz.func131 rfl (by decide) [] (by (exact SD)) ?_
  (repeat' (first | refine swp_seq [0, 1, 2, 3, 4, 5, 15] ?_ | refine st2 ?_ | (show Fct ..; refine fctI (fun hf => ?_)) | (show SWp _ _ _ (.cond _ _ _) _ _ _ _; first | refine cB (fun hc => ?_) (fun hc => ?_) | refine cU ?_ ?_)))
  (refine DVQ ?_)
  rw [e1]; rfl
theorem div_step {X top a b q r bit a2 : Nat} (hX : X = top * 340282366920938463463374607431768211456 + a) (ht : top = b * q + r) (ha : 2 * a = bit * 340282366920938463463374607431768211456 + a2) : 2 * X = (b * (2 * q) + (2 * r + bit)) * 340282366920938463463374607431768211456 + a2 := by
  have e : b * (2 * q) = 2 * (b * q) := by rw [← Nat.mul_assoc, Nat.mul_comm b 2, Nat.mul_assoc]
  rw [e, hX, ht]
  generalize b * q = t at *
  omega
theorem dbl_cut (h l bit : Nat) (hh : h < 18446744073709551616) (hl : l < 18446744073709551616) (hb : h / 9223372036854775808 = bit) : ∃ h2 l2, 2 * (h * 18446744073709551616 + l) + 0 = bit * 340282366920938463463374607431768211456 + (h2 * 18446744073709551616 + l2) ∧ h2 < 18446744073709551616 ∧ l2 < 18446744073709551616 :=
  ⟨2 * h - bit * 18446744073709551616 + l / 9223372036854775808, 2 * l % 18446744073709551616, by omega, by omega, by omega⟩
theorem top_le {A X top a i : Nat} (hi : i ≤ 128) (hX : X = A * 2 ^ i) (e : X = top * 340282366920938463463374607431768211456 + a) : top ≤ A := by
  have h1 : 2 ^ i ≤ 2 ^ 128 := Nat.pow_le_pow_right (by decide) hi
  have h2 : A * 2 ^ i ≤ A * 2 ^ 128 := Nat.mul_le_mul_left A h1
  have h3 : (2 : Nat) ^ 128 = 340282366920938463463374607431768211456 := by decide
  rw [h3] at h2
  rw [← hX] at h2
  omega
structure DvI (A b i h l q r : Nat) : Prop where
  hh : h < 18446744073709551616
  hl : l < 18446744073709551616
  hr : r < b
  hb : b < 4611686018427387904
  hA : A < b * 4611686018427387904
  hq : q < 4611686018427387904
  ex : ∃ X, X = A * 2 ^ i ∧ X = (b * q + r) * 340282366920938463463374607431768211456 + (h * 18446744073709551616 + l)
theorem DvI.init {A b h l : Nat} (hh : h < 18446744073709551616) (hl : l < 18446744073709551616) (hb : 0 < b ∧ b < 4611686018427387904) (hA : A < b * 4611686018427387904) (e : h * 18446744073709551616 + l = A) : DvI A b 0 h l 0 0 :=
  ⟨hh, hl, hb.1, hb.2, hA, by decide, A, by rw [Nat.pow_zero, Nat.mul_one], by rw [Nat.mul_zero]; omega⟩
theorem q_lt {A b q r : Nat} (h : b * q + r ≤ A) (hA : A < b * 4611686018427387904) : q < 4611686018427387904 :=
  Nat.lt_of_mul_lt_mul_left (a := b) (Nat.lt_of_le_of_lt (Nat.le_trans (Nat.le_add_right _ _) h) hA)
theorem sub_back {b q t : Nat} (h : b ≤ t) : b * (q + 1) + (t - b) = b * q + t := by rw [Nat.mul_add, Nat.mul_one]; omega
theorem DvI.step {A b i h l q r : Nat} (I : DvI A b i h l q r) (hi : i < 128) : ∃ h2 l2 bit r2 q2 : Nat, (h : Int).fdiv (2 ^ min 63 IntKind.u64.bits) = (bit : Int) ∧ bit ≤ 1 ∧ h2 < 18446744073709551616 ∧ l2 < 18446744073709551616 ∧
    2 * (h * 18446744073709551616 + l) + 0 = bit * 340282366920938463463374607431768211456 + (h2 * 18446744073709551616 + l2) ∧ 2 * r + bit = r2 ∧ 2 * q = q2 ∧ r2 < 9223372036854775808 ∧ q2 < 9223372036854775808 ∧
    (r2 < b → DvI A b (i + 1) h2 l2 q2 r2) ∧ (¬ r2 < b → DvI A b (i + 1) h2 l2 (q2 + 1) (r2 - b)) := by
  obtain ⟨hh, hl, hr, hb, hA, hq, X, e1, e2⟩ := I
  obtain ⟨bit, hbit⟩ : ∃ bit, h / 9223372036854775808 = bit := ⟨_, rfl⟩
  obtain ⟨h2, l2, hs2, hh2, hl2⟩ := dbl_cut h l bit hh hl hbit
  have hb1 : bit ≤ 1 := by clear e1 e2 hs2; omega
  have hr3 : 2 * r + bit < 9223372036854775808 := by clear e1 e2 hs2 hbit; omega
  have hq3 : 2 * q < 9223372036854775808 := by clear e1 e2 hs2 hbit; omega
  have hfd : (h : Int).fdiv (2 ^ min 63 IntKind.u64.bits) = (bit : Int) := by rw [← hbit]; exact shr64 h 63 (by decide)
  have hs3 := hs2
  rw [Nat.add_zero] at hs3
  have hstep := div_step (a2 := h2 * 18446744073709551616 + l2) e2 rfl hs3
  have hX2 : 2 * X = A * 2 ^ (i + 1) := by rw [e1, Nat.pow_succ, ← Nat.mul_assoc A, Nat.mul_comm 2]
  have htop := top_le (i := i + 1) (by omega) hX2 hstep
  have hq2 := q_lt htop hA
  refine ⟨h2, l2, bit, 2 * r + bit, 2 * q, hfd, hb1, hh2, hl2, hs2, rfl, rfl, hr3, hq3, fun hlt => ?_, fun hlt => ?_⟩
  · exact ⟨hh2, hl2, hlt, hb, hA, hq2, 2 * X, hX2, hstep⟩
  · have e3 : b * (2 * q + 1) + (2 * r + bit - b) = b * (2 * q) + (2 * r + bit) := sub_back (Nat.le_of_not_lt hlt)
    refine ⟨hh2, hl2, by clear e1 e2 hs2 hstep hX2 htop e3; omega, hb, hA, q_lt (r := 2 * r + bit - b) (by rw [e3]; exact htop) hA, 2 * X, hX2, by rw [e3]; exact hstep⟩
theorem DvI.fin {A b h l q r : Nat} (I : DvI A b 128 h l q r) : A = b * q + r ∧ r < b := by
  obtain ⟨hh, hl, hr, hb, hA, hq, X, e1, e2⟩ := I
  refine ⟨?_, hr⟩
  have h3 : (2 : Nat) ^ 128 = 340282366920938463463374607431768211456 := by decide
  rw [h3] at e1
  rw [e1] at e2
  generalize b * q + r = t at *
  omega
theorem shift0_f (r b r2 : Nat) (m : Nat) (hb : b ≤ 1) (e : 2 * r + b = r2) (h2 : r2 < 9223372036854775808) : DCalls Tryz.prog 129 [uD 0 r, lu b] (hget []) m (uD 0 r2) (hget []) :=
  shift_f 0 r b 0 r2 0 m (by omega) (by omega) hb (by omega) (by omega) (by omega)
attribute [push_cast] Int.zero_fdiv
set_option maxRecDepth 20000 in
set_option maxHeartbeats 16000000 in
theorem rdiv_f (ha la b Q R : Nat) (m : Nat) (hha : ha < 18446744073709551616) (hla : la < 18446744073709551616) (hb : 0 < b ∧ b < 4611686018427387904) (hQ : ha * 18446744073709551616 + la = b * Q + R) (hR : R < b) (hQ2 : Q < 4611686018427387904) :
    DCalls Tryz.prog 124 [uD ha la, uD 0 b] (hget []) m (.tup [uD 0 Q, uD 0 R]) (hget []) := by
  have hfin : ∃ A, DvI A b 0 ha la 0 0 ∧ A = b * Q + R := ⟨_, DvI.init hha hla hb (by
    have := Nat.mul_le_mul_left b (show Q + 1 ≤ 4611686018427387904 by omega)
    rw [Nat.mul_add, Nat.mul_one] at this
    omega) hQ, rfl⟩
  obtain ⟨A, I0, hA⟩ := hfin
  clear hQ hha hla
  refine pureC (n := 45) (rs := [.cell 4 155, .cell 5 155]) (ts := [155, 155]) Tryz.func124 rfl (by decide) [] (by (exact SD)) ?_
  (repeat' (first | refine swp_seq [0, 1, 2, 3, 4, 5, 6, 7, 8, 9, 10, 12, 35] ?_ | refine st2 ?_ | (show Fct ..; refine fctI (fun hf => ?_)) | (show SWp _ _ _ (.cond _ _ _) _ _ _ _; first | refine cB (fun hc => ?_) (fun hc => ?_) | refine cU ?_ ?_)))
  refine loop_swp [2, 3, 4, 5, 6, 7, 8] [0, 8, 16, 24, 32, 40] 41 (fun k M H => ∃ i h l q r : Nat, i ≤ 128 ∧ k = 128 - i ∧ DvI A b i h l q r ∧ M = [(2, .ptr 0 0), (3, .ptr 8 0), (4, .ptr 16 0), (5, .ptr 24 0), (6, .ptr 32 0), (7, .ptr 40 0), (8, li i)] ∧ H = [(0, .blk 155 [lu h, lu l]), (8, .blk 155 [lu 0, lu b]), (16, .blk 155 [lu 0, lu 0]), (24, .blk 155 [lu 0, lu 0]), (32, .blk 155 [lu 0, lu q]), (40, .blk 155 [lu 0, lu r])]) (by omega) ?_ ?_ ?_
  · rintro k M H ⟨i, h, l, q, r, g1, g2, g3, rfl, rfl⟩
    exact ⟨by (exact SD), by (exact SD)⟩
  · refine ⟨_, 0, ha, la, 0, 0, by omega, rfl, I0, ?_, ?_⟩
    · exact DVR
    · exact DVR
  rintro k M H ⟨i, h, l, q, r, g1, g2, g3, rfl, rfl⟩
  by_cases hi : i < 128
  · have hi3 : (i : Int) < 128 := by omega
    (have := Nonempty.intro hi3)
    obtain ⟨h2, l2, bit, r2, q2, es, hb1, hh2, hl2, hs2, er, eq, hr2, hq2, n1, n2⟩ := g3.step hi
    have c1 := fun m => shift_f h l 0 h2 l2 bit m g3.hh g3.hl (by omega) hh2 hl2 hs2
    have c2 := fun m => shift0_f r bit r2 m hb1 er hr2
    have c3 := fun m => shift0_f q 0 q2 m (by omega) eq hq2
    have c4 := fun m => less0_f r2 b m
    clear hs2 er eq
    (repeat' (first | (show SWp _ _ _ (.seq (.region 6 _ _) _) _ _ _ _; refine (stop_in ?_)) | refine swp_seq [0, 1, 2, 3, 4, 5, 6, 7, 8, 9, 10, 12, 35] ?_ | (show SWp _ _ _ (.region _ _ true) _ _ _ _; refine xG mixed [] ?_) | refine st2 ?_ | (show CallQ ..; first | refine cQ (fun hcc => (by fail)) ?_ | (refine lP ?_; refine lQ (fun hcc m => (by fail)) ?_)) | (show XCallQ ..; first | refine xQ (fun hcc => (by fail)) ?_ | (refine xlP ?_; refine xlQ (fun hcc m => (by fail)) ?_)) | (show Fct ..; refine fctI (fun hf => ?_)) | (show SWp _ _ _ (.cond _ _ _) _ _ _ _; first | refine cB (fun hc => ?_) (fun hc => ?_) | refine cU ?_ ?_)))
    refine stop_out ?_
    rw [es]
    clear es
    by_cases hlt : r2 < b
    · rw [decide_eq_true hlt] at c4
      (repeat' (first | refine swp_seq [0, 1, 2, 3, 4, 5, 6, 7, 8, 9, 10, 12, 35] ?_ | refine st2 ?_ | (show CallQ ..; first | refine cQ (fun hcc => (by first | exact c1 _ | exact c2 _ | exact c3 _ | exact c4 _)) ?_ | (refine lP ?_; refine lQ (fun hcc m => (by first | exact c1 _ | exact c2 _ | exact c3 _ | exact c4 _)) ?_)) | (show XCallQ ..; first | refine xQ (fun hcc => (by first | exact c1 _ | exact c2 _ | exact c3 _ | exact c4 _)) ?_ | (refine xlP ?_; refine xlQ (fun hcc m => (by first | exact c1 _ | exact c2 _ | exact c3 _ | exact c4 _)) ?_)) | (show Fct ..; refine fctI (fun hf => ?_)) | (show SWp _ _ _ (.cond _ _ _) _ _ _ _; first | refine cB (fun hc => ?_) (fun hc => ?_) | refine cU ?_ ?_)))
      (refine lN [0, 8, 16, 24, 32, 40] ?_)
      exact ⟨_, by omega, i + 1, h2, l2, q2, r2, by omega, rfl, n1 hlt, rfl, rfl⟩
    · rw [decide_eq_false hlt] at c4
      have c5 := fun m => minusr_f r2 b m (by omega) (by omega)
      have n3 := n2 hlt
      have eq3 : IntKind.u64.wrap ((q2 : Int) + 1) = ((q2 + 1 : Nat) : Int) := by rw [u64w]; omega
      generalize r2 - b = r3 at *
      generalize q2 + 1 = q3 at *
      (repeat' (first | refine swp_seq [0, 1, 2, 3, 4, 5, 6, 7, 8, 9, 10, 12, 35] ?_ | refine st2 ?_ | (show CallQ ..; first | refine cQ (fun hcc => (by first | exact c1 _ | exact c2 _ | exact c3 _ | exact c4 _ | exact c5 _)) ?_ | (refine lP ?_; refine lQ (fun hcc m => (by first | exact c1 _ | exact c2 _ | exact c3 _ | exact c4 _ | exact c5 _)) ?_)) | (show XCallQ ..; first | refine xQ (fun hcc => (by first | exact c1 _ | exact c2 _ | exact c3 _ | exact c4 _ | exact c5 _)) ?_ | (refine xlP ?_; refine xlQ (fun hcc m => (by first | exact c1 _ | exact c2 _ | exact c3 _ | exact c4 _ | exact c5 _)) ?_)) | (show Fct ..; refine fctI (fun hf => ?_)) | (show SWp _ _ _ (.cond _ _ _) _ _ _ _; first | refine cB (fun hc => ?_) (fun hc => ?_) | refine cU ?_ ?_)))
      (refine lN [0, 8, 16, 24, 32, 40] ?_)
      exact ⟨_, by omega, i + 1, h2, l2, q3, r3, by omega, rfl, n3, rfl, by rw [eq3]; rfl⟩
  obtain rfl : i = 128 := by omega
  have hi3 : ¬ ((128 : Int) < 128) := by omega
  (have := Nonempty.intro hi3)
  obtain ⟨e1, e2⟩ := g3.fin
  have e3 : q = Q ∧ r = R := by
    have d1 : (b * q + r) / b = q := by rw [Nat.mul_add_div hb.1, Nat.div_eq_of_lt e2, Nat.add_zero]
    have d2 : (b * Q + R) / b = Q := by rw [Nat.mul_add_div hb.1, Nat.div_eq_of_lt hR, Nat.add_zero]
    rw [← e1, hA, d2] at d1
    subst d1
    omega
  obtain ⟨rfl, rfl⟩ := e3
  clear g3 e1 I0 hA
  (repeat' (first | refine swp_seq [0, 1, 2, 3, 4, 5, 6, 7, 8, 9, 10, 12, 35] ?_ | (show SWp _ _ _ (.region _ _ true) _ _ _ _; refine xG mixed [16, 24] ?_) | refine st2 ?_ | (show Fct ..; refine fctI (fun hf => ?_)) | (show SWp _ _ _ (.cond _ _ _) _ _ _ _; first | refine cB (fun hc => ?_) (fun hc => ?_) | refine cU ?_ ?_)))
  exact DVR
set_option maxHeartbeats 4000000 in
theorem down_f (ha la b Q R : Nat) (m : Nat) (hha : ha < 18446744073709551616) (hla : la < 18446744073709551616) (hb : 0 < b ∧ b < 4611686018427387904) (hQ : ha * 18446744073709551616 + la = b * Q + R) (hR : R < b) (hQ2 : Q < 4611686018427387904) :
    DCalls Tryz.prog 119 [nuD ha la false, nuD 0 b false] (hget []) m (nuD 0 Q false) (hget []) := by
  have cd := fun m => rdiv_f ha la b Q R m hha hla hb hQ hR hQ2
  clear hQ
  refine pureC (n := 33) (rs := [.cell 4 157]) (ts := [157]) Tryz.func119 rfl (by decide) [] (by (exact SD)) ?_
  (repeat' (first | refine swp_seq [0, 1, 2, 3, 4, 5, 6, 7, 26] ?_ | refine st2 ?_ | (show CallQ ..; first | refine cQ (fun hcc => (by first | exact cd _ | exact made_f _ _ _)) ?_ | (refine lP ?_; refine lQ (fun hcc m => (by first | exact cd _ | exact made_f _ _ _)) ?_)) | (show Fct ..; refine fctI (fun hf => ?_)) | (show SWp _ _ _ (.cond _ _ _) _ _ _ _; first | refine cB (fun hc => ?_) (fun hc => ?_) | refine cU ?_ ?_)))
  exact DVR
theorem isInt_f (Q : Nat) (m : Nat) (h : Q < 9223372036854775808) : DCalls Tryz.prog 118 [nuD 0 Q false] (hget []) m (.tup [li Q, lb true]) (hget []) := by
  have h0 : (Q : Int) < 9223372036854775808 := by omega
  (have := Nonempty.intro h0)
  refine pureC (n := 35) (rs := [.tmp 2, .tmp 3]) (ts := [3, 4]) Tryz.func118 rfl (by decide) [] (by (exact SD)) ?_
  (repeat' (first | refine swp_seq [0, 1, 2, 3, 5] ?_ | refine st2 ?_ | (show Fct ..; refine fctI (fun hf => ?_)) | (show SWp _ _ _ (.cond _ _ _) _ _ _ _; first | refine cB (fun hc => ?_) (fun hc => ?_) | refine cU ?_ ?_)))
  exact DVR
theorem cut64 (M : Nat) (h : M < 340282366920938463463374607431768211456) : ∃ h l, M = h * 18446744073709551616 + l ∧ l < 18446744073709551616 ∧ h < 18446744073709551616 := ⟨M / 18446744073709551616, M % 18446744073709551616, by omega, by omega, by omega⟩
set_option maxHeartbeats 4000000 in
theorem floorOf_f (n k b Q R : Nat) (m : Nat) (hn : n < 9223372036854775808) (hk : k < 9223372036854775808) (hb : 0 < b ∧ b < 4611686018427387904) (hq : n * k = b * Q + R) (hR : R < b) (hQ : Q < 4611686018427387904) : DCalls Tryz.prog 105 [li n, li k, li b] (hget []) m (li Q) (hget []) := by
  have hM : n * k < 340282366920938463463374607431768211456 := by
    have := Nat.mul_le_mul (show n ≤ 9223372036854775807 by omega) (show k ≤ 9223372036854775807 by omega)
    exact Nat.lt_of_le_of_lt this (by decide)
  obtain ⟨h, l, e, hl, hh⟩ := cut64 _ hM
  have ct := fun m => rtimes_f n k h l m hn hk e hl
  have cd := fun m => down_f h l b Q R m hh hl hb (by rw [← e]; exact hq) hR hQ
  clear e hq hM
  refine pureC (n := 20) (rs := [.tmp 6]) (ts := [3]) Tryz.func105 rfl (by decide) [] (by (exact SD)) ?_
  (repeat' (first | refine swp_seq [0, 1, 2, 6, 7] ?_ | refine st2 ?_ | (show CallQ ..; first | refine cQ (fun hcc => (by first | exact ct _ | exact ofInt_f _ _ (by omega) | exact cd _ | exact isInt_f _ _ (by omega))) ?_ | (refine lP ?_; refine lQ (fun hcc m => (by first | exact ct _ | exact ofInt_f _ _ (by omega) | exact cd _ | exact isInt_f _ _ (by omega))) ?_)) | (show Fct ..; refine fctI (fun hf => ?_)) | (show SWp _ _ _ (.cond _ _ _) _ _ _ _; first | refine cB (fun hc => ?_) (fun hc => ?_) | refine cU ?_ ?_)))
  exact DVR
def cntX (t : List Knot) (x : Int) : Nat := if knX t x < t.length ∧ (t.getD (knX t x) default).x = x then knX t x + 1 else knX t x
theorem cntX_le (t : List Knot) (x : Int) : cntX t x ≤ t.length := by
  have := knX_le t x
  unfold cntX
  split <;> omega
theorem cntX_lo {t : List Knot} {x : Int} {j : Nat} (hj : j < cntX t x) : (t.getD j default).x ≤ x := by
  unfold cntX at hj
  split at hj
  · next h =>
    by_cases e : j = knX t x
    · rw [e]; omega
    · have := knX_lo (t := t) (x := x) (j := j) (by omega); omega
  · have := knX_lo (t := t) (x := x) (j := j) hj; omega
theorem cntX_hi {t : List Knot} {x : Int} {j : Nat} (h : tabB t = true) (hj : cntX t x ≤ j) (hl : j < t.length) : x < (t.getD j default).x := by
  unfold cntX at hj
  split at hj
  · next hf =>
    have h1 := (tab_in h).2.2.2 (knX t x) (by omega)
    have h2 := tab_mono2 h j (knX t x + 1) hj hl
    omega
  · next hf =>
    have h1 := knX_hi h hj hl
    by_cases e : j = knX t x
    · have : ¬ (t.getD (knX t x) default).x = x := fun q => hf ⟨by omega, q⟩
      rw [e] at h1 ⊢; omega
    · have h2 := knX_hi (x := x) h (Nat.le_refl _) (by omega : knX t x < t.length)
      have h3 := (tab_in h).2.2.2 (knX t x) (by omega)
      have h4 := tab_mono2 h j (knX t x + 1) (by omega) hl
      omega
set_option maxHeartbeats 4000000 in
theorem before_f (t : List Knot) (x : Int) (m : Nat) (h : tabB t = true) : DCalls Tryz.prog 104 [knotL t, li x] (hget []) m (li ((cntX t x : Int) - 1)) (hget []) := by
  have hlen := (tab_in h).2.1
  have hk := cntX_le t x
  have hlo := fun j => cntX_lo (t := t) (x := x) (j := j)
  have hhi := fun j => cntX_hi (t := t) (x := x) (j := j) h
  generalize cntX t x = c at *
  refine pureC (n := 22) (rs := [.tmp 4]) (ts := [3]) Tryz.func104 rfl (by decide) [] (by (exact SD)) ?_
  (repeat' (first | refine swp_seq [0, 1, 4, 5, 6, 10, 19] ?_ | refine st2 ?_ | (show Fct ..; refine fctI (fun hf => ?_)) | (show SWp _ _ _ (.cond _ _ _) _ _ _ _; first | refine cB (fun hc => ?_) (fun hc => ?_) | refine cU ?_ ?_)))
  refine loop_swp [0, 1, 5, 6] [] 0 (fun q A H => ∃ i : Nat, i ≤ t.length ∧ q = t.length - i ∧ A = [(0, knotL t), (1, li x), (5, li (((if i < c then i else c : Nat) : Int) - 1)), (6, li i)] ∧ H = []) (by omega) ?_ ?_ ?_
  · rintro q A H ⟨i, g1, g2, rfl, rfl⟩
    exact ⟨by (exact SD), by (exact SD)⟩
  · refine ⟨_, 0, by omega, rfl, ?_, ?_⟩
    · have e : (((if 0 < c then 0 else c : Nat) : Int) - 1) = -1 := by split <;> omega
      rw [e]
      exact DVR
    · exact DVR
  rintro q A H ⟨i, g1, g2, rfl, rfl⟩
  by_cases hi : i < t.length
  · have hi3 : (i : Int) < (t.length : Int) := by omega
    (have := Nonempty.intro hi)
    (have := Nonempty.intro hi3)
    by_cases hx : (t.getD i default).x ≤ x
    · have hic : i < c := Nat.lt_of_not_le fun q => by have := hhi i q hi; omega
      (have := Nonempty.intro hx)
      have e : (((if i + 1 < c then i + 1 else c : Nat) : Int) - 1) = (i : Int) := by split <;> omega
      (repeat' (first | refine swp_seq [0, 1, 4, 5, 6, 10, 19] ?_ | refine st2 ?_ | (show Fct ..; refine fctI (fun hf => ?_)) | (show SWp _ _ _ (.cond _ _ _) _ _ _ _; first | refine cB (fun hc => ?_) (fun hc => ?_) | refine cU ?_ ?_)))
      (refine lN [] ?_)
      exact ⟨_, by omega, i + 1, by omega, rfl, by rw [e]; rfl, rfl⟩
    · have hic : ¬ i < c := fun q => hx (hlo i q)
      (have := Nonempty.intro hx)
      rw [if_neg hic]
      have e : (if i + 1 < c then i + 1 else c) = c := if_neg (by omega)
      (repeat' (first | refine swp_seq [0, 1, 4, 5, 6, 10, 19] ?_ | refine st2 ?_ | (show Fct ..; refine fctI (fun hf => ?_)) | (show SWp _ _ _ (.cond _ _ _) _ _ _ _; first | refine cB (fun hc => ?_) (fun hc => ?_) | refine cU ?_ ?_)))
      (refine lN [] ?_)
      exact ⟨_, by omega, i + 1, by omega, rfl, by rw [e]; rfl, rfl⟩
  have hi3 : ¬ ((i : Int) < (t.length : Int)) := by omega
  (have := Nonempty.intro hi3)
  have e : (if i < c then i else c) = c := by split <;> omega
  rw [e]
  (repeat' (first | refine swp_seq [0, 1, 4, 5, 6, 10, 19] ?_ | refine st2 ?_ | (show Fct ..; refine fctI (fun hf => ?_)) | (show SWp _ _ _ (.cond _ _ _) _ _ _ _; first | refine cB (fun hc => ?_) (fun hc => ?_) | refine cU ?_ ?_)))
  exact DVR

end Go.Proofs.YtlailhdmgehniaaGreat
