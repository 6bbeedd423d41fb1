/-
  Contracts of functions of the program, over the engine.
  No condition.
-/
import Derived.Test.YtnfbaeeohepajaaGreatCL1L2
import Derived.Test.YtnfbaeeohepajaaGreatCR3R4
import Derived.Test.YtnfbaeeohepajaaGreatCL2cL2o
namespace Go.Proofs.YtnfbaeeohepajaaGreat
open Go.Eng
set_option linter.all false
attribute [local irreducible] DCallsG SWp Fct CallQ XCallQ LCallQ XLCallQ drun xrun

abbrev uN (N : Nat) : DV := uD (hiN N) (loN N)
abbrev nN (N : Nat) : DV := nuD (hiN N) (loN N) false
theorem less_f (M N : Nat) (m : Nat) : DCalls Tryz.prog 218 [uN M, uN N] (hget []) m (lb (decide (M < N))) (hget []) := by
  have e : decide (M < N) = (decide ((hiN M : Int) < (hiN N : Int)) || ((hiN M : Int) == (hiN N : Int) && decide ((loN M : Int) < (loN N : Int)))) := by
    have h := le_parts (M := N) (N := M)
    rw [Bool.eq_iff_iff]
    simp only [Bool.or_eq_true, Bool.and_eq_true, decide_eq_true_eq, beq_iff_eq]
    omega
  rw [e]
  refine pureC (n := 24) (rs := [.tmp 4]) (ts := [4]) Tryz.func218 rfl (by decide) [] (by (exact SD)) ?_
  (repeat' (first | refine swp_seq [0, 1, 2, 3, 4] ?_ | refine st2 ?_ | (show Fct ..; refine fctI (fun hf => ?_)) | (show SWp _ _ _ (.cond _ _ _) _ _ _ _; first | refine cB (fun hc => ?_) (fun hc => ?_) | refine cU ?_ ?_)))
  exact DVR
theorem hiN_small {n : Nat} (h : n < 18446744073709551616) : hiN n = 0 := hiN_of (by rw [Nat.zero_mul, Nat.zero_add]) h
theorem loN_small {n : Nat} (h : n < 18446744073709551616) : loN n = n := loN_of (by rw [Nat.zero_mul, Nat.zero_add]) h
structure DwI (A b i N q r : Nat) : Prop where
  hN : N < 340282366920938463463374607431768211456
  hr : r < b
  hb : b < 4611686018427387904
  hA : A < 340282366920938463463374607431768211456
  hq : q ≤ A
  ex : ∃ X, X = A * 2 ^ i ∧ X = (b * q + r) * 340282366920938463463374607431768211456 + N
theorem DwI.init {A b : Nat} (hA : A < 340282366920938463463374607431768211456) (hb : 0 < b ∧ b < 4611686018427387904) : DwI A b 0 A 0 0 :=
  ⟨hA, hb.1, hb.2, hA, Nat.zero_le _, A, by rw [Nat.pow_zero, Nat.mul_one], by rw [Nat.mul_zero]; omega⟩
theorem q_le {A b q r : Nat} (hb : 0 < b) (h : b * q + r ≤ A) : q ≤ A :=
  Nat.le_trans (Nat.le_mul_of_pos_left q hb) (Nat.le_trans (Nat.le_add_right _ _) h)
theorem dbl_N {N : Nat} (h : N < 340282366920938463463374607431768211456) : ∃ bit N2, hiN N / 9223372036854775808 = bit ∧ bit ≤ 1 ∧ N2 < 340282366920938463463374607431768211456 ∧ 2 * N = bit * 340282366920938463463374607431768211456 + N2 ∧
    2 * (hiN N * 18446744073709551616 + loN N) + 0 = bit * 340282366920938463463374607431768211456 + (hiN N2 * 18446744073709551616 + loN N2) := by
  have e := hl_eq N
  have h1 := hiN_lt h
  have h2 := loN_lt N
  refine ⟨_, 2 * N - hiN N / 9223372036854775808 * 340282366920938463463374607431768211456, rfl, ?_⟩
  have e2 := hl_eq (2 * N - hiN N / 9223372036854775808 * 340282366920938463463374607431768211456)
  rw [← e2, ← e]
  clear e2
  generalize hiN N = a at *
  generalize loN N = c at *
  omega
theorem dbl_q {q : Nat} (h : 2 * q < 340282366920938463463374607431768211456) : 2 * (hiN q * 18446744073709551616 + loN q) + 0 = 0 * 340282366920938463463374607431768211456 + (hiN (2 * q) * 18446744073709551616 + loN (2 * q)) := by
  rw [← hl_eq, ← hl_eq]; omega
theorem lo_next (q : Nat) : hiN (2 * q + 1) = hiN (2 * q) ∧ IntKind.u64.wrap ((loN (2 * q) : Int) + 1) = (loN (2 * q + 1) : Int) := by
  have e := hl_eq (2 * q)
  have h := loN_lt (2 * q)
  have e2 : 2 * q + 1 = hiN (2 * q) * 18446744073709551616 + (loN (2 * q) + 1) := by omega
  have h3 : loN (2 * q) + 1 < 18446744073709551616 := by omega
  refine ⟨hiN_of e2 h3, ?_⟩
  rw [loN_of e2 h3, u64w]; omega
theorem DwI.step {A b i N q r : Nat} (I : DwI A b i N q r) (hi : i < 128) : ∃ N2 bit r2 : Nat, (hiN N : Int).fdiv (2 ^ min 63 IntKind.u64.bits) = (bit : Int) ∧ bit ≤ 1 ∧ N2 < 340282366920938463463374607431768211456 ∧
    2 * (hiN N * 18446744073709551616 + loN N) + 0 = bit * 340282366920938463463374607431768211456 + (hiN N2 * 18446744073709551616 + loN N2) ∧ 2 * r + bit = r2 ∧ r2 < 9223372036854775808 ∧ 2 * q < 340282366920938463463374607431768211456 ∧
    (r2 < b → DwI A b (i + 1) N2 (2 * q) r2) ∧ (¬ r2 < b → DwI A b (i + 1) N2 (2 * q + 1) (r2 - b)) := by
  obtain ⟨hN, hr, hb, hA, hq, X, e1, e2⟩ := I
  obtain ⟨bit, N2, hbit, hb1, hN2, hs, hs2⟩ := dbl_N hN
  have hr3 : 2 * r + bit < 9223372036854775808 := by clear e1 e2 hs hs2 hbit; omega
  have hfd : (hiN N : Int).fdiv (2 ^ min 63 IntKind.u64.bits) = (bit : Int) := by rw [← hbit]; exact shr64 (hiN N) 63 (by decide)
  have hstep := div_step (a2 := N2) e2 rfl hs
  have hX2 : 2 * X = A * 2 ^ (i + 1) := by rw [e1, Nat.pow_succ, ← Nat.mul_assoc A, Nat.mul_comm 2]
  have htop := top_le (i := i + 1) (by omega) hX2 hstep
  have hb0 : 0 < b := by omega
  have hq2 := q_le hb0 htop
  refine ⟨N2, bit, 2 * r + bit, hfd, hb1, hN2, hs2, rfl, hr3, Nat.lt_of_le_of_lt hq2 hA, fun hlt => ?_, fun hlt => ?_⟩
  · exact ⟨hN2, hlt, hb, hA, hq2, 2 * X, hX2, hstep⟩
  · have e3 : b * (2 * q + 1) + (2 * r + bit - b) = b * (2 * q) + (2 * r + bit) := sub_back (Nat.le_of_not_lt hlt)
    refine ⟨hN2, by clear e1 e2 hs hs2 hstep hX2 htop e3; omega, hb, hA, q_le hb0 (r := 2 * r + bit - b) (by rw [e3]; exact htop), 2 * X, hX2, by rw [e3]; exact hstep⟩
theorem DwI.fin {A b N q r : Nat} (I : DwI A b 128 N q r) : q = A / b ∧ r = A % b := by
  obtain ⟨hN, hr, hb, hA, hq, X, e1, e2⟩ := I
  have h3 : (2 : Nat) ^ 128 = 340282366920938463463374607431768211456 := by decide
  rw [h3] at e1
  rw [e1] at e2
  have e : A = b * q + r := by
    generalize b * q + r = t at *
    omega
  rw [e, Nat.mul_add_div (by omega), Nat.div_eq_of_lt hr, Nat.mul_add_mod, Nat.mod_eq_of_lt hr]
  exact ⟨rfl, rfl⟩
set_option maxRecDepth 20000 in
set_option maxHeartbeats 16000000 in
theorem rdivN_f (A b : Nat) (m : Nat) (hA : A < 340282366920938463463374607431768211456) (hb : 0 < b ∧ b < 4611686018427387904) :
    DCalls Tryz.prog 213 [uN A, uD 0 b] (hget []) m (.tup [uN (A / b), uD 0 (A % b)]) (hget []) := by
  have I0 := DwI.init hA hb
  have z0 : hiN 0 = 0 := hiN_small (by decide)
  have z1 : loN 0 = 0 := loN_small (by decide)
  refine pureC (n := 45) (rs := [.cell 4 189, .cell 5 189]) (ts := [189, 189]) Tryz.func213 rfl (by decide) [] (by (exact SD)) ?_
  (repeat' (first | refine swp_seq [0, 1, 2, 3, 4, 5, 6, 7, 8, 9, 10, 12, 35] ?_ | refine st2 ?_ | (show Fct ..; refine fctI (fun hf => ?_)) | (show SWp _ _ _ (.cond _ _ _) _ _ _ _; first | refine cB (fun hc => ?_) (fun hc => ?_) | refine cU ?_ ?_)))
  refine loop_swp [2, 3, 4, 5, 6, 7, 8] [0, 8, 16, 24, 32, 40] 41 (fun k M H => ∃ i N q r : Nat, i ≤ 128 ∧ k = 128 - i ∧ DwI A b i N q r ∧ M = [(2, .ptr 0 0), (3, .ptr 8 0), (4, .ptr 16 0), (5, .ptr 24 0), (6, .ptr 32 0), (7, .ptr 40 0), (8, li i)] ∧ H = [(0, .blk 189 [lu (hiN N), lu (loN N)]), (8, .blk 189 [lu 0, lu b]), (16, .blk 189 [lu 0, lu 0]), (24, .blk 189 [lu 0, lu 0]), (32, .blk 189 [lu (hiN q), lu (loN q)]), (40, .blk 189 [lu 0, lu r])]) (by omega) ?_ ?_ ?_
  · rintro k M H ⟨i, N, q, r, g1, g2, g3, rfl, rfl⟩
    exact ⟨by (exact SD), by (exact SD)⟩
  · refine ⟨_, 0, A, 0, 0, by omega, rfl, I0, ?_, ?_⟩
    · exact DVR
    · rw [z0, z1]
      exact DVR
  rintro k M H ⟨i, N, q, r, g1, g2, g3, rfl, rfl⟩
  by_cases hi : i < 128
  · have hi3 : (i : Int) < 128 := by omega
    (have := Nonempty.intro hi3)
    obtain ⟨N2, bit, r2, es, hb1, hN2, hs2, er, hr2, hq2, n1, n2⟩ := g3.step hi
    have c1 := fun m => shift_f (hiN N) (loN N) 0 (hiN N2) (loN N2) bit m (hiN_lt g3.hN) (loN_lt N) (by omega) (hiN_lt hN2) (loN_lt N2) hs2
    have c2 := fun m => shift0_f r bit r2 m hb1 er hr2
    have hqA : q < 340282366920938463463374607431768211456 := by omega
    have c3 := fun m => shift_f (hiN q) (loN q) 0 (hiN (2 * q)) (loN (2 * q)) 0 m (hiN_lt hqA) (loN_lt q) (by omega) (hiN_lt hq2) (loN_lt _) (dbl_q hq2)
    have c4 := fun m => less0_f r2 b m
    have hnx := lo_next q
    clear hs2 er
    generalize 2 * q = q2 at *
    (repeat' (first | (show SWp _ _ _ (.seq (.region 6 _ _) _) _ _ _ _; refine (stop_in ?_)) | refine swp_seq [0, 1, 2, 3, 4, 5, 6, 7, 8, 9, 10, 12, 35] ?_ | (show SWp _ _ _ (.region _ _ true) _ _ _ _; refine xG mixed [] ?_) | refine st2 ?_ | (show CallQ ..; first | refine cQ (fun hcc => (by fail)) ?_ | (refine lP ?_; refine lQ (fun hcc m => (by fail)) ?_)) | (show XCallQ ..; first | refine xQ (fun hcc => (by fail)) ?_ | (refine xlP ?_; refine xlQ (fun hcc m => (by fail)) ?_)) | (show Fct ..; refine fctI (fun hf => ?_)) | (show SWp _ _ _ (.cond _ _ _) _ _ _ _; first | refine cB (fun hc => ?_) (fun hc => ?_) | refine cU ?_ ?_)))
    refine stop_out ?_
    rw [es]
    clear es
    by_cases hlt : r2 < b
    · rw [decide_eq_true hlt] at c4
      (repeat' (first | refine swp_seq [0, 1, 2, 3, 4, 5, 6, 7, 8, 9, 10, 12, 35] ?_ | refine st2 ?_ | (show CallQ ..; first | refine cQ (fun hcc => (by first | exact c1 _ | exact c2 _ | exact c3 _ | exact c4 _)) ?_ | (refine lP ?_; refine lQ (fun hcc m => (by first | exact c1 _ | exact c2 _ | exact c3 _ | exact c4 _)) ?_)) | (show XCallQ ..; first | refine xQ (fun hcc => (by first | exact c1 _ | exact c2 _ | exact c3 _ | exact c4 _)) ?_ | (refine xlP ?_; refine xlQ (fun hcc m => (by first | exact c1 _ | exact c2 _ | exact c3 _ | exact c4 _)) ?_)) | (show Fct ..; refine fctI (fun hf => ?_)) | (show SWp _ _ _ (.cond _ _ _) _ _ _ _; first | refine cB (fun hc => ?_) (fun hc => ?_) | refine cU ?_ ?_)))
      (refine lN [0, 8, 16, 24, 32, 40] ?_)
      exact ⟨_, by omega, i + 1, N2, q2, r2, by omega, rfl, n1 hlt, rfl, rfl⟩
    · rw [decide_eq_false hlt] at c4
      have c5 := fun m => minusr_f r2 b m (by omega) (by omega)
      have n3 := n2 hlt
      generalize r2 - b = r3 at *
      (repeat' (first | refine swp_seq [0, 1, 2, 3, 4, 5, 6, 7, 8, 9, 10, 12, 35] ?_ | refine st2 ?_ | (show CallQ ..; first | refine cQ (fun hcc => (by first | exact c1 _ | exact c2 _ | exact c3 _ | exact c4 _ | exact c5 _)) ?_ | (refine lP ?_; refine lQ (fun hcc m => (by first | exact c1 _ | exact c2 _ | exact c3 _ | exact c4 _ | exact c5 _)) ?_)) | (show XCallQ ..; first | refine xQ (fun hcc => (by first | exact c1 _ | exact c2 _ | exact c3 _ | exact c4 _ | exact c5 _)) ?_ | (refine xlP ?_; refine xlQ (fun hcc m => (by first | exact c1 _ | exact c2 _ | exact c3 _ | exact c4 _ | exact c5 _)) ?_)) | (show Fct ..; refine fctI (fun hf => ?_)) | (show SWp _ _ _ (.cond _ _ _) _ _ _ _; first | refine cB (fun hc => ?_) (fun hc => ?_) | refine cU ?_ ?_)))
      (refine lN [0, 8, 16, 24, 32, 40] ?_)
      exact ⟨_, by omega, i + 1, N2, q2 + 1, r3, by omega, rfl, n3, rfl, by rw [hnx.1, hnx.2]; rfl⟩
  obtain rfl : i = 128 := by omega
  have hi3 : ¬ ((128 : Int) < 128) := by omega
  (have := Nonempty.intro hi3)
  obtain ⟨e1, e2⟩ := g3.fin
  rw [← e1, ← e2]
  clear g3 I0 e1 e2
  (repeat' (first | refine swp_seq [0, 1, 2, 3, 4, 5, 6, 7, 8, 9, 10, 12, 35] ?_ | (show SWp _ _ _ (.region _ _ true) _ _ _ _; refine xG mixed [16, 24] ?_) | refine st2 ?_ | (show Fct ..; refine fctI (fun hf => ?_)) | (show SWp _ _ _ (.cond _ _ _) _ _ _ _; first | refine cB (fun hc => ?_) (fun hc => ?_) | refine cU ?_ ?_)))
  exact DVR
set_option maxHeartbeats 4000000 in
theorem downN_f (A b : Nat) (m : Nat) (hA : A < 340282366920938463463374607431768211456) (hb : 0 < b ∧ b < 4611686018427387904) :
    DCalls Tryz.prog 197 [nN A, nuD 0 b false] (hget []) m (nN (A / b)) (hget []) := by
  have cd := fun m => rdivN_f A b m hA hb
  generalize A / b = Q at *
  generalize A % b = R at *
  refine pureC (n := 33) (rs := [.cell 4 191]) (ts := [191]) Tryz.func197 rfl (by decide) [] (by (exact SD)) ?_
  (repeat' (first | refine swp_seq [0, 1, 2, 3, 4, 5, 6, 7, 26] ?_ | refine st2 ?_ | (show CallQ ..; first | refine cQ (fun hcc => (by first | exact cd _ | exact made_f _ _ _)) ?_ | (refine lP ?_; refine lQ (fun hcc m => (by first | exact cd _ | exact made_f _ _ _)) ?_)) | (show Fct ..; refine fctI (fun hf => ?_)) | (show SWp _ _ _ (.cond _ _ _) _ _ _ _; first | refine cB (fun hc => ?_) (fun hc => ?_) | refine cU ?_ ?_)))
  exact DVR
set_option maxRecDepth 20000 in
set_option maxHeartbeats 4000000 in
theorem rroot_f (N : Nat) (m : Nat) (hN : N < 85070591730234615865843651857942052864) : DCalls Tryz.prog 200 [uN N] (hget []) m (lu (rt N)) (hget []) := by
  have hrt := rt_lt hN
  refine pureC (n := 24) (rs := [.tmp 2]) (ts := [139]) Tryz.func200 rfl (by decide) [] (by (exact SD)) ?_
  (repeat' (first | refine swp_seq [0, 1, 2, 3, 4, 5, 7, 21] ?_ | refine st2 ?_ | (show Fct ..; refine fctI (fun hf => ?_)) | (show SWp _ _ _ (.cond _ _ _) _ _ _ _; first | refine cB (fun hc => ?_) (fun hc => ?_) | refine cU ?_ ?_)))
  refine loop_swp [1, 3, 4] [0] 1 (fun q A H => ∃ k r : Nat, k ≤ 63 ∧ q = k ∧ RtI N k r ∧ A = [(1, .ptr 0 0), (3, lu r), (4, li ((63 - k : Nat) : Int))] ∧ H = [(0, .blk 189 [lu (hiN N), lu (loN N)])]) (by omega) ?_ ?_ ?_
  · rintro q A H ⟨k, r, g0, g1, g2, rfl, rfl⟩
    exact ⟨by (exact SD), by (exact SD)⟩
  · refine ⟨_, 63, 0, by omega, rfl, RtI.init N, ?_, ?_⟩
    · exact DVR
    · exact DVR
  rintro q A H ⟨k, r, g0, g1, g2, rfl, rfl⟩
  cases k with
  | zero =>
    have er := g2.fin
    subst er
    have hz : ¬ ((63 : Int) < 63) := by omega
    (have := Nonempty.intro hz)
    (repeat' (first | refine swp_seq [0, 1, 2, 3, 4, 5, 7, 21] ?_ | refine st2 ?_ | (show Fct ..; refine fctI (fun hf => ?_)) | (show SWp _ _ _ (.cond _ _ _) _ _ _ _; first | refine cB (fun hc => ?_) (fun hc => ?_) | refine cU ?_ ?_)))
    exact DVR
  | succ k =>
    obtain ⟨s, hs, hs1, hk1, ho, n1, n2⟩ := g2.step
    have cm := fun m => rmul_f s s (hiN (s * s)) (loN (s * s)) m (by omega) (by omega) (hl_eq _) (loN_lt _)
    have cl := fun m => less_f N (s * s) m
    obtain ⟨i, hi⟩ : ∃ i, 63 - (k + 1) = i := ⟨_, rfl⟩
    rw [hi]
    have hik : i < 63 := by omega
    have hi3 : (i : Int) < 63 := by omega
    (have := Nonempty.intro hi3)
    have e62 : IntKind.u64.wrap (62 - (i : Int)) = (k : Int) := by rw [u64w]; omega
    have esh : IntKind.u64.wrap ((r : Int) + IntKind.u64.wrap (1 * 2 ^ min k IntKind.u64.bits)) = (s : Int) := by
      have h1 : IntKind.u64.wrap (((1 : Nat) : Int) * 2 ^ min k IntKind.u64.bits) = ((1 * 2 ^ k : Nat) : Int) := shl64 1 k (by omega) (by rw [Nat.one_mul]; omega)
      have h2 : IntKind.u64.wrap (1 * 2 ^ min k IntKind.u64.bits) = ((2 ^ k : Nat) : Int) := by rw [Nat.one_mul] at h1; exact h1
      rw [h2, u64w]; omega
    clear hs ho g2
    obtain ⟨M, hM⟩ : ∃ M, s * s = M := ⟨_, rfl⟩
    rw [hM] at cm cl n1 n2
    clear hM
    (repeat' (first | (show SWp _ _ _ (.seq (.region 6 _ _) _) _ _ _ _; refine (stop_in ?_)) | refine swp_seq [0, 1, 2, 3, 4, 5, 7, 21] ?_ | (show SWp _ _ _ (.region _ _ true) _ _ _ _; refine xG mixed [] ?_) | refine st2 ?_ | (show CallQ ..; first | refine cQ (fun hcc => (by fail)) ?_ | (refine lP ?_; refine lQ (fun hcc m => (by fail)) ?_)) | (show XCallQ ..; first | refine xQ (fun hcc => (by fail)) ?_ | (refine xlP ?_; refine xlQ (fun hcc m => (by fail)) ?_)) | (show Fct ..; refine fctI (fun hf => ?_)) | (show SWp _ _ _ (.cond _ _ _) _ _ _ _; first | refine cB (fun hc => ?_) (fun hc => ?_) | refine cU ?_ ?_)))
    refine stop_out ?_
    rw [e62, Int.toNat_natCast, esh]
    have hni : ((63 - k : Nat) : Int) = (i : Int) + 1 := by omega
    by_cases hle : M ≤ N
    · rw [decide_eq_false (by omega)] at cl
      (repeat' (first | refine swp_seq [0, 1, 2, 3, 4, 5, 7, 21] ?_ | refine st2 ?_ | (show CallQ ..; first | refine cQ (fun hcc => (by first | exact cm _ | exact cl _)) ?_ | (refine lP ?_; refine lQ (fun hcc m => (by first | exact cm _ | exact cl _)) ?_)) | (show XCallQ ..; first | refine xQ (fun hcc => (by first | exact cm _ | exact cl _)) ?_ | (refine xlP ?_; refine xlQ (fun hcc m => (by first | exact cm _ | exact cl _)) ?_)) | (show Fct ..; refine fctI (fun hf => ?_)) | (show SWp _ _ _ (.cond _ _ _) _ _ _ _; first | refine cB (fun hc => ?_) (fun hc => ?_) | refine cU ?_ ?_)))
      (refine lN [0] ?_)
      exact ⟨_, by omega, k, s, by omega, rfl, n1 hle, by rw [hni]; rfl, rfl⟩
    · rw [decide_eq_true (by omega)] at cl
      (repeat' (first | refine swp_seq [0, 1, 2, 3, 4, 5, 7, 21] ?_ | refine st2 ?_ | (show CallQ ..; first | refine cQ (fun hcc => (by first | exact cm _ | exact cl _)) ?_ | (refine lP ?_; refine lQ (fun hcc m => (by first | exact cm _ | exact cl _)) ?_)) | (show XCallQ ..; first | refine xQ (fun hcc => (by first | exact cm _ | exact cl _)) ?_ | (refine xlP ?_; refine xlQ (fun hcc m => (by first | exact cm _ | exact cl _)) ?_)) | (show Fct ..; refine fctI (fun hf => ?_)) | (show SWp _ _ _ (.cond _ _ _) _ _ _ _; first | refine cB (fun hc => ?_) (fun hc => ?_) | refine cU ?_ ?_)))
      (refine lN [0] ?_)
      exact ⟨_, by omega, k, r, by omega, rfl, n2 hle, by rw [hni]; rfl, rfl⟩
def capaN (s : Sect) (y fall len : Nat) : Nat := rt ((floorT s.conv y).toNat * (floorT s.conv y).toNat * fall / len)
def bigB (q : Nat) : Bool := decide (1099511627776 < q)
def limI (q : Nat) : Int := if bigB q then 1099511627776 else q
theorem fitT_in {t : List Knot} {h most : Int} (k : fitT t h most = true) : tabB t = true ∧ (t.getD 0 default).x = 0 ∧ (t.getD 0 default).y = 0 ∧ (t.getD (t.length - 1) default).x = h ∧ (t.getD (t.length - 1) default).y ≤ most := by
  unfold fitT at k; simp only [Bool.and_eq_true, decide_eq_true_eq] at k
  exact ⟨k.1.1.1.1, k.1.1.1.2, k.1.1.2, k.1.2, k.2⟩
structure SecIn (s : Sect) : Prop where
  h1 : 1 ≤ s.height
  h2 : s.height ≤ 32768
  conv : fitT s.conv s.height 1099511627776 = true
theorem secB_in {s : Sect} (h : secB s = true) : SecIn s := by
  unfold secB at h; simp only [Bool.and_eq_true, decide_eq_true_eq] at h
  exact ⟨h.1.1.1.1.1.2, h.1.1.1.1.2, h.2⟩
theorem conv_in {s : Sect} (h : secB s = true) (y : Int) : 0 ≤ floorT s.conv y ∧ floorT s.conv y ≤ 1099511627776 := by
  have k := fitT_in (secB_in h).conv
  have := floorT_in (x := y) k.1
  omega
theorem cap_fits {k fall : Nat} (h1 : k ≤ 1099511627776) (h2 : fall ≤ 4194304) : k * k ≤ 1208925819614629174706176 ∧ k * k * fall ≤ 5070602400912917605986812821504 := by
  have a := Nat.mul_le_mul h1 h1
  exact ⟨a, Nat.mul_le_mul a h2⟩
theorem slope_f (a b : Int) (m : Nat) (h : (0 ≤ a ∧ a ≤ 4194304) ∧ 1 ≤ b ∧ b ≤ 16777216) : DCalls Tryz.prog 185 [li a, li b] (hget []) m (lb true) (hget []) := by
  obtain ⟨⟨h1, h2⟩, h3, h4⟩ := h
  (have := Nonempty.intro h1)
  (have := Nonempty.intro h2)
  (have := Nonempty.intro h3)
  (have := Nonempty.intro h4)
  refine pureC (n := 19) (rs := [.tmp 4]) (ts := [4]) Tryz.func185 rfl (by decide) [] (by (exact SD)) ?_
  (repeat' (first | refine swp_seq [0, 1, 4] ?_ | refine st2 ?_ | (show Fct ..; refine fctI (fun hf => ?_)) | (show SWp _ _ _ (.cond _ _ _) _ _ _ _; first | refine cB (fun hc => ?_) (fun hc => ?_) | refine cU ?_ ?_)))
  exact DVR
theorem rSlope_f (a b : Int) (m : Nat) (h : (0 ≤ a ∧ a ≤ 4194304) ∧ 1 ≤ b ∧ b ≤ 16777216) : DCalls Tryz.prog 179 [li a, li b] (hget []) m (lb true) (hget []) := by
  obtain ⟨⟨h1, h2⟩, h3, h4⟩ := h
  (have := Nonempty.intro h1)
  (have := Nonempty.intro h2)
  (have := Nonempty.intro h3)
  (have := Nonempty.intro h4)
  refine pureC (n := 19) (rs := [.tmp 4]) (ts := [4]) Tryz.func179 rfl (by decide) [] (by (exact SD)) ?_
  (repeat' (first | refine swp_seq [0, 1, 4] ?_ | refine st2 ?_ | (show Fct ..; refine fctI (fun hf => ?_)) | (show SWp _ _ _ (.cond _ _ _) _ _ _ _; first | refine cB (fun hc => ?_) (fun hc => ?_) | refine cU ?_ ?_)))
  exact DVR
set_option maxHeartbeats 1000000 in
theorem carried_f (s : Sect) (y fall len : Nat) (m : Nat) (h : secB s = true) (hy : y ≤ 32768) (hf : fall ≤ 4194304) (hl : 1 ≤ len ∧ len ≤ 16777216) : DCalls Tryz.prog 186 [sectD s, li y, li fall, li len] (hget []) m (.tup [li (capaN s y fall len), li 0]) (hget []) := by
  have hc := conv_in h y
  have cf := fun m => floor_f s.conv y m (fitT_in (secB_in h).conv).1 (by unfold i64ok; omega)
  unfold capaN
  obtain ⟨k, hk⟩ : ∃ k : Nat, floorT s.conv y = (k : Int) := ⟨(floorT s.conv y).toNat, by omega⟩
  rw [hk] at cf hc ⊢
  rw [Int.toNat_natCast]
  have hk1 : k ≤ 1099511627776 := by omega
  have hb := cap_fits hk1 hf
  have c1 := fun m => cproduct_f k k m (by omega) (by omega)
  have c2 := fun m => ctimes_f (k * k) fall m (by omega) (by omega)
  have c3 := fun m => cover_f (k * k * fall) len m (by omega) (by omega) (by omega)
  have hle := Nat.div_le_self (k * k * fall) len
  have c4 := fun m => croot_f (k * k * fall / len) m (by omega)
  clear hle hb
  generalize k * k * fall / len = z at *
  generalize k * k * fall = z2 at *
  generalize k * k = z3 at *
  refine pureC (n := 30) (rs := [.tmp 8, .tmp 9]) (ts := [3, 30]) Tryz.func186 rfl (by decide) [] (by (exact SD)) ?_
  (repeat' (first | refine swp_seq [0, 1, 2, 3, 4, 8, 9, 10, 11, 20] ?_ | refine st2 ?_ | (show CallQ ..; first | refine cQ (fun hcc => (by first | exact cf _ | exact c1 _ | exact c2 _ | exact c3 _ | exact c4 _)) ?_ | (refine lP ?_; refine lQ (fun hcc m => (by first | exact cf _ | exact c1 _ | exact c2 _ | exact c3 _ | exact c4 _)) ?_)) | (show Fct ..; refine fctI (fun hf => ?_)) | (show SWp _ _ _ (.cond _ _ _) _ _ _ _; first | refine cB (fun hc => ?_) (fun hc => ?_) | refine cU ?_ ?_)))
  exact DVR
theorem rt_small {N : Nat} (h : N < 85070591730234615865843651857942052864) : IntKind.i64.wrap ((rt N : Nat) : Int) = (rt N : Int) := by
  have := rt_lt h
  exact i64w (by omega)
theorem root28_f (a b n : Nat) (m : Nat) (ha : a < 9223372036854775808) (hb : b < 9223372036854775808) (hn : 0 < n ∧ n < 9223372036854775808 / 2) (h : a * b < 85070591730234615865843651857942052864) : DCalls Tryz.prog 196 [li a, li b, li n] (hget []) m (li (rt (a * b / n))) (hget []) := by
  have c1 := fun m => rtimes_f a b (hiN (a * b)) (loN (a * b)) m ha hb (hl_eq _) (loN_lt _)
  have c2 := fun m => ofInt_f n m (by omega)
  have c3 := fun m => downN_f (a * b) n m (by omega) (by omega)
  have hle := Nat.div_le_self (a * b) n
  have hz : a * b / n < 85070591730234615865843651857942052864 := by omega
  have c4 := fun m => rroot_f (a * b / n) m hz
  have hr := rt_lt hz
  clear hle h hz
  generalize a * b / n = z at *
  generalize a * b = z2 at *
  generalize rt z = r at *
  (have := Nonempty.intro hr)
  refine pureC (n := 18) (rs := [.tmp 6]) (ts := [3]) Tryz.func196 rfl (by decide) [] (by (exact SD)) ?_
  (repeat' (first | refine swp_seq [0, 1, 2, 6, 7] ?_ | refine st2 ?_ | (show CallQ ..; first | refine cQ (fun hcc => (by first | exact c1 _ | exact c2 _ | exact c3 _ | exact c4 _)) ?_ | (refine lP ?_; refine lQ (fun hcc m => (by first | exact c1 _ | exact c2 _ | exact c3 _ | exact c4 _)) ?_)) | (show Fct ..; refine fctI (fun hf => ?_)) | (show SWp _ _ _ (.cond _ _ _) _ _ _ _; first | refine cB (fun hc => ?_) (fun hc => ?_) | refine cU ?_ ?_)))
  exact DVR
set_option maxHeartbeats 1000000 in
theorem rCarried_f (s : Sect) (y fall len : Nat) (m : Nat) (h : secB s = true) (hy : y ≤ 32768) (hf : fall ≤ 4194304) (hl : 1 ≤ len ∧ len ≤ 16777216) : DCalls Tryz.prog 180 [sectD s, li y, li fall, li len] (hget []) m (li (capaN s y fall len)) (hget []) := by
  have hc := conv_in h y
  have cf := fun m => rfloor_f s.conv y m (fitT_in (secB_in h).conv).1 (by unfold i64ok; omega)
  unfold capaN
  obtain ⟨k, hk⟩ : ∃ k : Nat, floorT s.conv y = (k : Int) := ⟨(floorT s.conv y).toNat, by omega⟩
  rw [hk] at cf hc ⊢
  rw [Int.toNat_natCast]
  have hk1 : k ≤ 1099511627776 := by omega
  have hb := cap_fits hk1 hf
  have hkf : k * fall ≤ 4611686018427387904 := Nat.mul_le_mul hk1 hf
  have hm : (k : Int) * (fall : Int) = ((k * fall : Nat) : Int) := (Int.natCast_mul _ _).symm
  have c1 := fun m => root28_f k (k * fall) len m (by omega) (by omega) (by omega) (by rw [← Nat.mul_assoc]; omega)
  rw [← Nat.mul_assoc] at c1
  generalize rt (k * k * fall / len) = z at *
  have hkf2 : 0 ≤ (k : Int) * (fall : Int) ∧ (k : Int) * (fall : Int) ≤ 4611686018427387904 := by rw [hm]; omega
  have c2 : ∀ m, DCalls Tryz.prog 196 [li k, li ((k : Int) * (fall : Int)), li len] (hget []) m (li z) (hget []) := by rw [hm]; exact c1
  clear hm c1 hb hkf
  refine pureC (n := 20) (rs := [.tmp 8]) (ts := [3]) Tryz.func180 rfl (by decide) [] (by (exact SD)) ?_
  (repeat' (first | (show SWp _ _ _ (.seq (.region 2 _ _) _) _ _ _ _; refine (stop_in ?_)) | refine swp_seq [0, 1, 2, 3, 4, 8, 9] ?_ | refine st2 ?_ | (show CallQ ..; first | refine cQ (fun hcc => (by first | exact cf _)) ?_ | (refine lP ?_; refine lQ (fun hcc m => (by first | exact cf _)) ?_)) | (show Fct ..; refine fctI (fun hf => ?_)) | (show SWp _ _ _ (.cond _ _ _) _ _ _ _; first | refine cB (fun hc => ?_) (fun hc => ?_) | refine cU ?_ ?_)))
  refine stop_out ?_
  (repeat' (first | refine swp_seq [0, 1, 2, 3, 4, 8, 9] ?_ | refine st2 ?_ | (show CallQ ..; first | refine cQ (fun hcc => (by first | exact c2 _)) ?_ | (refine lP ?_; refine lQ (fun hcc m => (by first | exact c2 _)) ?_)) | (show Fct ..; refine fctI (fun hf => ?_)) | (show SWp _ _ _ (.cond _ _ _) _ _ _ _; first | refine cB (fun hc => ?_) (fun hc => ?_) | refine cU ?_ ?_)))
  exact DVR
def capI (q : Nat) : Int := if bigB q then 0 else q
def capE (q : Nat) : Int := if bigB q then 5 else 0
set_option maxHeartbeats 1000000 in
theorem capacity28_f (s : Sect) (y fall len : Nat) (m : Nat) (hs : sectOk s) (h : secB s = true) (hy : (y : Int) ≤ s.height) (hf : fall ≤ 4194304) (hl : 1 ≤ len ∧ len ≤ 16777216) : DCalls Tryz.prog 159 [sectD s, li y, li fall, li len] (hget []) m (.tup [li (capI (capaN s y fall len)), li (capE (capaN s y fall len))]) (hget []) := by
  have hin := secB_in h
  have hh := hin.h2
  have cv := fun m => sect_f s m hs
  rw [h] at cv
  have c1 := fun m => slope_f fall len m (by omega)
  have c2 := fun m => carried_f s y fall len m h (by omega) hf hl
  generalize capaN s y fall len = q at *
  have y0 : ¬ ((y : Int) < 0) := by omega
  have y1 : ¬ (s.height < (y : Int)) := by omega
  (have := Nonempty.intro y0)
  (have := Nonempty.intro y1)
  clear hin hl hf h
  unfold capI capE bigB
  by_cases hb : (1099511627776 : Int) < (q : Int)
  · (have := Nonempty.intro hb)
    rw [decide_eq_true (by omega)]
    refine pureC (n := 47) (rs := [.tmp 8, .tmp 9]) (ts := [3, 30]) Tryz.func159 rfl (by decide) [] (by (exact SD)) ?_
    (repeat' (first | refine swp_seq [0, 1, 2, 3, 4, 8, 9, 10, 11, 12, 16, 39, 43] ?_ | refine st2 ?_ | (show CallQ ..; first | refine cQ (fun hcc => (by first | exact cv _ | exact c1 _ | exact c2 _)) ?_ | (refine lP ?_; refine lQ (fun hcc m => (by first | exact cv _ | exact c1 _ | exact c2 _)) ?_)) | (show Fct ..; refine fctI (fun hf => ?_)) | (show SWp _ _ _ (.cond _ _ _) _ _ _ _; first | refine cB (fun hc => ?_) (fun hc => ?_) | refine cU ?_ ?_)))
    exact DVR
  · (have := Nonempty.intro hb)
    rw [decide_eq_false (by omega)]
    refine pureC (n := 47) (rs := [.tmp 8, .tmp 9]) (ts := [3, 30]) Tryz.func159 rfl (by decide) [] (by (exact SD)) ?_
    (repeat' (first | refine swp_seq [0, 1, 2, 3, 4, 8, 9, 10, 11, 12, 16, 39, 43] ?_ | refine st2 ?_ | (show CallQ ..; first | refine cQ (fun hcc => (by first | exact cv _ | exact c1 _ | exact c2 _)) ?_ | (refine lP ?_; refine lQ (fun hcc m => (by first | exact cv _ | exact c1 _ | exact c2 _)) ?_)) | (show Fct ..; refine fctI (fun hf => ?_)) | (show SWp _ _ _ (.cond _ _ _) _ _ _ _; first | refine cB (fun hc => ?_) (fun hc => ?_) | refine cU ?_ ?_)))
    exact DVR
set_option maxHeartbeats 1000000 in
theorem rCapacity28_f (s : Sect) (y fall len : Nat) (m : Nat) (hs : sectOk s) (h : secB s = true) (hy : (y : Int) ≤ s.height) (hf : fall ≤ 4194304) (hl : 1 ≤ len ∧ len ≤ 16777216) : DCalls Tryz.prog 144 [sectD s, li y, li fall, li len] (hget []) m (.tup [li (capI (capaN s y fall len)), li (capE (capaN s y fall len))]) (hget []) := by
  have hin := secB_in h
  have hh := hin.h2
  have cv := fun m => rSect_f s m hs
  rw [h] at cv
  have c1 := fun m => rSlope_f fall len m (by omega)
  have c2 := fun m => rCarried_f s y fall len m h (by omega) hf hl
  generalize capaN s y fall len = q at *
  have y0 : ¬ ((y : Int) < 0) := by omega
  have y1 : ¬ (s.height < (y : Int)) := by omega
  (have := Nonempty.intro y0)
  (have := Nonempty.intro y1)
  clear hin hl hf h
  unfold capI capE bigB
  by_cases hb : (1099511627776 : Int) < (q : Int)
  · (have := Nonempty.intro hb)
    rw [decide_eq_true (by omega)]
    refine pureC (n := 36) (rs := [.tmp 8, .tmp 9]) (ts := [3, 3]) Tryz.func144 rfl (by decide) [] (by (exact SD)) ?_
    (repeat' (first | refine swp_seq [0, 1, 2, 3, 4, 8, 9, 10, 13, 27, 34] ?_ | refine st2 ?_ | (show CallQ ..; first | refine cQ (fun hcc => (by first | exact cv _ | exact c1 _ | exact c2 _)) ?_ | (refine lP ?_; refine lQ (fun hcc m => (by first | exact cv _ | exact c1 _ | exact c2 _)) ?_)) | (show Fct ..; refine fctI (fun hf => ?_)) | (show SWp _ _ _ (.cond _ _ _) _ _ _ _; first | refine cB (fun hc => ?_) (fun hc => ?_) | refine cU ?_ ?_)))
    exact DVR
  · (have := Nonempty.intro hb)
    rw [decide_eq_false (by omega)]
    refine pureC (n := 36) (rs := [.tmp 8, .tmp 9]) (ts := [3, 3]) Tryz.func144 rfl (by decide) [] (by (exact SD)) ?_
    (repeat' (first | refine swp_seq [0, 1, 2, 3, 4, 8, 9, 10, 13, 27, 34] ?_ | refine st2 ?_ | (show CallQ ..; first | refine cQ (fun hcc => (by first | exact cv _ | exact c1 _ | exact c2 _)) ?_ | (refine lP ?_; refine lQ (fun hcc m => (by first | exact cv _ | exact c1 _ | exact c2 _)) ?_)) | (show Fct ..; refine fctI (fun hf => ?_)) | (show SWp _ _ _ (.cond _ _ _) _ _ _ _; first | refine cB (fun hc => ?_) (fun hc => ?_) | refine cU ?_ ?_)))
    exact DVR
theorem limited_f (q : Nat) (m : Nat) : DCalls Tryz.prog 119 [li (capI q), li (capE q)] (hget []) m (.tup [li (limI q), li 0]) (hget []) := by
  unfold capI capE limI
  cases bigB q
  · refine pureC (n := 10) (rs := [.tmp 4, .tmp 5]) (ts := [3, 30]) Tryz.func119 rfl (by decide) [] (by (exact SD)) ?_
    (repeat' (first | refine swp_seq [0, 1, 4, 5, 7] ?_ | refine st2 ?_ | (show Fct ..; refine fctI (fun hf => ?_)) | (show SWp _ _ _ (.cond _ _ _) _ _ _ _; first | refine cB (fun hc => ?_) (fun hc => ?_) | refine cU ?_ ?_)))
    exact DVR
  · refine pureC (n := 10) (rs := [.tmp 4, .tmp 5]) (ts := [3, 30]) Tryz.func119 rfl (by decide) [] (by (exact SD)) ?_
    (repeat' (first | refine swp_seq [0, 1, 4, 5, 7] ?_ | refine st2 ?_ | (show Fct ..; refine fctI (fun hf => ?_)) | (show SWp _ _ _ (.cond _ _ _) _ _ _ _; first | refine cB (fun hc => ?_) (fun hc => ?_) | refine cU ?_ ?_)))
    exact DVR
theorem rflow34_f (q : Nat) (m : Nat) : DCalls Tryz.prog 99 [li (capI q), li (capE q)] (hget []) m (li (limI q)) (hget []) := by
  unfold capI capE limI
  cases bigB q
  · refine pureC (n := 8) (rs := [.tmp 4]) (ts := [3]) Tryz.func99 rfl (by decide) [] (by (exact SD)) ?_
    (repeat' (first | refine swp_seq [0, 1, 4, 6] ?_ | refine st2 ?_ | (show Fct ..; refine fctI (fun hf => ?_)) | (show SWp _ _ _ (.cond _ _ _) _ _ _ _; first | refine cB (fun hc => ?_) (fun hc => ?_) | refine cU ?_ ?_)))
    exact DVR
  · refine pureC (n := 8) (rs := [.tmp 4]) (ts := [3]) Tryz.func99 rfl (by decide) [] (by (exact SD)) ?_
    (repeat' (first | refine swp_seq [0, 1, 4, 6] ?_ | refine st2 ?_ | (show Fct ..; refine fctI (fun hf => ?_)) | (show SWp _ _ _ (.cond _ _ _) _ _ _ _; first | refine cB (fun hc => ?_) (fun hc => ?_) | refine cU ?_ ?_)))
    exact DVR

end Go.Proofs.YtnfbaeeohepajaaGreat
