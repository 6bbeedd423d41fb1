/-
  Contracts of functions of the program, over the engine.
  No condition.
-/
import Derived.Test.YtnfbaeeohepajaaGreatCL1L2
import Derived.Test.YtnfbaeeohepajaaGreatCK4
namespace Go.Proofs.YtnfbaeeohepajaaGreat
open Go.Eng
set_option linter.all false
attribute [local irreducible] DCallsG SWp Fct CallQ XCallQ LCallQ XLCallQ drun xrun

theorem cproduct_f (a b : Nat) (m : Nat) (ha : a < 9223372036854775808) (hb : b < 9223372036854775808) : DCalls Tryz.prog 203 [li a, li b] (hget []) m (wiD (a * b)) (hget []) := by
  have ha2 : a < 18446744073709551616 := by omega
  have hb2 : b < 18446744073709551616 := by omega
  have cm := fun m => mul64_f a b m ha2 hb2
  rw [show a * b / 18446744073709551616 = hiN (a * b) from (hiN_of (Nat.div_add_mod' _ _).symm (Nat.mod_lt _ (by decide))).symm, show a * b % 18446744073709551616 = loN (a * b) from (loN_of (Nat.div_add_mod' _ _).symm (Nat.mod_lt _ (by decide))).symm] at cm
  generalize a * b = p at *
  (have := Nonempty.intro ha2)
  (have := Nonempty.intro hb2)
  refine pureC (n := 18) (rs := [.cell 4 197]) (ts := [197]) Tryz.func203 rfl (by decide) [] (by (exact SD)) ?_
  (repeat' (first | refine swp_seq [0, 1, 4, 5, 6] ?_ | refine st2 ?_ | (show CallQ ..; first | refine cQ (fun hcc => (by first | exact cm _)) ?_ | (refine lP ?_; refine lQ (fun hcc m => (by first | exact cm _)) ?_)) | (show Fct ..; refine fctI (fun hf => ?_)) | (show SWp _ _ _ (.cond _ _ _) _ _ _ _; first | refine cB (fun hc => ?_) (fun hc => ?_) | refine cU ?_ ?_)))
  exact DVR
theorem ctimes_f (N n : Nat) (m : Nat) (hn : n < 9223372036854775808) (h : N * n < 340282366920938463463374607431768211456) : DCalls Tryz.prog 204 [wiD N, li n] (hget []) m (wiD (N * n)) (hget []) := by
  have hn2 : n < 18446744073709551616 := by omega
  have hs := times_s h
  have cm := fun m => mul64_f (loN N) n m (loN_lt N) hn2
  rw [show loN N * n / 18446744073709551616 = hiN (loN N * n) from (hiN_of (Nat.div_add_mod' _ _).symm (Nat.mod_lt _ (by decide))).symm, show loN N * n % 18446744073709551616 = loN (loN N * n) from (loN_of (Nat.div_add_mod' _ _).symm (Nat.mod_lt _ (by decide))).symm] at cm
  rw [hs.2] at cm
  generalize N * n = p at *
  generalize loN N * n = q at *
  (have := Nonempty.intro hn2)
  refine pureC (n := 24) (rs := [.cell 4 197]) (ts := [197]) Tryz.func204 rfl (by decide) [] (by (exact SD)) ?_
  (repeat' (first | refine swp_seq [0, 1, 2, 4, 5, 6] ?_ | refine st2 ?_ | (show CallQ ..; first | refine cQ (fun hcc => (by first | exact cm _)) ?_ | (refine lP ?_; refine lQ (fun hcc m => (by first | exact cm _)) ?_)) | (show Fct ..; refine fctI (fun hf => ?_)) | (show SWp _ _ _ (.cond _ _ _) _ _ _ _; first | refine cB (fun hc => ?_) (fun hc => ?_) | refine cU ?_ ?_)))
  (refine DVQ ?_)
  rw [hs.1]; rfl
theorem cover_f (N n : Nat) (m : Nat) (hN : N < 340282366920938463463374607431768211456) (h0 : 0 < n) (hn : n < 9223372036854775808) : DCalls Tryz.prog 205 [wiD N, li n] (hget []) m (wiD (N / n)) (hget []) := by
  have hn2 : n < 18446744073709551616 := by omega
  have hs := over_s (N := N) h0 (by omega)
  have cd := fun m => div64g_f (hiN N % n) (loN N) n m (Nat.mod_lt _ h0) hn2 (loN_lt N)
  rw [hs.2] at cd
  have hh := hiN_lt hN
  have e1 : IntKind.u64.wrap ((hiN N : Int).tdiv (n : Int)) = (hiN (N / n) : Int) := by
    rw [u64w, Int.tdiv_eq_ediv_of_nonneg (by omega), ← Int.natCast_ediv, ← hs.1]
    have := Nat.div_le_self (hiN N) n
    generalize hiN N / n = q at *
    omega
  have e2 : ((hiN N : Int).tmod (n : Int)) = ((hiN N % n : Nat) : Int) := by
    rw [Int.tmod_eq_emod_of_nonneg (by omega)]; rfl
  generalize (hiN N % n * 18446744073709551616 + loN N) % n = z at *
  generalize hiN N % n = y at *
  have n0 : ¬ ((n : Int) = 0) := by omega
  (have := Nonempty.intro n0)
  (have := Nonempty.intro hn2)
  clear hs
  refine pureC (n := 31) (rs := [.cell 4 197]) (ts := [197]) Tryz.func205 rfl (by decide) [] (by (exact SD)) ?_
  (repeat' (first | (show SWp _ _ _ (.seq (.region 2 _ _) _) _ _ _ _; refine (stop_in ?_)) | refine swp_seq [0, 1, 2, 4, 5, 6, 7] ?_ | (show SWp _ _ _ (.region _ _ true) _ _ _ _; refine xG mixed [0] ?_) | refine st2 ?_ | (show CallQ ..; first | refine cQ (fun hcc => (by fail)) ?_ | (refine lP ?_; refine lQ (fun hcc m => (by fail)) ?_)) | (show XCallQ ..; first | refine xQ (fun hcc => (by fail)) ?_ | (refine xlP ?_; refine xlQ (fun hcc m => (by fail)) ?_)) | (show Fct ..; refine fctI (fun hf => ?_)) | (show SWp _ _ _ (.cond _ _ _) _ _ _ _; first | refine cB (fun hc => ?_) (fun hc => ?_) | refine cU ?_ ?_)))
  refine stop_out ?_
  rw [e1, e2]
  generalize N / n = Q at *
  (repeat' (first | refine swp_seq [0, 1, 2, 4, 5, 6, 7] ?_ | (show SWp _ _ _ (.region _ _ true) _ _ _ _; refine xG mixed [0] ?_) | refine st2 ?_ | (show CallQ ..; first | refine cQ (fun hcc => (by first | exact cd _)) ?_ | (refine lP ?_; refine lQ (fun hcc m => (by first | exact cd _)) ?_)) | (show XCallQ ..; first | refine xQ (fun hcc => (by first | exact cd _)) ?_ | (refine xlP ?_; refine xlQ (fun hcc m => (by first | exact cd _)) ?_)) | (show Fct ..; refine fctI (fun hf => ?_)) | (show SWp _ _ _ (.cond _ _ _) _ _ _ _; first | refine cB (fun hc => ?_) (fun hc => ?_) | refine cU ?_ ?_)))
  exact DVR
set_option maxRecDepth 20000 in
set_option maxHeartbeats 4000000 in
theorem croot_f (N : Nat) (m : Nat) (hN : N < 85070591730234615865843651857942052864) : DCalls Tryz.prog 206 [wiD N] (hget []) m (li (rt N)) (hget []) := by
  have hrt := rt_lt hN
  refine pureC (n := 42) (rs := [.tmp 2]) (ts := [3]) Tryz.func206 rfl (by decide) [] (by (exact SD)) ?_
  (repeat' (first | refine swp_seq [0, 1, 2, 3, 4, 5, 6, 8, 36] ?_ | refine st2 ?_ | (show Fct ..; refine fctI (fun hf => ?_)) | (show SWp _ _ _ (.cond _ _ _) _ _ _ _; first | refine cB (fun hc => ?_) (fun hc => ?_) | refine cU ?_ ?_)))
  refine loop_swp [1, 3, 4] [0] 1 (fun q A H => ∃ k r : Nat, q = k ∧ RtI N k r ∧ A = [(1, .ptr 0 0), (3, lu r), (4, lu (half k))] ∧ H = [(0, .blk 197 [lu (hiN N), lu (loN N)])]) (by omega) ?_ ?_ ?_
  · rintro q A H ⟨k, r, g1, g2, rfl, rfl⟩
    exact ⟨by (exact SD), by (exact SD)⟩
  · refine ⟨_, 63, 0, rfl, RtI.init N, ?_, ?_⟩
    · rw [half_63]
      exact DVR
    · exact DVR
  rintro q A H ⟨k, r, g1, g2, rfl, rfl⟩
  cases k with
  | zero =>
    rw [half_0]
    have hz : ¬ ((0 : Int) < 0) := by omega
    have er := g2.fin
    subst er
    (repeat' (first | refine swp_seq [0, 1, 2, 3, 4, 5, 6, 8, 36] ?_ | refine st2 ?_ | (show Fct ..; refine fctI (fun hf => ?_)) | (show SWp _ _ _ (.cond _ _ _) _ _ _ _; first | refine cB (fun hc => ?_) (fun hc => ?_) | refine cU ?_ ?_)))
    exact DVR
  | succ k =>
    obtain ⟨s, hs, hs1, hk1, ho, n1, n2⟩ := g2.step
    have : OrOk r (2 ^ k) s := ⟨ho⟩
    have hp : ((0 : Nat) : Int) < ((2 ^ k : Nat) : Int) := by have := Nat.two_pow_pos k; omega
    have hp2 : (0 : Int) < ((2 ^ k : Nat) : Int) := hp
    have hsh := half_sh k
    rw [half_s]
    have cm := fun m => mul64_f s s m (by omega) (by omega)
    rw [show s * s / 18446744073709551616 = hiN (s * s) from (hiN_of (Nat.div_add_mod' _ _).symm (Nat.mod_lt _ (by decide))).symm, show s * s % 18446744073709551616 = loN (s * s) from (loN_of (Nat.div_add_mod' _ _).symm (Nat.mod_lt _ (by decide))).symm] at cm
    have hle := le_parts (M := s * s) (N := N)
    clear hs ho g2
    generalize s * s = M at *
    generalize 2 ^ k = b at *
    (have := Nonempty.intro hp2)
    by_cases c1 : (hiN M : Int) < (hiN N : Int)
    · (have := Nonempty.intro c1)
      (repeat' (first | refine swp_seq [0, 1, 2, 3, 4, 5, 6, 8, 36] ?_ | refine st2 ?_ | (show CallQ ..; first | refine cQ (fun hcc => (by first | exact cm _)) ?_ | (refine lP ?_; refine lQ (fun hcc m => (by first | exact cm _)) ?_)) | (show Fct ..; refine fctI (fun hf => ?_)) | (show SWp _ _ _ (.cond _ _ _) _ _ _ _; first | refine cB (fun hc => ?_) (fun hc => ?_) | refine cU ?_ ?_)))
      (refine lN [0] ?_)
      rw [hsh]
      exact ⟨_, by omega, k, s, rfl, n1 (hle.2 (.inl (by omega))), rfl, rfl⟩
    · (have := Nonempty.intro c1)
      by_cases c2 : (hiN M : Int) = (hiN N : Int)
      · (have := Nonempty.intro c2)
        by_cases c3 : (loN M : Int) ≤ (loN N : Int)
        · (have := Nonempty.intro c3)
          (repeat' (first | refine swp_seq [0, 1, 2, 3, 4, 5, 6, 8, 36] ?_ | refine st2 ?_ | (show CallQ ..; first | refine cQ (fun hcc => (by first | exact cm _)) ?_ | (refine lP ?_; refine lQ (fun hcc m => (by first | exact cm _)) ?_)) | (show Fct ..; refine fctI (fun hf => ?_)) | (show SWp _ _ _ (.cond _ _ _) _ _ _ _; first | refine cB (fun hc => ?_) (fun hc => ?_) | refine cU ?_ ?_)))
          (refine lN [0] ?_)
          rw [hsh]
          exact ⟨_, by omega, k, s, rfl, n1 (hle.2 (.inr (by omega))), rfl, rfl⟩
        · (have := Nonempty.intro c3)
          (repeat' (first | refine swp_seq [0, 1, 2, 3, 4, 5, 6, 8, 36] ?_ | refine st2 ?_ | (show CallQ ..; first | refine cQ (fun hcc => (by first | exact cm _)) ?_ | (refine lP ?_; refine lQ (fun hcc m => (by first | exact cm _)) ?_)) | (show Fct ..; refine fctI (fun hf => ?_)) | (show SWp _ _ _ (.cond _ _ _) _ _ _ _; first | refine cB (fun hc => ?_) (fun hc => ?_) | refine cU ?_ ?_)))
          (refine lN [0] ?_)
          rw [hsh]
          exact ⟨_, by omega, k, r, rfl, n2 (fun q => by have := hle.1 q; omega), rfl, rfl⟩
      · (have := Nonempty.intro c2)
        (repeat' (first | refine swp_seq [0, 1, 2, 3, 4, 5, 6, 8, 36] ?_ | refine st2 ?_ | (show CallQ ..; first | refine cQ (fun hcc => (by first | exact cm _)) ?_ | (refine lP ?_; refine lQ (fun hcc m => (by first | exact cm _)) ?_)) | (show Fct ..; refine fctI (fun hf => ?_)) | (show SWp _ _ _ (.cond _ _ _) _ _ _ _; first | refine cB (fun hc => ?_) (fun hc => ?_) | refine cU ?_ ?_)))
        (refine lN [0] ?_)
        rw [hsh]
        exact ⟨_, by omega, k, r, rfl, n2 (fun q => by have := hle.1 q; omega), rfl, rfl⟩
theorem oproduct_f (a b : Nat) (m : Nat) (ha : a < 9223372036854775808) (hb : b < 9223372036854775808) : DCalls Tryz.prog 187 [li a, li b] (hget []) m (wiD (a * b)) (hget []) := by
  have ha2 : a < 18446744073709551616 := by omega
  have hb2 : b < 18446744073709551616 := by omega
  have cm := fun m => mul64_f a b m ha2 hb2
  rw [show a * b / 18446744073709551616 = hiN (a * b) from (hiN_of (Nat.div_add_mod' _ _).symm (Nat.mod_lt _ (by decide))).symm, show a * b % 18446744073709551616 = loN (a * b) from (loN_of (Nat.div_add_mod' _ _).symm (Nat.mod_lt _ (by decide))).symm] at cm
  generalize a * b = p at *
  (have := Nonempty.intro ha2)
  (have := Nonempty.intro hb2)
  refine pureC (n := 18) (rs := [.cell 4 179]) (ts := [179]) Tryz.func187 rfl (by decide) [] (by (exact SD)) ?_
  (repeat' (first | refine swp_seq [0, 1, 4, 5, 6] ?_ | refine st2 ?_ | (show CallQ ..; first | refine cQ (fun hcc => (by first | exact cm _)) ?_ | (refine lP ?_; refine lQ (fun hcc m => (by first | exact cm _)) ?_)) | (show Fct ..; refine fctI (fun hf => ?_)) | (show SWp _ _ _ (.cond _ _ _) _ _ _ _; first | refine cB (fun hc => ?_) (fun hc => ?_) | refine cU ?_ ?_)))
  exact DVR
theorem otimes_f (N n : Nat) (m : Nat) (hn : n < 9223372036854775808) (h : N * n < 340282366920938463463374607431768211456) : DCalls Tryz.prog 188 [wiD N, li n] (hget []) m (wiD (N * n)) (hget []) := by
  have hn2 : n < 18446744073709551616 := by omega
  have hs := times_s h
  have cm := fun m => mul64_f (loN N) n m (loN_lt N) hn2
  rw [show loN N * n / 18446744073709551616 = hiN (loN N * n) from (hiN_of (Nat.div_add_mod' _ _).symm (Nat.mod_lt _ (by decide))).symm, show loN N * n % 18446744073709551616 = loN (loN N * n) from (loN_of (Nat.div_add_mod' _ _).symm (Nat.mod_lt _ (by decide))).symm] at cm
  rw [hs.2] at cm
  generalize N * n = p at *
  generalize loN N * n = q at *
  (have := Nonempty.intro hn2)
  refine pureC (n := 24) (rs := [.cell 4 179]) (ts := [179]) Tryz.func188 rfl (by decide) [] (by (exact SD)) ?_
  (repeat' (first | refine swp_seq [0, 1, 2, 4, 5, 6] ?_ | refine st2 ?_ | (show CallQ ..; first | refine cQ (fun hcc => (by first | exact cm _)) ?_ | (refine lP ?_; refine lQ (fun hcc m => (by first | exact cm _)) ?_)) | (show Fct ..; refine fctI (fun hf => ?_)) | (show SWp _ _ _ (.cond _ _ _) _ _ _ _; first | refine cB (fun hc => ?_) (fun hc => ?_) | refine cU ?_ ?_)))
  (refine DVQ ?_)
  rw [hs.1]; rfl
theorem oover_f (N n : Nat) (m : Nat) (hN : N < 340282366920938463463374607431768211456) (h0 : 0 < n) (hn : n < 9223372036854775808) : DCalls Tryz.prog 189 [wiD N, li n] (hget []) m (wiD (N / n)) (hget []) := by
  have hn2 : n < 18446744073709551616 := by omega
  have hs := over_s (N := N) h0 (by omega)
  have cd := fun m => div64g_f (hiN N % n) (loN N) n m (Nat.mod_lt _ h0) hn2 (loN_lt N)
  rw [hs.2] at cd
  have hh := hiN_lt hN
  have e1 : IntKind.u64.wrap ((hiN N : Int).tdiv (n : Int)) = (hiN (N / n) : Int) := by
    rw [u64w, Int.tdiv_eq_ediv_of_nonneg (by omega), ← Int.natCast_ediv, ← hs.1]
    have := Nat.div_le_self (hiN N) n
    generalize hiN N / n = q at *
    omega
  have e2 : ((hiN N : Int).tmod (n : Int)) = ((hiN N % n : Nat) : Int) := by
    rw [Int.tmod_eq_emod_of_nonneg (by omega)]; rfl
  generalize (hiN N % n * 18446744073709551616 + loN N) % n = z at *
  generalize hiN N % n = y at *
  have n0 : ¬ ((n : Int) = 0) := by omega
  (have := Nonempty.intro n0)
  (have := Nonempty.intro hn2)
  clear hs
  refine pureC (n := 31) (rs := [.cell 4 179]) (ts := [179]) Tryz.func189 rfl (by decide) [] (by (exact SD)) ?_
  (repeat' (first | (show SWp _ _ _ (.seq (.region 2 _ _) _) _ _ _ _; refine (stop_in ?_)) | refine swp_seq [0, 1, 2, 4, 5, 6, 7] ?_ | (show SWp _ _ _ (.region _ _ true) _ _ _ _; refine xG mixed [0] ?_) | refine st2 ?_ | (show CallQ ..; first | refine cQ (fun hcc => (by fail)) ?_ | (refine lP ?_; refine lQ (fun hcc m => (by fail)) ?_)) | (show XCallQ ..; first | refine xQ (fun hcc => (by fail)) ?_ | (refine xlP ?_; refine xlQ (fun hcc m => (by fail)) ?_)) | (show Fct ..; refine fctI (fun hf => ?_)) | (show SWp _ _ _ (.cond _ _ _) _ _ _ _; first | refine cB (fun hc => ?_) (fun hc => ?_) | refine cU ?_ ?_)))
  refine stop_out ?_
  rw [e1, e2]
  generalize N / n = Q at *
  (repeat' (first | refine swp_seq [0, 1, 2, 4, 5, 6, 7] ?_ | (show SWp _ _ _ (.region _ _ true) _ _ _ _; refine xG mixed [0] ?_) | refine st2 ?_ | (show CallQ ..; first | refine cQ (fun hcc => (by first | exact cd _)) ?_ | (refine lP ?_; refine lQ (fun hcc m => (by first | exact cd _)) ?_)) | (show XCallQ ..; first | refine xQ (fun hcc => (by first | exact cd _)) ?_ | (refine xlP ?_; refine xlQ (fun hcc m => (by first | exact cd _)) ?_)) | (show Fct ..; refine fctI (fun hf => ?_)) | (show SWp _ _ _ (.cond _ _ _) _ _ _ _; first | refine cB (fun hc => ?_) (fun hc => ?_) | refine cU ?_ ?_)))
  exact DVR
set_option maxRecDepth 20000 in
set_option maxHeartbeats 4000000 in
theorem oroot_f (N : Nat) (m : Nat) (hN : N < 85070591730234615865843651857942052864) : DCalls Tryz.prog 190 [wiD N] (hget []) m (li (rt N)) (hget []) := by
  have hrt := rt_lt hN
  refine pureC (n := 42) (rs := [.tmp 2]) (ts := [3]) Tryz.func190 rfl (by decide) [] (by (exact SD)) ?_
  (repeat' (first | refine swp_seq [0, 1, 2, 3, 4, 5, 6, 8, 36] ?_ | refine st2 ?_ | (show Fct ..; refine fctI (fun hf => ?_)) | (show SWp _ _ _ (.cond _ _ _) _ _ _ _; first | refine cB (fun hc => ?_) (fun hc => ?_) | refine cU ?_ ?_)))
  refine loop_swp [1, 3, 4] [0] 1 (fun q A H => ∃ k r : Nat, q = k ∧ RtI N k r ∧ A = [(1, .ptr 0 0), (3, lu r), (4, lu (half k))] ∧ H = [(0, .blk 179 [lu (hiN N), lu (loN N)])]) (by omega) ?_ ?_ ?_
  · rintro q A H ⟨k, r, g1, g2, rfl, rfl⟩
    exact ⟨by (exact SD), by (exact SD)⟩
  · refine ⟨_, 63, 0, rfl, RtI.init N, ?_, ?_⟩
    · rw [half_63]
      exact DVR
    · exact DVR
  rintro q A H ⟨k, r, g1, g2, rfl, rfl⟩
  cases k with
  | zero =>
    rw [half_0]
    have hz : ¬ ((0 : Int) < 0) := by omega
    have er := g2.fin
    subst er
    (repeat' (first | refine swp_seq [0, 1, 2, 3, 4, 5, 6, 8, 36] ?_ | refine st2 ?_ | (show Fct ..; refine fctI (fun hf => ?_)) | (show SWp _ _ _ (.cond _ _ _) _ _ _ _; first | refine cB (fun hc => ?_) (fun hc => ?_) | refine cU ?_ ?_)))
    exact DVR
  | succ k =>
    obtain ⟨s, hs, hs1, hk1, ho, n1, n2⟩ := g2.step
    have : OrOk r (2 ^ k) s := ⟨ho⟩
    have hp : ((0 : Nat) : Int) < ((2 ^ k : Nat) : Int) := by have := Nat.two_pow_pos k; omega
    have hp2 : (0 : Int) < ((2 ^ k : Nat) : Int) := hp
    have hsh := half_sh k
    rw [half_s]
    have cm := fun m => mul64_f s s m (by omega) (by omega)
    rw [show s * s / 18446744073709551616 = hiN (s * s) from (hiN_of (Nat.div_add_mod' _ _).symm (Nat.mod_lt _ (by decide))).symm, show s * s % 18446744073709551616 = loN (s * s) from (loN_of (Nat.div_add_mod' _ _).symm (Nat.mod_lt _ (by decide))).symm] at cm
    have hle := le_parts (M := s * s) (N := N)
    clear hs ho g2
    generalize s * s = M at *
    generalize 2 ^ k = b at *
    (have := Nonempty.intro hp2)
    by_cases c1 : (hiN M : Int) < (hiN N : Int)
    · (have := Nonempty.intro c1)
      (repeat' (first | refine swp_seq [0, 1, 2, 3, 4, 5, 6, 8, 36] ?_ | refine st2 ?_ | (show CallQ ..; first | refine cQ (fun hcc => (by first | exact cm _)) ?_ | (refine lP ?_; refine lQ (fun hcc m => (by first | exact cm _)) ?_)) | (show Fct ..; refine fctI (fun hf => ?_)) | (show SWp _ _ _ (.cond _ _ _) _ _ _ _; first | refine cB (fun hc => ?_) (fun hc => ?_) | refine cU ?_ ?_)))
      (refine lN [0] ?_)
      rw [hsh]
      exact ⟨_, by omega, k, s, rfl, n1 (hle.2 (.inl (by omega))), rfl, rfl⟩
    · (have := Nonempty.intro c1)
      by_cases c2 : (hiN M : Int) = (hiN N : Int)
      · (have := Nonempty.intro c2)
        by_cases c3 : (loN M : Int) ≤ (loN N : Int)
        · (have := Nonempty.intro c3)
          (repeat' (first | refine swp_seq [0, 1, 2, 3, 4, 5, 6, 8, 36] ?_ | refine st2 ?_ | (show CallQ ..; first | refine cQ (fun hcc => (by first | exact cm _)) ?_ | (refine lP ?_; refine lQ (fun hcc m => (by first | exact cm _)) ?_)) | (show Fct ..; refine fctI (fun hf => ?_)) | (show SWp _ _ _ (.cond _ _ _) _ _ _ _; first | refine cB (fun hc => ?_) (fun hc => ?_) | refine cU ?_ ?_)))
          (refine lN [0] ?_)
          rw [hsh]
          exact ⟨_, by omega, k, s, rfl, n1 (hle.2 (.inr (by omega))), rfl, rfl⟩
        · (have := Nonempty.intro c3)
          (repeat' (first | refine swp_seq [0, 1, 2, 3, 4, 5, 6, 8, 36] ?_ | refine st2 ?_ | (show CallQ ..; first | refine cQ (fun hcc => (by first | exact cm _)) ?_ | (refine lP ?_; refine lQ (fun hcc m => (by first | exact cm _)) ?_)) | (show Fct ..; refine fctI (fun hf => ?_)) | (show SWp _ _ _ (.cond _ _ _) _ _ _ _; first | refine cB (fun hc => ?_) (fun hc => ?_) | refine cU ?_ ?_)))
          (refine lN [0] ?_)
          rw [hsh]
          exact ⟨_, by omega, k, r, rfl, n2 (fun q => by have := hle.1 q; omega), rfl, rfl⟩
      · (have := Nonempty.intro c2)
        (repeat' (first | refine swp_seq [0, 1, 2, 3, 4, 5, 6, 8, 36] ?_ | refine st2 ?_ | (show CallQ ..; first | refine cQ (fun hcc => (by first | exact cm _)) ?_ | (refine lP ?_; refine lQ (fun hcc m => (by first | exact cm _)) ?_)) | (show Fct ..; refine fctI (fun hf => ?_)) | (show SWp _ _ _ (.cond _ _ _) _ _ _ _; first | refine cB (fun hc => ?_) (fun hc => ?_) | refine cU ?_ ?_)))
        (refine lN [0] ?_)
        rw [hsh]
        exact ⟨_, by omega, k, r, rfl, n2 (fun q => by have := hle.1 q; omega), rfl, rfl⟩

end Go.Proofs.YtnfbaeeohepajaaGreat
