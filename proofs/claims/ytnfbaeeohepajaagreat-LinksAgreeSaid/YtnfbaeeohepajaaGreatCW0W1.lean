/-
  Contracts of functions of the program, over the engine.
  No condition.
-/
import Derived.Test.YtnfbaeeohepajaaGreatCN0N1NBKSK1
import Derived.Test.YtnfbaeeohepajaaGreatCK2K3K5W3
import Derived.Test.YtnfbaeeohepajaaGreatCK4
namespace Go.Proofs.YtnfbaeeohepajaaGreat
open Go.Eng
set_option linter.all false
attribute [local irreducible] DCallsG SWp Fct CallQ XCallQ LCallQ XLCallQ drun xrun

theorem sub64_run (x y : Nat) (w : World) : ((Option.get (Extern.find Tryz.f235) (by kernel_rfl)) #[.int .u64 x, .int .u64 y, .int .u64 0]).run Tryz.prog w =
    .ok (.tuple #[.int .u64 (((x + 18446744073709551616 - y - 0) % 18446744073709551616 : Nat) : Int), .int .u64 ((if x < y + 0 then 1 else 0 : Nat) : Int)]) w := by
  kernel_rfl
theorem sub64_f (x y : Nat) (m : Nat) (hx : x < 18446744073709551616) (hy : y < 18446744073709551616) : DCalls Tryz.prog 235 [lu x, lu y, lu 0] (hget []) m (.tup [lu ((x + 18446744073709551616 - y) % 18446744073709551616), lu (if x < y then 1 else 0)]) (hget []) := by
  unfold DCalls DCallsG
  refine ⟨trivial, fun U ρ S w vs H0 hmU hr huU => ?_⟩
  obtain ⟨v1, v2, v3, rfl, r1, r2, r3⟩ : ∃ v1 v2 v3, vs = [v1, v2, v3] ∧ v1 = .int .u64 x ∧ v2 = .int .u64 y ∧ v3 = .int .u64 ((0 : Nat) : Int) := by
    match vs, hr with
    | [v1, v2, v3], hr => exact ⟨v1, v2, v3, rfl, rel_lit hr.1, rel_lit hr.2.1, rel_lit hr.2.2.1⟩
  subst r1 r2 r3
  have hc : ¬ callable Tryz.prog 235 := by
    rintro ⟨fn, h1, h2, h3⟩
    rw [Tryz.func235] at h1
    cases h1
    have hb0 : (Func.body Tryz.f235 ).isSome = false := by kernel_rfl
    rw [hb0] at h2
    cases h2
  have hrn := Go.run_callFunc_extern (P := Tryz.prog) (f := 235) Tryz.func235 (by kernel_rfl) (by kernel_rfl) (by kernel_rfl) (Option.some_get (by kernel_rfl)).symm #[.int .u64 x, .int .u64 y, .int .u64 0] w
  rw [sub64_run x y w] at hrn
  refine CallsX.ext hc hrn ⟨_, ρ, S, rfl, (HSat0.to H0 (fun i v k => (hnil_no k).elim)).used fun i k => .inl k, ?_, ?_⟩
  · simp only [Rel]
    exact ⟨_, rfl, .lit _ rfl, .lit _ rfl, trivial⟩
  · exact ⟨trivial, trivial, trivial⟩
theorem add64_run (x y : Nat) (w : World) : ((Option.get (Extern.find Tryz.f234) (by kernel_rfl)) #[.int .u64 x, .int .u64 y, .int .u64 0]).run Tryz.prog w =
    .ok (.tuple #[.int .u64 (((x + y + 0) % 18446744073709551616 : Nat) : Int), .int .u64 (((x + y + 0) / 18446744073709551616 : Nat) : Int)]) w := by
  kernel_rfl
theorem add64_f (x y : Nat) (m : Nat) (hx : x < 18446744073709551616) (hy : y < 18446744073709551616) : DCalls Tryz.prog 234 [lu x, lu y, lu 0] (hget []) m (.tup [lu ((x + y) % 18446744073709551616), lu ((x + y) / 18446744073709551616)]) (hget []) := by
  unfold DCalls DCallsG
  refine ⟨trivial, fun U ρ S w vs H0 hmU hr huU => ?_⟩
  obtain ⟨v1, v2, v3, rfl, r1, r2, r3⟩ : ∃ v1 v2 v3, vs = [v1, v2, v3] ∧ v1 = .int .u64 x ∧ v2 = .int .u64 y ∧ v3 = .int .u64 ((0 : Nat) : Int) := by
    match vs, hr with
    | [v1, v2, v3], hr => exact ⟨v1, v2, v3, rfl, rel_lit hr.1, rel_lit hr.2.1, rel_lit hr.2.2.1⟩
  subst r1 r2 r3
  have hc : ¬ callable Tryz.prog 234 := by
    rintro ⟨fn, h1, h2, h3⟩
    rw [Tryz.func234] at h1
    cases h1
    have hb0 : (Func.body Tryz.f234 ).isSome = false := by kernel_rfl
    rw [hb0] at h2
    cases h2
  have hrn := Go.run_callFunc_extern (P := Tryz.prog) (f := 234) Tryz.func234 (by kernel_rfl) (by kernel_rfl) (by kernel_rfl) (Option.some_get (by kernel_rfl)).symm #[.int .u64 x, .int .u64 y, .int .u64 0] w
  rw [add64_run x y w] at hrn
  refine CallsX.ext hc hrn ⟨_, ρ, S, rfl, (HSat0.to H0 (fun i v k => (hnil_no k).elim)).used fun i k => .inl k, ?_, ?_⟩
  · simp only [Rel]
    exact ⟨_, rfl, .lit _ rfl, .lit _ rfl, trivial⟩
  · exact ⟨trivial, trivial, trivial⟩
abbrev nmD (hi lo : Nat) (b : Bool) : DV := .agg [lu hi, lu lo, lb b]
abbrev wdD (h l : Nat) : DV := .agg [li h, li l]
theorem u64n (n : Nat) (h : n < 18446744073709551616) : IntKind.u64.wrap (n : Int) = n := by rw [u64w]; omega
theorem size_f (n : Nat) (m : Nat) (h : n < 9223372036854775808) : DCalls Tryz.prog 210 [li n] (hget []) m (lu n) (hget []) := by
  have h0 : ¬ ((n : Int) < 0) := by omega
  (have := Nonempty.intro h0)
  refine pureC (n := 10) (rs := [.tmp 2]) (ts := [139]) Tryz.func210 rfl (by decide) [] (by (exact SD)) ?_
  (repeat' (first | refine swp_seq [0, 2, 4] ?_ | refine st2 ?_ | (show Fct ..; refine fctI (fun hf => ?_)) | (show SWp _ _ _ (.cond _ _ _) _ _ _ _; first | refine cB (fun hc => ?_) (fun hc => ?_) | refine cU ?_ ?_)))
  (refine DVQ ?_)
  rw [u64n n (by omega)]
theorem signed_f (hi lo : Nat) (m : Nat) : DCalls Tryz.prog 211 [lu hi, lu lo, lb false] (hget []) m (nmD hi lo false) (hget []) := by
  refine pureC (n := 19) (rs := [.cell 6 184]) (ts := [184]) Tryz.func211 rfl (by decide) [] (by (exact SD)) ?_
  (repeat' (first | refine swp_seq [0, 1, 2, 6] ?_ | refine st2 ?_ | (show Fct ..; refine fctI (fun hf => ?_)) | (show SWp _ _ _ (.cond _ _ _) _ _ _ _; first | refine cB (fun hc => ?_) (fun hc => ?_) | refine cU ?_ ?_)))
  exact DVR
theorem signedT_f (hi lo : Nat) (m : Nat) : DCalls Tryz.prog 211 [lu hi, lu lo, lb true] (hget []) m (nmD hi lo (decide (0 < hi) || decide (0 < lo))) (hget []) := by
  by_cases h : (hi : Int) = 0
  · have hh : hi = 0 := by omega
    subst hh
    by_cases k : (lo : Int) = 0
    · have hk : lo = 0 := by omega
      subst hk
      refine pureC (n := 19) (rs := [.cell 6 184]) (ts := [184]) Tryz.func211 rfl (by decide) [] (by (exact SD)) ?_
      (repeat' (first | refine swp_seq [0, 1, 2, 6] ?_ | refine st2 ?_ | (show Fct ..; refine fctI (fun hf => ?_)) | (show SWp _ _ _ (.cond _ _ _) _ _ _ _; first | refine cB (fun hc => ?_) (fun hc => ?_) | refine cU ?_ ?_)))
      exact DVR
    · (have := Nonempty.intro k)
      have hk : decide (0 < lo) = true := decide_eq_true (by omega)
      rw [hk]
      refine pureC (n := 19) (rs := [.cell 6 184]) (ts := [184]) Tryz.func211 rfl (by decide) [] (by (exact SD)) ?_
      (repeat' (first | refine swp_seq [0, 1, 2, 6] ?_ | refine st2 ?_ | (show Fct ..; refine fctI (fun hf => ?_)) | (show SWp _ _ _ (.cond _ _ _) _ _ _ _; first | refine cB (fun hc => ?_) (fun hc => ?_) | refine cU ?_ ?_)))
      exact DVR
  · (have := Nonempty.intro h)
    have hk : decide (0 < hi) = true := decide_eq_true (by omega)
    rw [hk]
    refine pureC (n := 19) (rs := [.cell 6 184]) (ts := [184]) Tryz.func211 rfl (by decide) [] (by (exact SD)) ?_
    (repeat' (first | refine swp_seq [0, 1, 2, 6] ?_ | refine st2 ?_ | (show Fct ..; refine fctI (fun hf => ?_)) | (show SWp _ _ _ (.cond _ _ _) _ _ _ _; first | refine cB (fun hc => ?_) (fun hc => ?_) | refine cU ?_ ?_)))
    exact DVR
theorem times_f (a b : Nat) (m : Nat) (ha : a < 9223372036854775808) (hb : b < 9223372036854775808) : DCalls Tryz.prog 193 [li a, li b] (hget []) m (nmD (a * b / 18446744073709551616) (a * b % 18446744073709551616) false) (hget []) := by
  have h0 : ¬ ((a : Int) < 0) := by omega
  have h1 : ¬ ((b : Int) < 0) := by omega
  (have := Nonempty.intro h0)
  (have := Nonempty.intro h1)
  have cm := fun m => mul64_f a b m (by omega) (by omega)
  generalize a * b / 18446744073709551616 = hi at *
  generalize a * b % 18446744073709551616 = lo at *
  refine pureC (n := 23) (rs := [.cell 4 184]) (ts := [184]) Tryz.func193 rfl (by decide) [] (by (exact SD)) ?_
  (repeat' (first | refine swp_seq [0, 1, 4, 5, 6] ?_ | refine st2 ?_ | (show CallQ ..; first | refine cQ (fun hcc => (by first | exact size_f _ _ (by omega) | exact cm _ | exact signed_f _ _ _)) ?_ | (refine lP ?_; refine lQ (fun hcc m => (by first | exact size_f _ _ (by omega) | exact cm _ | exact signed_f _ _ _)) ?_)) | (show Fct ..; refine fctI (fun hf => ?_)) | (show SWp _ _ _ (.cond _ _ _) _ _ _ _; first | refine cB (fun hc => ?_) (fun hc => ?_) | refine cU ?_ ?_)))
  exact DVR
theorem whole_f (n : Nat) (m : Nat) (h : n < 9223372036854775808) : DCalls Tryz.prog 212 [lu n, lb false] (hget []) m (.tup [li n, li 0]) (hget []) := by
  have h0 : (n : Int) ≤ 9223372036854775807 := by omega
  (have := Nonempty.intro h0)
  refine pureC (n := 24) (rs := [.tmp 4, .tmp 5]) (ts := [3, 30]) Tryz.func212 rfl (by decide) [] (by (exact SD)) ?_
  (repeat' (first | refine swp_seq [0, 1, 4, 5, 6, 15] ?_ | refine st2 ?_ | (show Fct ..; refine fctI (fun hf => ?_)) | (show SWp _ _ _ (.cond _ _ _) _ _ _ _; first | refine cB (fun hc => ?_) (fun hc => ?_) | refine cU ?_ ?_)))
  exact DVR

end Go.Proofs.YtnfbaeeohepajaaGreat
