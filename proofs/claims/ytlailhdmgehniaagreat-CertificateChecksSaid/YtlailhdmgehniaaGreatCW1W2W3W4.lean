/-
  Contracts of functions of the program, over the engine.
  No condition.
-/
import Derived.Test.YtlailhdmgehniaaGreatCK5K4W0
import Derived.Test.YtlailhdmgehniaaGreatCK1K2K3
namespace Go.Proofs.YtlailhdmgehniaaGreat
open Go.Eng
set_option linter.all false
attribute [local irreducible] DCallsG SWp Fct CallQ XCallQ LCallQ XLCallQ drun xrun

theorem add64_run (x y : Nat) (w : World) : ((Option.get (Extern.find Tryz.f110) (by kernel_rfl)) #[.int .u64 x, .int .u64 y, .int .u64 0]).run Tryz.prog w =
    .ok (.tuple #[.int .u64 (((x + y + 0) % 18446744073709551616 : Nat) : Int), .int .u64 (((x + y + 0) / 18446744073709551616 : Nat) : Int)]) w := by
  kernel_rfl
theorem add64_f (x y : Nat) (m : Nat) (hx : x < 18446744073709551616) (hy : y < 18446744073709551616) : DCalls Tryz.prog 110 [lu x, lu y, lu 0] (hget []) m (.tup [lu ((x + y) % 18446744073709551616), lu ((x + y) / 18446744073709551616)]) (hget []) := by
  unfold DCalls DCallsG
  refine ⟨trivial, fun U ρ S w vs H0 hmU hr huU => ?_⟩
  obtain ⟨v1, v2, v3, rfl, r1, r2, r3⟩ : ∃ v1 v2 v3, vs = [v1, v2, v3] ∧ v1 = .int .u64 x ∧ v2 = .int .u64 y ∧ v3 = .int .u64 ((0 : Nat) : Int) := by
    match vs, hr with
    | [v1, v2, v3], hr => exact ⟨v1, v2, v3, rfl, rel_lit hr.1, rel_lit hr.2.1, rel_lit hr.2.2.1⟩
  subst r1 r2 r3
  have hc : ¬ callable Tryz.prog 110 := by
    rintro ⟨fn, h1, h2, h3⟩
    rw [Tryz.func110] at h1
    cases h1
    have hb0 : (Func.body Tryz.f110 ).isSome = false := by kernel_rfl
    rw [hb0] at h2
    cases h2
  have hrn := Go.run_callFunc_extern (P := Tryz.prog) (f := 110) Tryz.func110 (by kernel_rfl) (by kernel_rfl) (by kernel_rfl) (Option.some_get (by kernel_rfl)).symm #[.int .u64 x, .int .u64 y, .int .u64 0] w
  rw [add64_run x y w] at hrn
  refine CallsX.ext hc hrn ⟨_, ρ, S, rfl, (HSat0.to H0 (fun i v k => (hnil_no k).elim)).used fun i k => .inl k, ?_, ?_⟩
  · simp only [Rel]
    exact ⟨_, rfl, .lit _ rfl, .lit _ rfl, trivial⟩
  · exact ⟨trivial, trivial, trivial⟩
abbrev nmD (hi lo : Nat) (b : Bool) : DV := .agg [lu hi, lu lo, lb b]
abbrev wdD (h l : Nat) : DV := .agg [li h, li l]
theorem u64n (n : Nat) (h : n < 18446744073709551616) : IntKind.u64.wrap (n : Int) = n := by rw [u64w]; omega
theorem size_f (n : Nat) (m : Nat) (h : n < 9223372036854775808) : DCalls Tryz.prog 107 [li n] (hget []) m (lu n) (hget []) := by
  have h0 : ¬ ((n : Int) < 0) := by omega
  (have := Nonempty.intro h0)
  refine pureC (n := 10) (rs := [.tmp 2]) (ts := [120]) Tryz.func107 rfl (by decide) [] (by (exact SD)) ?_
  (repeat' (first | refine swp_seq [0, 2, 4] ?_ | refine st2 ?_ | (show Fct ..; refine fctI (fun hf => ?_)) | (show SWp _ _ _ (.cond _ _ _) _ _ _ _; first | refine cB (fun hc => ?_) (fun hc => ?_) | refine cU ?_ ?_)))
  (refine DVQ ?_)
  rw [u64n n (by omega)]
theorem signed_f (hi lo : Nat) (m : Nat) : DCalls Tryz.prog 108 [lu hi, lu lo, lb false] (hget []) m (nmD hi lo false) (hget []) := by
  refine pureC (n := 19) (rs := [.cell 6 122]) (ts := [122]) Tryz.func108 rfl (by decide) [] (by (exact SD)) ?_
  (repeat' (first | refine swp_seq [0, 1, 2, 6] ?_ | refine st2 ?_ | (show Fct ..; refine fctI (fun hf => ?_)) | (show SWp _ _ _ (.cond _ _ _) _ _ _ _; first | refine cB (fun hc => ?_) (fun hc => ?_) | refine cU ?_ ?_)))
  exact DVR
theorem signedT_f (hi lo : Nat) (m : Nat) : DCalls Tryz.prog 108 [lu hi, lu lo, lb true] (hget []) m (nmD hi lo (decide (0 < hi) || decide (0 < lo))) (hget []) := by
  by_cases h : (hi : Int) = 0
  · have hh : hi = 0 := by omega
    subst hh
    by_cases k : (lo : Int) = 0
    · have hk : lo = 0 := by omega
      subst hk
      refine pureC (n := 19) (rs := [.cell 6 122]) (ts := [122]) Tryz.func108 rfl (by decide) [] (by (exact SD)) ?_
      (repeat' (first | refine swp_seq [0, 1, 2, 6] ?_ | refine st2 ?_ | (show Fct ..; refine fctI (fun hf => ?_)) | (show SWp _ _ _ (.cond _ _ _) _ _ _ _; first | refine cB (fun hc => ?_) (fun hc => ?_) | refine cU ?_ ?_)))
      exact DVR
    · (have := Nonempty.intro k)
      have hk : decide (0 < lo) = true := decide_eq_true (by omega)
      rw [hk]
      refine pureC (n := 19) (rs := [.cell 6 122]) (ts := [122]) Tryz.func108 rfl (by decide) [] (by (exact SD)) ?_
      (repeat' (first | refine swp_seq [0, 1, 2, 6] ?_ | refine st2 ?_ | (show Fct ..; refine fctI (fun hf => ?_)) | (show SWp _ _ _ (.cond _ _ _) _ _ _ _; first | refine cB (fun hc => ?_) (fun hc => ?_) | refine cU ?_ ?_)))
      exact DVR
  · (have := Nonempty.intro h)
    have hk : decide (0 < hi) = true := decide_eq_true (by omega)
    rw [hk]
    refine pureC (n := 19) (rs := [.cell 6 122]) (ts := [122]) Tryz.func108 rfl (by decide) [] (by (exact SD)) ?_
    (repeat' (first | refine swp_seq [0, 1, 2, 6] ?_ | refine st2 ?_ | (show Fct ..; refine fctI (fun hf => ?_)) | (show SWp _ _ _ (.cond _ _ _) _ _ _ _; first | refine cB (fun hc => ?_) (fun hc => ?_) | refine cU ?_ ?_)))
    exact DVR
theorem times_f (a b : Nat) (m : Nat) (ha : a < 9223372036854775808) (hb : b < 9223372036854775808) : DCalls Tryz.prog 85 [li a, li b] (hget []) m (nmD (a * b / 18446744073709551616) (a * b % 18446744073709551616) false) (hget []) := by
  have h0 : ¬ ((a : Int) < 0) := by omega
  have h1 : ¬ ((b : Int) < 0) := by omega
  (have := Nonempty.intro h0)
  (have := Nonempty.intro h1)
  have cm := fun m => mul64_f a b m (by omega) (by omega)
  generalize a * b / 18446744073709551616 = hi at *
  generalize a * b % 18446744073709551616 = lo at *
  refine pureC (n := 23) (rs := [.cell 4 122]) (ts := [122]) Tryz.func85 rfl (by decide) [] (by (exact SD)) ?_
  (repeat' (first | refine swp_seq [0, 1, 4, 5, 6] ?_ | refine st2 ?_ | (show CallQ ..; first | refine cQ (fun hcc => (by first | exact size_f _ _ (by omega) | exact cm _ | exact signed_f _ _ _)) ?_ | (refine lP ?_; refine lQ (fun hcc m => (by first | exact size_f _ _ (by omega) | exact cm _ | exact signed_f _ _ _)) ?_)) | (show Fct ..; refine fctI (fun hf => ?_)) | (show SWp _ _ _ (.cond _ _ _) _ _ _ _; first | refine cB (fun hc => ?_) (fun hc => ?_) | refine cU ?_ ?_)))
  exact DVR
theorem whole_f (n : Nat) (m : Nat) (h : n < 9223372036854775808) : DCalls Tryz.prog 92 [lu n, lb false] (hget []) m (.tup [li n, li 0]) (hget []) := by
  have h0 : (n : Int) ≤ 9223372036854775807 := by omega
  (have := Nonempty.intro h0)
  refine pureC (n := 24) (rs := [.tmp 4, .tmp 5]) (ts := [3, 30]) Tryz.func92 rfl (by decide) [] (by (exact SD)) ?_
  (repeat' (first | refine swp_seq [0, 1, 4, 5, 6, 15] ?_ | refine st2 ?_ | (show Fct ..; refine fctI (fun hf => ?_)) | (show SWp _ _ _ (.cond _ _ _) _ _ _ _; first | refine cB (fun hc => ?_) (fun hc => ?_) | refine cU ?_ ?_)))
  exact DVR
abbrev qtR (q r : Nat) (up : Bool) : Nat := if up = true ∧ 0 < r then q + 1 else q
set_option maxHeartbeats 4000000 in
theorem quotient_f (hi lo b Q R : Nat) (up : Bool) (m : Nat) (hb : 0 < b ∧ b < 9223372036854775808) (hlo : lo < 18446744073709551616) (hq : hi * 18446744073709551616 + lo = b * Q + R) (hR : R < b) (hQ : Q < 9223372036854775807) :
    DCalls Tryz.prog 86 [nmD hi lo false, li b, lb up] (hget []) m (.tup [li (qtR Q R up), li 0]) (hget []) := by
  have hhi : hi < b := by
    refine Nat.lt_of_not_le fun k => ?_
    have h1 := Nat.mul_le_mul_right 18446744073709551616 k
    have h2 : b * Q ≤ b * 9223372036854775806 := Nat.mul_le_mul_left b (by omega)
    omega
  have cd := fun m => div64g_f hi lo b m hhi (by omega) hlo
  have e1 : (hi * 18446744073709551616 + lo) / b = Q := by
    rw [hq, Nat.mul_add_div hb.1, Nat.div_eq_of_lt hR, Nat.add_zero]
  have e2 : (hi * 18446744073709551616 + lo) % b = R := by
    rw [hq, Nat.mul_add_mod, Nat.mod_eq_of_lt hR]
  rw [e1, e2] at cd
  clear e1 e2 hq
  have h0 : ¬ ((b : Int) < 0) := by omega
  have h1 : ¬ ((b : Int) ≤ (hi : Int)) := by omega
  (have := Nonempty.intro h0)
  (have := Nonempty.intro h1)
  have hQ1 : IntKind.u64.wrap ((Q : Int) + 1) = ((Q + 1 : Nat) : Int) := by rw [u64w]; omega
  cases up
  · have e : qtR Q R false = Q := if_neg (fun k => by cases k.1)
    rw [e]
    by_cases hr : (0 : Int) < (R : Int)
    · (have := Nonempty.intro hr)
      refine pureC (n := 52) (rs := [.tmp 6, .tmp 7]) (ts := [3, 30]) Tryz.func86 rfl (by decide) [] (by (exact SD)) ?_
      (repeat' (first | refine swp_seq [0, 1, 2, 3, 6, 7, 8, 9, 10, 11, 17, 38, 42] ?_ | refine st2 ?_ | (show CallQ ..; first | refine cQ (fun hcc => (by first | exact size_f _ _ (by omega) | exact cd _ | exact whole_f _ _ (by omega))) ?_ | (refine lP ?_; refine lQ (fun hcc m => (by first | exact size_f _ _ (by omega) | exact cd _ | exact whole_f _ _ (by omega))) ?_)) | (show Fct ..; refine fctI (fun hf => ?_)) | (show SWp _ _ _ (.cond _ _ _) _ _ _ _; first | refine cB (fun hc => ?_) (fun hc => ?_) | refine cU ?_ ?_)))
      exact DVR
    · (have := Nonempty.intro hr)
      refine pureC (n := 52) (rs := [.tmp 6, .tmp 7]) (ts := [3, 30]) Tryz.func86 rfl (by decide) [] (by (exact SD)) ?_
      (repeat' (first | refine swp_seq [0, 1, 2, 3, 6, 7, 8, 9, 10, 11, 17, 38, 42] ?_ | refine st2 ?_ | (show CallQ ..; first | refine cQ (fun hcc => (by first | exact size_f _ _ (by omega) | exact cd _ | exact whole_f _ _ (by omega))) ?_ | (refine lP ?_; refine lQ (fun hcc m => (by first | exact size_f _ _ (by omega) | exact cd _ | exact whole_f _ _ (by omega))) ?_)) | (show Fct ..; refine fctI (fun hf => ?_)) | (show SWp _ _ _ (.cond _ _ _) _ _ _ _; first | refine cB (fun hc => ?_) (fun hc => ?_) | refine cU ?_ ?_)))
      exact DVR
  · by_cases hr : (0 : Int) < (R : Int)
    · (have := Nonempty.intro hr)
      have e : qtR Q R true = Q + 1 := if_pos ⟨rfl, by omega⟩
      rw [e]
      have h3 : ¬ (IntKind.u64.wrap ((Q : Int) + 1) = 0) := by rw [hQ1]; omega
      have hQ9 : Q + 1 < 9223372036854775808 := by omega
      generalize Q + 1 = Q1 at *
      (have := Nonempty.intro h3)
      refine pureC (n := 52) (rs := [.tmp 6, .tmp 7]) (ts := [3, 30]) Tryz.func86 rfl (by decide) [] (by (exact SD)) ?_
      (repeat' (first | (show SWp _ _ _ (.seq (.region 10 _ _) _) _ _ _ _; refine (stop_in ?_)) | refine swp_seq [0, 1, 2, 3, 6, 7, 8, 9, 10, 11, 17, 38, 42] ?_ | refine st2 ?_ | (show CallQ ..; first | refine cQ (fun hcc => (by first | exact size_f _ _ (by omega) | exact cd _)) ?_ | (refine lP ?_; refine lQ (fun hcc m => (by first | exact size_f _ _ (by omega) | exact cd _)) ?_)) | (show Fct ..; refine fctI (fun hf => ?_)) | (show SWp _ _ _ (.cond _ _ _) _ _ _ _; first | refine cB (fun hc => ?_) (fun hc => ?_) | refine cU ?_ ?_)))
      refine stop_out ?_
      rw [hQ1]
      (repeat' (first | refine swp_seq [0, 1, 2, 3, 6, 7, 8, 9, 10, 11, 17, 38, 42] ?_ | refine st2 ?_ | (show CallQ ..; first | refine cQ (fun hcc => (by first | exact whole_f _ _ (by omega))) ?_ | (refine lP ?_; refine lQ (fun hcc m => (by first | exact whole_f _ _ (by omega))) ?_)) | (show Fct ..; refine fctI (fun hf => ?_)) | (show SWp _ _ _ (.cond _ _ _) _ _ _ _; first | refine cB (fun hc => ?_) (fun hc => ?_) | refine cU ?_ ?_)))
      exact DVR
    · (have := Nonempty.intro hr)
      have e : qtR Q R true = Q := if_neg (fun k => hr (by omega))
      rw [e]
      refine pureC (n := 52) (rs := [.tmp 6, .tmp 7]) (ts := [3, 30]) Tryz.func86 rfl (by decide) [] (by (exact SD)) ?_
      (repeat' (first | refine swp_seq [0, 1, 2, 3, 6, 7, 8, 9, 10, 11, 17, 38, 42] ?_ | refine st2 ?_ | (show CallQ ..; first | refine cQ (fun hcc => (by first | exact size_f _ _ (by omega) | exact cd _ | exact whole_f _ _ (by omega))) ?_ | (refine lP ?_; refine lQ (fun hcc m => (by first | exact size_f _ _ (by omega) | exact cd _ | exact whole_f _ _ (by omega))) ?_)) | (show Fct ..; refine fctI (fun hf => ?_)) | (show SWp _ _ _ (.cond _ _ _) _ _ _ _; first | refine cB (fun hc => ?_) (fun hc => ?_) | refine cU ?_ ?_)))
      exact DVR
set_option maxHeartbeats 4000000 in
theorem scale_f (n k b Q R : Nat) (m : Nat) (hn : n < 9223372036854775808) (hk : k < 9223372036854775808) (hb : 0 < b ∧ b < 9223372036854775808) (hq : n * k = b * Q + R) (hR : R < b) (hQ : Q < 9223372036854775807) :
    DCalls Tryz.prog 77 [li n, li k, li b] (hget []) m (.tup [li Q, li (qtR Q R true), li 0]) (hget []) := by
  have ct := fun m => times_f n k m hn hk
  have hdm := Nat.div_add_mod (n * k) 18446744073709551616
  have hlo := Nat.mod_lt (n * k) (by decide : 18446744073709551616 > 0)
  rw [hq] at hdm hlo ct
  generalize (b * Q + R) / 18446744073709551616 = hi at *
  generalize (b * Q + R) % 18446744073709551616 = lo at *
  rw [Nat.mul_comm] at hdm
  have cq := fun up m => quotient_f hi lo b Q R up m hb hlo hdm hR hQ
  have cq0 := cq false
  have cq1 := cq true
  have e : qtR Q R false = Q := if_neg (fun k => by cases k.1)
  rw [e] at cq0
  generalize qtR Q R true = QQ at *
  clear cq e hdm hq
  have h0 : ¬ ((b : Int) = 0) := by omega
  (have := Nonempty.intro h0)
  refine pureC (n := 35) (rs := [.tmp 6, .tmp 7, .tmp 8]) (ts := [3, 3, 30]) Tryz.func77 rfl (by decide) [] (by (exact SD)) ?_
  (repeat' (first | refine swp_seq [0, 1, 2, 6, 7, 8, 9, 11, 22, 31] ?_ | refine st2 ?_ | (show CallQ ..; first | refine cQ (fun hcc => (by first | exact ct _ | exact cq0 _ | exact cq1 _)) ?_ | (refine lP ?_; refine lQ (fun hcc m => (by first | exact ct _ | exact cq0 _ | exact cq1 _)) ?_)) | (show Fct ..; refine fctI (fun hf => ?_)) | (show SWp _ _ _ (.cond _ _ _) _ _ _ _; first | refine cB (fun hc => ?_) (fun hc => ?_) | refine cU ?_ ?_)))
  exact DVR
theorem or_top (x l : Nat) (hl : l < 1152921504606846976) (hx : x < 16) : IntKind.u64.wrap ((BitVec.ofInt IntKind.u64.bits ((x * 1152921504606846976 : Nat) : Int) ||| BitVec.ofInt IntKind.u64.bits (l : Int)).toNat : Int) = ((x * 1152921504606846976 + l : Nat) : Int) :=
  or64 x l 60 hl (by show x * 1152921504606846976 + l < _; omega)
theorem or_four (x l : Nat) (hl : l < 16) (hx : x < 1152921504606846976) : IntKind.u64.wrap ((BitVec.ofInt IntKind.u64.bits ((x * 16 : Nat) : Int) ||| BitVec.ofInt IntKind.u64.bits (l : Int)).toNat : Int) = ((x * 16 + l : Nat) : Int) :=
  or64 x l 4 hl (by show x * 16 + l < _; omega)
theorem mask60 (z : Int) : IntKind.u64.wrap ((BitVec.ofInt IntKind.u64.bits z &&& BitVec.ofInt IntKind.u64.bits 1152921504606846975).toNat : Int) = z % 1152921504606846976 := by
  have h : ∀ b : BitVec 64, (b &&& 1152921504606846975#64).toNat = b.toNat % 1152921504606846976 := fun b => by
    rw [BitVec.toNat_and]
    exact Nat.and_two_pow_sub_one_eq_mod _ 60
  have e := h (BitVec.ofInt 64 z)
  show IntKind.u64.wrap ((BitVec.ofInt 64 z &&& 1152921504606846975#64).toNat : Int) = _
  rw [e, BitVec.toNat_ofInt, u64w]
  omega
theorem shl_four (x : Nat) (h : x < 1152921504606846976) : IntKind.u64.wrap ((x : Int) * 2 ^ min 4 IntKind.u64.bits) = ((x * 16 : Nat) : Int) :=
  shl64 x 4 (by omega) (by show x * 16 < _; omega)
theorem shr_four (x : Nat) : (x : Int).fdiv (2 ^ min 4 IntKind.u64.bits) = ((x / 16 : Nat) : Int) := shr64 x 4 (by omega)
theorem shr_60 (x : Nat) : (x : Int).fdiv (2 ^ min 60 IntKind.u64.bits) = ((x / 1152921504606846976 : Nat) : Int) := shr64 x 60 (by omega)
theorem shl_60 (x : Nat) : IntKind.u64.wrap ((x : Int) * 2 ^ min 60 IntKind.u64.bits) = ((x % 16 * 1152921504606846976 : Nat) : Int) := by
  rw [shl64m x 60 (by omega)]
  show ((x * 1152921504606846976 % 18446744073709551616 : Nat) : Int) = _
  omega
set_option maxHeartbeats 4000000 in
theorem placed_f (hi lo : Nat) (m : Nat) (h1 : hi < 72057594037927936) (h2 : lo < 18446744073709551616) : DCalls Tryz.prog 87 [nmD hi lo false] (hget []) m (.tup [wdD (hi * 16 + lo / 1152921504606846976) (lo % 1152921504606846976), li 0]) (hget []) := by
  have h0 : ¬ ((72057594037927936 : Int) < (hi : Int)) := by omega
  have h3 : ¬ ((hi : Int) = 72057594037927936) := by omega
  (have := Nonempty.intro h0)
  (have := Nonempty.intro h3)
  have e1 := shl_four hi (by omega)
  have e2 := shr_60 lo
  have e3 := or_four hi (lo / 1152921504606846976) (by omega) (by omega)
  have e4 := mask60 (lo : Int)
  have e5 : (lo : Int) % 1152921504606846976 = ((lo % 1152921504606846976 : Nat) : Int) := by omega
  have b1 : hi * 16 + lo / 1152921504606846976 < 9223372036854775808 := by omega
  have b2 : lo % 1152921504606846976 < 9223372036854775808 := by omega
  refine pureC (n := 56) (rs := [.cell 2 111, .tmp 3]) (ts := [111, 30]) Tryz.func87 rfl (by decide) [] (by (exact SD)) ?_
  (repeat' (first | (show SWp _ _ _ (.seq (.block 0 _) _) _ _ _ _; refine (stop_in ?_)) | refine swp_seq [0, 1, 2, 3, 4, 5, 23, 37, 44] ?_ | (show SWp _ _ _ (.region _ _ true) _ _ _ _; refine xG mixed [16] ?_) | refine st2 ?_ | (show CallQ ..; first | refine cQ (fun hcc => (by fail)) ?_ | (refine lP ?_; refine lQ (fun hcc m => (by fail)) ?_)) | (show XCallQ ..; first | refine xQ (fun hcc => (by fail)) ?_ | (refine xlP ?_; refine xlQ (fun hcc m => (by fail)) ?_)) | (show Fct ..; refine fctI (fun hf => ?_)) | (show SWp _ _ _ (.cond _ _ _) _ _ _ _; first | refine cB (fun hc => ?_) (fun hc => ?_) | refine cU ?_ ?_)))
  refine stop_out ?_
  rw [e1, e2, e3, e4, e5]
  generalize hi * 16 + lo / 1152921504606846976 = H at *
  generalize lo % 1152921504606846976 = L at *
  repeat rw [i64w (by omega)]
  (repeat' (first | refine swp_seq [0, 1, 2, 3, 4, 5, 23, 37, 44] ?_ | (show SWp _ _ _ (.region _ _ true) _ _ _ _; refine xG mixed [16] ?_) | refine st2 ?_ | (show Fct ..; refine fctI (fun hf => ?_)) | (show SWp _ _ _ (.cond _ _ _) _ _ _ _; first | refine cB (fun hc => ?_) (fun hc => ?_) | refine cU ?_ ?_)))
  exact DVR
theorem valid_f (h l : Nat) (m : Nat) (h1 : h < 1152921504606846976) (h2 : l < 1152921504606846976) : DCalls Tryz.prog 88 [wdD h l] (hget []) m (lb true) (hget []) := by
  have a1 : (-1152921504606846976 : Int) ≤ (h : Int) := by omega
  have a2 : (h : Int) < 1152921504606846976 := by omega
  have a3 : (0 : Int) ≤ (l : Int) := by omega
  have a4 : (l : Int) < 1152921504606846976 := by omega
  (have := Nonempty.intro a1)
  (have := Nonempty.intro a2)
  (have := Nonempty.intro a3)
  (have := Nonempty.intro a4)
  refine pureC (n := 21) (rs := [.tmp 2]) (ts := [4]) Tryz.func88 rfl (by decide) [] (by (exact SD)) ?_
  (repeat' (first | refine swp_seq [0, 1, 2] ?_ | refine st2 ?_ | (show Fct ..; refine fctI (fun hf => ?_)) | (show SWp _ _ _ (.cond _ _ _) _ _ _ _; first | refine cB (fun hc => ?_) (fun hc => ?_) | refine cU ?_ ?_)))
  exact DVR
set_option maxHeartbeats 4000000 in
theorem value_f (h l : Nat) (m : Nat) (h1 : h < 1152921504606846976) (h2 : l < 1152921504606846976) : DCalls Tryz.prog 90 [wdD h l] (hget []) m (nmD (h / 16) (h % 16 * 1152921504606846976 + l) false) (hget []) := by
  have a1 : (0 : Int) ≤ (h : Int) := by omega
  (have := Nonempty.intro a1)
  have e1 := shr_four h
  have e2 := shl_60 h
  have e3 := or_top (h % 16) l h2 (by omega)
  have e4 := u64n l (by omega)
  refine pureC (n := 37) (rs := [.cell 2 122]) (ts := [122]) Tryz.func90 rfl (by decide) [] (by (exact SD)) ?_
  (repeat' (first | (show SWp _ _ _ (.seq (.region 3 _ _) _) _ _ _ _; refine (stop_in ?_)) | refine swp_seq [0, 1, 2, 3, 4, 5, 6, 16] ?_ | refine st2 ?_ | (show CallQ ..; first | refine cQ (fun hcc => (by first | exact size_f _ _ (by omega))) ?_ | (refine lP ?_; refine lQ (fun hcc m => (by first | exact size_f _ _ (by omega))) ?_)) | (show Fct ..; refine fctI (fun hf => ?_)) | (show SWp _ _ _ (.cond _ _ _) _ _ _ _; first | refine cB (fun hc => ?_) (fun hc => ?_) | refine cU ?_ ?_)))
  refine stop_out ?_
  rw [e1, e2]
  generalize h / 16 = H at *
  generalize hY : h % 16 = Y at *
  have hY16 : Y < 16 := by omega
  obtain ⟨X, hX⟩ : ∃ X, Y * 1152921504606846976 = X := ⟨_, rfl⟩
  rw [hX] at e3 ⊢
  (repeat' (first | refine swp_seq [0, 1, 2, 3, 4, 5, 6, 16] ?_ | refine st2 ?_ | (show Fct ..; refine fctI (fun hf => ?_)) | (show SWp _ _ _ (.cond _ _ _) _ _ _ _; first | refine cB (fun hc => ?_) (fun hc => ?_) | refine cU ?_ ?_)))
  (refine DVQ ?_)
  rw [e4, e3]; rfl
theorem minus0_f (m : Nat) : DCalls Tryz.prog 91 [nmD 0 0 false] (hget []) m (nmD 0 0 false) (hget []) := by
  have cs := fun m => signedT_f 0 0 m
  refine pureC (n := 11) (rs := [.cell 2 122]) (ts := [122]) Tryz.func91 rfl (by decide) [] (by (exact SD)) ?_
  (repeat' (first | refine swp_seq [0, 1, 2] ?_ | refine st2 ?_ | (show CallQ ..; first | refine cQ (fun hcc => (by first | exact cs _)) ?_ | (refine lP ?_; refine lQ (fun hcc m => (by first | exact cs _)) ?_)) | (show Fct ..; refine fctI (fun hf => ?_)) | (show SWp _ _ _ (.cond _ _ _) _ _ _ _; first | refine cB (fun hc => ?_) (fun hc => ?_) | refine cU ?_ ?_)))
  exact DVR
theorem minus_f (hi lo : Nat) (m : Nat) (h : 0 < hi ∨ 0 < lo) : DCalls Tryz.prog 91 [nmD hi lo false] (hget []) m (nmD hi lo true) (hget []) := by
  have cs := fun m => signedT_f hi lo m
  have e : (decide (0 < hi) || decide (0 < lo)) = true := by
    rcases h with h | h
    · rw [decide_eq_true h]; rfl
    · rw [decide_eq_true h, Bool.or_true]
  rw [e] at cs
  refine pureC (n := 11) (rs := [.cell 2 122]) (ts := [122]) Tryz.func91 rfl (by decide) [] (by (exact SD)) ?_
  (repeat' (first | refine swp_seq [0, 1, 2] ?_ | refine st2 ?_ | (show CallQ ..; first | refine cQ (fun hcc => (by first | exact cs _)) ?_ | (refine lP ?_; refine lQ (fun hcc m => (by first | exact cs _)) ?_)) | (show Fct ..; refine fctI (fun hf => ?_)) | (show SWp _ _ _ (.cond _ _ _) _ _ _ _; first | refine cB (fun hc => ?_) (fun hc => ?_) | refine cU ?_ ?_)))
  exact DVR
theorem signedI_f (x y : Int) (m : Nat) : DCalls Tryz.prog 108 [lv (.int .u64 x), lv (.int .u64 y), lb false] (hget []) m (.agg [lv (.int .u64 x), lv (.int .u64 y), lb false]) (hget []) := by
  refine pureC (n := 19) (rs := [.cell 6 122]) (ts := [122]) Tryz.func108 rfl (by decide) [] (by (exact SD)) ?_
  (repeat' (first | refine swp_seq [0, 1, 2, 6] ?_ | refine st2 ?_ | (show Fct ..; refine fctI (fun hf => ?_)) | (show SWp _ _ _ (.cond _ _ _) _ _ _ _; first | refine cB (fun hc => ?_) (fun hc => ?_) | refine cU ?_ ?_)))
  exact DVR
set_option maxHeartbeats 4000000 in
theorem sum0_f (hi lo : Nat) (m : Nat) (h1 : hi < 18446744073709551616) (h2 : lo < 18446744073709551616) : DCalls Tryz.prog 89 [nmD hi lo false, nmD 0 0 false] (hget []) m (nmD hi lo false) (hget []) := by
  have ca := fun m => add64_f lo 0 m h2 (by omega)
  have e1 : (lo + 0) % 18446744073709551616 = lo := by omega
  have e2 : (lo + 0) / 18446744073709551616 = 0 := by omega
  rw [e1, e2] at ca
  have e3 : IntKind.u64.wrap (IntKind.u64.wrap ((hi : Int) + 0) + 0) = hi := by rw [u64w, u64w]; omega
  refine pureC (n := 73) (rs := [.cell 4 122]) (ts := [122]) Tryz.func89 rfl (by decide) [] (by (exact SD)) ?_
  (repeat' (first | refine swp_seq [0, 1, 2, 3, 4, 5, 6, 7, 8, 13, 51] ?_ | refine st2 ?_ | (show CallQ ..; first | refine cQ (fun hcc => (by first | exact ca _ | exact signedI_f _ _ _)) ?_ | (refine lP ?_; refine lQ (fun hcc m => (by first | exact ca _ | exact signedI_f _ _ _)) ?_)) | (show Fct ..; refine fctI (fun hf => ?_)) | (show SWp _ _ _ (.cond _ _ _) _ _ _ _; first | refine cB (fun hc => ?_) (fun hc => ?_) | refine cU ?_ ?_)))
  (refine DVQ ?_)
  rw [e3]; rfl
set_option maxHeartbeats 4000000 in
theorem sum_f (h1 l1 h2 l2 : Nat) (m : Nat) (a1 : h1 < 18446744073709551616) (a2 : l1 < 18446744073709551616) (a3 : h2 < 18446744073709551616) (a4 : l2 < 18446744073709551616) (hle : h2 * 18446744073709551616 + l2 ≤ h1 * 18446744073709551616 + l1) :
    DCalls Tryz.prog 89 [nmD h1 l1 false, nmD h2 l2 true] (hget []) m (nmD (h1 - h2 - if l1 < l2 then 1 else 0) ((l1 + 18446744073709551616 - l2) % 18446744073709551616) false) (hget []) := by
  have c1 : ¬ ((h1 : Int) < (h2 : Int)) := by omega
  (have := Nonempty.intro c1)
  have cs := fun m => sub64_f l1 l2 m a2 a4
  have e3 : IntKind.u64.wrap (IntKind.u64.wrap ((h1 : Int) - (h2 : Int)) - ((if l1 < l2 then 1 else 0 : Nat) : Int)) = ((h1 - h2 - if l1 < l2 then 1 else 0 : Nat) : Int) := by
    rw [u64w, u64w]
    split <;> omega
  by_cases c2 : (h1 : Int) = (h2 : Int)
  · have c3 : ¬ ((l1 : Int) < (l2 : Int)) := by omega
    (have := Nonempty.intro c2)
    (have := Nonempty.intro c3)
    generalize (if l1 < l2 then 1 else 0) = br at *
    generalize (l1 + 18446744073709551616 - l2) % 18446744073709551616 = lo at *
    refine pureC (n := 73) (rs := [.cell 4 122]) (ts := [122]) Tryz.func89 rfl (by decide) [] (by (exact SD)) ?_
    (repeat' (first | refine swp_seq [0, 1, 2, 3, 4, 5, 6, 7, 8, 13, 51] ?_ | refine st2 ?_ | (show CallQ ..; first | refine cQ (fun hcc => (by first | exact cs _ | exact signedI_f _ _ _)) ?_ | (refine lP ?_; refine lQ (fun hcc m => (by first | exact cs _ | exact signedI_f _ _ _)) ?_)) | (show Fct ..; refine fctI (fun hf => ?_)) | (show SWp _ _ _ (.cond _ _ _) _ _ _ _; first | refine cB (fun hc => ?_) (fun hc => ?_) | refine cU ?_ ?_)))
    (refine DVQ ?_)
    rw [e3]; rfl
  · (have := Nonempty.intro c2)
    generalize (if l1 < l2 then 1 else 0) = br at *
    generalize (l1 + 18446744073709551616 - l2) % 18446744073709551616 = lo at *
    refine pureC (n := 73) (rs := [.cell 4 122]) (ts := [122]) Tryz.func89 rfl (by decide) [] (by (exact SD)) ?_
    (repeat' (first | refine swp_seq [0, 1, 2, 3, 4, 5, 6, 7, 8, 13, 51] ?_ | refine st2 ?_ | (show CallQ ..; first | refine cQ (fun hcc => (by first | exact cs _ | exact signedI_f _ _ _)) ?_ | (refine lP ?_; refine lQ (fun hcc m => (by first | exact cs _ | exact signedI_f _ _ _)) ?_)) | (show Fct ..; refine fctI (fun hf => ?_)) | (show SWp _ _ _ (.cond _ _ _) _ _ _ _; first | refine cB (fun hc => ?_) (fun hc => ?_) | refine cU ?_ ?_)))
    (refine DVQ ?_)
    rw [e3]; rfl

end Go.Proofs.YtlailhdmgehniaaGreat
