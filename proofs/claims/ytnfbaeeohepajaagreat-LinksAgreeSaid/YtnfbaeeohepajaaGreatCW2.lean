/-
  Contracts of functions of the program, over the engine.
  No condition.
-/
import Derived.Test.YtnfbaeeohepajaaGreatCW0W1
namespace Go.Proofs.YtnfbaeeohepajaaGreat
open Go.Eng
set_option linter.all false
attribute [local irreducible] DCallsG SWp Fct CallQ XCallQ LCallQ XLCallQ drun xrun

abbrev qtR (q r : Nat) (up : Bool) : Nat := if up = true ∧ 0 < r then q + 1 else q
set_option maxHeartbeats 4000000 in
theorem quotient_f (hi lo b Q R : Nat) (up : Bool) (m : Nat) (hb : 0 < b ∧ b < 9223372036854775808) (hlo : lo < 18446744073709551616) (hq : hi * 18446744073709551616 + lo = b * Q + R) (hR : R < b) (hQ : Q < 9223372036854775807) :
    DCalls Tryz.prog 194 [nmD hi lo false, li b, lb up] (hget []) m (.tup [li (qtR Q R up), li 0]) (hget []) := by
  have hhi : hi < b := by
    refine Nat.lt_of_not_le fun k => ?_
    have h1 := Nat.mul_le_mul_right 18446744073709551616 k
    have h2 : b * Q ≤ b * 9223372036854775806 := Nat.mul_le_mul_left b (by omega)
    omega
  have cd := fun m => div64g_f hi lo b m hhi (by omega) hlo
  have e1 : (hi * 18446744073709551616 + lo) / b = Q := by
    rw [hq, Nat.mul_add_div hb.1, Nat.div_eq_of_lt hR, Nat.add_zero]
  have e2 : (hi * 18446744073709551616 + lo) % b = R := by
    rw [hq, Nat.mul_add_mod, Nat.mod_eq_of_lt hR]
  rw [e1, e2] at cd
  clear e1 e2 hq
  have h0 : ¬ ((b : Int) < 0) := by omega
  have h1 : ¬ ((b : Int) ≤ (hi : Int)) := by omega
  (have := Nonempty.intro h0)
  (have := Nonempty.intro h1)
  have hQ1 : IntKind.u64.wrap ((Q : Int) + 1) = ((Q + 1 : Nat) : Int) := by rw [u64w]; omega
  cases up
  · have e : qtR Q R false = Q := if_neg (fun k => by cases k.1)
    rw [e]
    by_cases hr : (0 : Int) < (R : Int)
    · (have := Nonempty.intro hr)
      refine pureC (n := 52) (rs := [.tmp 6, .tmp 7]) (ts := [3, 30]) Tryz.func194 rfl (by decide) [] (by (exact SD)) ?_
      (repeat' (first | refine swp_seq [0, 1, 2, 3, 6, 7, 8, 9, 10, 11, 17, 38, 42] ?_ | refine st2 ?_ | (show CallQ ..; first | refine cQ (fun hcc => (by first | exact size_f _ _ (by omega) | exact cd _ | exact whole_f _ _ (by omega))) ?_ | (refine lP ?_; refine lQ (fun hcc m => (by first | exact size_f _ _ (by omega) | exact cd _ | exact whole_f _ _ (by omega))) ?_)) | (show Fct ..; refine fctI (fun hf => ?_)) | (show SWp _ _ _ (.cond _ _ _) _ _ _ _; first | refine cB (fun hc => ?_) (fun hc => ?_) | refine cU ?_ ?_)))
      exact DVR
    · (have := Nonempty.intro hr)
      refine pureC (n := 52) (rs := [.tmp 6, .tmp 7]) (ts := [3, 30]) Tryz.func194 rfl (by decide) [] (by (exact SD)) ?_
      (repeat' (first | refine swp_seq [0, 1, 2, 3, 6, 7, 8, 9, 10, 11, 17, 38, 42] ?_ | refine st2 ?_ | (show CallQ ..; first | refine cQ (fun hcc => (by first | exact size_f _ _ (by omega) | exact cd _ | exact whole_f _ _ (by omega))) ?_ | (refine lP ?_; refine lQ (fun hcc m => (by first | exact size_f _ _ (by omega) | exact cd _ | exact whole_f _ _ (by omega))) ?_)) | (show Fct ..; refine fctI (fun hf => ?_)) | (show SWp _ _ _ (.cond _ _ _) _ _ _ _; first | refine cB (fun hc => ?_) (fun hc => ?_) | refine cU ?_ ?_)))
      exact DVR
  · by_cases hr : (0 : Int) < (R : Int)
    · (have := Nonempty.intro hr)
      have e : qtR Q R true = Q + 1 := if_pos ⟨rfl, by omega⟩
      rw [e]
      have h3 : ¬ (IntKind.u64.wrap ((Q : Int) + 1) = 0) := by rw [hQ1]; omega
      have hQ9 : Q + 1 < 9223372036854775808 := by omega
      generalize Q + 1 = Q1 at *
      (have := Nonempty.intro h3)
      refine pureC (n := 52) (rs := [.tmp 6, .tmp 7]) (ts := [3, 30]) Tryz.func194 rfl (by decide) [] (by (exact SD)) ?_
      (repeat' (first | (show SWp _ _ _ (.seq (.region 10 _ _) _) _ _ _ _; refine (stop_in ?_)) | refine swp_seq [0, 1, 2, 3, 6, 7, 8, 9, 10, 11, 17, 38, 42] ?_ | refine st2 ?_ | (show CallQ ..; first | refine cQ (fun hcc => (by first | exact size_f _ _ (by omega) | exact cd _)) ?_ | (refine lP ?_; refine lQ (fun hcc m => (by first | exact size_f _ _ (by omega) | exact cd _)) ?_)) | (show Fct ..; refine fctI (fun hf => ?_)) | (show SWp _ _ _ (.cond _ _ _) _ _ _ _; first | refine cB (fun hc => ?_) (fun hc => ?_) | refine cU ?_ ?_)))
      refine stop_out ?_
      rw [hQ1]
      (repeat' (first | refine swp_seq [0, 1, 2, 3, 6, 7, 8, 9, 10, 11, 17, 38, 42] ?_ | refine st2 ?_ | (show CallQ ..; first | refine cQ (fun hcc => (by first | exact whole_f _ _ (by omega))) ?_ | (refine lP ?_; refine lQ (fun hcc m => (by first | exact whole_f _ _ (by omega))) ?_)) | (show Fct ..; refine fctI (fun hf => ?_)) | (show SWp _ _ _ (.cond _ _ _) _ _ _ _; first | refine cB (fun hc => ?_) (fun hc => ?_) | refine cU ?_ ?_)))
      exact DVR
    · (have := Nonempty.intro hr)
      have e : qtR Q R true = Q := if_neg (fun k => hr (by omega))
      rw [e]
      refine pureC (n := 52) (rs := [.tmp 6, .tmp 7]) (ts := [3, 30]) Tryz.func194 rfl (by decide) [] (by (exact SD)) ?_
      (repeat' (first | refine swp_seq [0, 1, 2, 3, 6, 7, 8, 9, 10, 11, 17, 38, 42] ?_ | refine st2 ?_ | (show CallQ ..; first | refine cQ (fun hcc => (by first | exact size_f _ _ (by omega) | exact cd _ | exact whole_f _ _ (by omega))) ?_ | (refine lP ?_; refine lQ (fun hcc m => (by first | exact size_f _ _ (by omega) | exact cd _ | exact whole_f _ _ (by omega))) ?_)) | (show Fct ..; refine fctI (fun hf => ?_)) | (show SWp _ _ _ (.cond _ _ _) _ _ _ _; first | refine cB (fun hc => ?_) (fun hc => ?_) | refine cU ?_ ?_)))
      exact DVR
set_option maxHeartbeats 4000000 in
theorem scale_f (n k b Q R : Nat) (m : Nat) (hn : n < 9223372036854775808) (hk : k < 9223372036854775808) (hb : 0 < b ∧ b < 9223372036854775808) (hq : n * k = b * Q + R) (hR : R < b) (hQ : Q < 9223372036854775807) :
    DCalls Tryz.prog 173 [li n, li k, li b] (hget []) m (.tup [li Q, li (qtR Q R true), li 0]) (hget []) := by
  have ct := fun m => times_f n k m hn hk
  have hdm := Nat.div_add_mod (n * k) 18446744073709551616
  have hlo := Nat.mod_lt (n * k) (by decide : 18446744073709551616 > 0)
  rw [hq] at hdm hlo ct
  generalize (b * Q + R) / 18446744073709551616 = hi at *
  generalize (b * Q + R) % 18446744073709551616 = lo at *
  rw [Nat.mul_comm] at hdm
  have cq := fun up m => quotient_f hi lo b Q R up m hb hlo hdm hR hQ
  have cq0 := cq false
  have cq1 := cq true
  have e : qtR Q R false = Q := if_neg (fun k => by cases k.1)
  rw [e] at cq0
  generalize qtR Q R true = QQ at *
  clear cq e hdm hq
  have h0 : ¬ ((b : Int) = 0) := by omega
  (have := Nonempty.intro h0)
  refine pureC (n := 35) (rs := [.tmp 6, .tmp 7, .tmp 8]) (ts := [3, 3, 30]) Tryz.func173 rfl (by decide) [] (by (exact SD)) ?_
  (repeat' (first | refine swp_seq [0, 1, 2, 6, 7, 8, 9, 11, 22, 31] ?_ | refine st2 ?_ | (show CallQ ..; first | refine cQ (fun hcc => (by first | exact ct _ | exact cq0 _ | exact cq1 _)) ?_ | (refine lP ?_; refine lQ (fun hcc m => (by first | exact ct _ | exact cq0 _ | exact cq1 _)) ?_)) | (show Fct ..; refine fctI (fun hf => ?_)) | (show SWp _ _ _ (.cond _ _ _) _ _ _ _; first | refine cB (fun hc => ?_) (fun hc => ?_) | refine cU ?_ ?_)))
  exact DVR

end Go.Proofs.YtnfbaeeohepajaaGreat
