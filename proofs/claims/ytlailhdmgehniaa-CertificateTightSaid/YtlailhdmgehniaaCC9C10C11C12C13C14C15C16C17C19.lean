/-
  Contracts of functions of the program, over the engine.
  No condition.
-/
import Derived.Test.YtlailhdmgehniaaCC0C1C2C3
import Derived.Test.YtlailhdmgehniaaCC4C5C6C7C8
namespace Go.Proofs.Ytlailhdmgehniaa
open Go.Eng
set_option linter.all false
attribute [local irreducible] DCallsG SWp Fct CallQ XCallQ LCallQ XLCallQ drun xrun

def exP : Plan := ⟨5, 10, 0, [5], [0, 4], [⟨0, 0⟩, ⟨4, 8⟩], 3⟩
theorem exP_1 : exP.start = 5 := rfl
theorem exP_2 : exP.cap = 10 := rfl
theorem exP_3 : exP.res = 0 := rfl
theorem exP_4 : exP.inf = [5] := rfl
theorem exP_5 : exP.rel = [0, 4] := rfl
theorem exP_6 : exP.pen = [⟨0, 0⟩, ⟨4, 8⟩] := rfl
theorem exP_7 : exP.wei = 3 := rfl
attribute [push_cast] exP_1 exP_2 exP_3 exP_4 exP_5 exP_6 exP_7
theorem idx_c0 (a : List PV) (l : List (List PV)) : idx (a :: l) 0 = a := rfl
theorem idx_c1 (a b : List PV) (l : List (List PV)) : idx (a :: b :: l) 1 = b := rfl
theorem idx_c2 (a b c : List PV) (l : List (List PV)) : idx (a :: b :: c :: l) 2 = c := rfl
theorem idx_c3 (a b c d : List PV) (l : List (List PV)) : idx (a :: b :: c :: d :: l) 3 = d := rfl
theorem idx_m1 (a : List PV) (l : List (List PV)) : idx (a :: l) (-1) = a := rfl
theorem idx_m2 (a : List PV) (l : List (List PV)) : idx (a :: l) (-2) = a := rfl
attribute [push_cast] idx_m1 idx_m2 idx_c0 idx_c1 idx_c2 idx_c3 List.map_cons List.map_nil List.length_cons List.length_nil decide_true decide_false
set_option maxRecDepth 20000 in
theorem example_f (m : Nat) : DCalls Try.prog 14 [] (hget []) m (planD exP) (hget []) := by
  refine pureC (n := 7) (rs := [.cell 0 26]) (ts := [26]) Try.func14 rfl (by decide) [8, 16, 40] (by (exact SD)) ?_
  (repeat' (first | refine swp_seq [0] ?_ | refine st2 ?_ | (show Fct ..; refine fctI (fun hf => ?_)) | (show SWp _ _ _ (.cond _ _ _) _ _ _ _; first | refine cB (fun hc => ?_) (fun hc => ?_) | refine cU ?_ ?_)))
  all_goals first | rfl | (exact DVR)
theorem within_f (n a b : Int) (m : Nat) : DCalls Try.prog 47 [li n, li a, li b] (hget []) m (lb (decide (a ≤ n) && decide (n ≤ b))) (hget []) := by
  refine pureC (n := 15) (rs := [.tmp 6]) (ts := [4]) Try.func47 rfl (by decide) [] (by (exact SD)) ?_
  (repeat' (first | refine swp_seq [0, 1, 2, 6] ?_ | refine st2 ?_ | (show Fct ..; refine fctI (fun hf => ?_)) | (show SWp _ _ _ (.cond _ _ _) _ _ _ _; first | refine cB (fun hc => ?_) (fun hc => ?_) | refine cU ?_ ?_)))
  exact DVR
theorem fits_f (n : Int) (m : Nat) : DCalls Try.prog 54 [li n] (hget []) m (lb (decide (-1125899906842624 ≤ n) && decide (n ≤ 1125899906842624))) (hget []) := by
  refine pureC (n := 9) (rs := [.tmp 2]) (ts := [4]) Try.func54 rfl (by decide) [] (by (exact SD)) ?_
  (repeat' (first | refine swp_seq [0, 2] ?_ | refine st2 ?_ | (show Fct ..; refine fctI (fun hf => ?_)) | (show SWp _ _ _ (.cond _ _ _) _ _ _ _; first | refine cB (fun hc => ?_) (fun hc => ?_) | refine cU ?_ ?_)))
  exact DVR
theorem fits_a (n : Int) (m : Nat) (h1 : -1125899906842624 ≤ n) (h2 : n ≤ 1125899906842624) : DCalls Try.prog 54 [li n] (hget []) m (lb true) (hget []) := by
  have := fits_f n m
  rwa [decide_eq_true h1, decide_eq_true h2] at this
theorem wit_a (n a b : Int) (m : Nat) (h1 : a ≤ n) (h2 : n ≤ b) : DCalls Try.prog 47 [li n, li a, li b] (hget []) m (lb true) (hget []) := by
  have := within_f n a b m
  rwa [decide_eq_true h1, decide_eq_true h2] at this
set_option maxRecDepth 20000 in
set_option maxHeartbeats 4000000 in
theorem tValid_x (m : Nat) : DCalls Try.prog 48 [knotL [⟨0, 0⟩, ⟨4, 8⟩]] (hget []) m (lb true) (hget []) := by
  refine pureC (n := 57) (rs := [.tmp 2]) (ts := [4]) Try.func48 rfl (by decide) [] (by (exact SD)) ?_
  (repeat' (first | (show SWp _ _ _ (.loop _) _ _ _ _; refine swp_rounds (lwp_round ?_)) | (show roundK ..; first | refine roundK_ret ?_ | refine roundK_exit ?_ | refine roundK_normal [0, 2, 3, 4, 12, 13, 14, 15, 16, 55] (by (refine DVQ ?_) <;> rfl) ?_) | refine swp_seq [0, 2, 3, 4, 12, 13, 14, 15, 16, 55] ?_ | refine st1 ?_ | (show CallQ ..; first | refine cF ?_ | refine cQ (fun hcc => (by first | exact fits_a _ _ (by decide) (by decide))) ?_ | (refine lP ?_; refine lQ (fun hcc m => (by first | exact fits_a _ _ (by decide) (by decide))) ?_)) | (show Fct ..; refine fctI (fun hf => ?_)) | (show XCallQ ..; first | refine xcF ?_ | refine xQ (fun hcc => (by first | exact fits_a _ _ (by decide) (by decide))) ?_ | (refine xlP ?_; refine xlQ (fun hcc m => (by first | exact fits_a _ _ (by decide) (by decide))) ?_)) | (show SWp _ _ _ (.region _ _ true) _ _ _ _; refine xG mixed [] ?_) | (show SWp _ _ _ (.cond _ _ _) _ _ _ _; first | (refine cB (fun hc => ?_) (fun hc => ?_) <;> first | exact False.elim hc | exact absurd hc Bool.false_ne_true | exact absurd hc.symm Bool.false_ne_true | skip) | refine cU ?_ ?_)))
  all_goals first | rfl | (exact DVR)
set_option maxRecDepth 20000 in
set_option maxHeartbeats 4000000 in
theorem pValid_x (m : Nat) : DCalls Try.prog 33 [planD exP] (hget []) m (lb true) (hget []) := by
  refine pureC (n := 109) (rs := [.tmp 2]) (ts := [4]) Try.func33 rfl (by decide) [] (by (exact SD)) ?_
  (repeat' (first | (show SWp _ _ _ (.loop _) _ _ _ _; refine swp_rounds (lwp_round ?_)) | (show roundK ..; first | refine roundK_ret ?_ | refine roundK_exit ?_ | refine roundK_normal [0, 1, 2, 4, 5, 6, 53, 55, 56, 57, 58, 63, 66, 67, 68, 69, 89] (by (refine DVQ ?_) <;> rfl) ?_) | refine swp_seq [0, 1, 2, 4, 5, 6, 53, 55, 56, 57, 58, 63, 66, 67, 68, 69, 89] ?_ | refine st1 ?_ | (show CallQ ..; first | refine cF ?_ | refine cQ (fun hcc => (by first | exact wit_a _ _ _ _ (by decide) (by decide) | exact tValid_x _)) ?_ | (refine lP ?_; refine lQ (fun hcc m => (by first | exact wit_a _ _ _ _ (by decide) (by decide) | exact tValid_x _)) ?_)) | (show Fct ..; refine fctI (fun hf => ?_)) | (show XCallQ ..; first | refine xcF ?_ | refine xQ (fun hcc => (by first | exact wit_a _ _ _ _ (by decide) (by decide) | exact tValid_x _)) ?_ | (refine xlP ?_; refine xlQ (fun hcc m => (by first | exact wit_a _ _ _ _ (by decide) (by decide) | exact tValid_x _)) ?_)) | (show SWp _ _ _ (.region _ _ true) _ _ _ _; refine xG mixed [] ?_) | (show SWp _ _ _ (.cond _ _ _) _ _ _ _; first | (refine cB (fun hc => ?_) (fun hc => ?_) <;> first | exact False.elim hc | exact absurd hc Bool.false_ne_true | exact absurd hc.symm Bool.false_ne_true | skip) | refine cU ?_ ?_)))
  all_goals first | rfl | (exact DVR)
abbrev rA : List Int := [5, 0]
abbrev rB : List Int := [6, 0, 10, 0]
abbrev rC : List Int := [5, 1]
set_option maxRecDepth 20000 in
set_option maxHeartbeats 4000000 in
theorem find_1 (m : Nat) : DCalls Try.prog 24 [ints [5, 0], li 5] (hget []) m (.tup [li 0, lb true]) (hget []) := by
  refine pureC (n := 49) (rs := [.tmp 4, .tmp 5]) (ts := [3, 4]) Try.func24 rfl (by decide) [] (by (exact SD)) ?_
  (repeat' (first | (show SWp _ _ _ (.loop _) _ _ _ _; refine swp_rounds (lwp_round ?_)) | (show roundK ..; first | refine roundK_ret ?_ | refine roundK_exit ?_ | refine roundK_normal [0, 1, 4, 5, 6, 7, 8, 14, 25, 42] (by (refine DVQ ?_) <;> rfl) ?_) | refine swp_seq [0, 1, 4, 5, 6, 7, 8, 14, 25, 42] ?_ | refine st1 ?_ | (show CallQ ..; first | refine cF ?_ | refine cQ (fun hcc => (by fail)) ?_ | (refine lP ?_; refine lQ (fun hcc m => (by fail)) ?_)) | (show Fct ..; refine fctI (fun hf => ?_)) | (show XCallQ ..; first | refine xcF ?_ | refine xQ (fun hcc => (by fail)) ?_ | (refine xlP ?_; refine xlQ (fun hcc m => (by fail)) ?_)) | (show SWp _ _ _ (.region _ _ true) _ _ _ _; refine xG mixed [] ?_) | (show SWp _ _ _ (.cond _ _ _) _ _ _ _; first | (refine cB (fun hc => ?_) (fun hc => ?_) <;> first | exact False.elim hc | exact absurd hc Bool.false_ne_true | exact absurd hc.symm Bool.false_ne_true | skip) | refine cU ?_ ?_)))
  all_goals first | rfl | (exact DVR)
set_option maxRecDepth 20000 in
set_option maxHeartbeats 4000000 in
theorem find_2 (m : Nat) : DCalls Try.prog 24 [ints [6, 0, 10, 0], li 5] (hget []) m (.tup [li 0, lb false]) (hget []) := by
  refine pureC (n := 49) (rs := [.tmp 4, .tmp 5]) (ts := [3, 4]) Try.func24 rfl (by decide) [] (by (exact SD)) ?_
  (repeat' (first | (show SWp _ _ _ (.loop _) _ _ _ _; refine swp_rounds (lwp_round ?_)) | (show roundK ..; first | refine roundK_ret ?_ | refine roundK_exit ?_ | refine roundK_normal [0, 1, 4, 5, 6, 7, 8, 14, 25, 42] (by (refine DVQ ?_) <;> rfl) ?_) | refine swp_seq [0, 1, 4, 5, 6, 7, 8, 14, 25, 42] ?_ | refine st1 ?_ | (show CallQ ..; first | refine cF ?_ | refine cQ (fun hcc => (by fail)) ?_ | (refine lP ?_; refine lQ (fun hcc m => (by fail)) ?_)) | (show Fct ..; refine fctI (fun hf => ?_)) | (show XCallQ ..; first | refine xcF ?_ | refine xQ (fun hcc => (by fail)) ?_ | (refine xlP ?_; refine xlQ (fun hcc m => (by fail)) ?_)) | (show SWp _ _ _ (.region _ _ true) _ _ _ _; refine xG mixed [] ?_) | (show SWp _ _ _ (.cond _ _ _) _ _ _ _; first | (refine cB (fun hc => ?_) (fun hc => ?_) <;> first | exact False.elim hc | exact absurd hc Bool.false_ne_true | exact absurd hc.symm Bool.false_ne_true | skip) | refine cU ?_ ?_)))
  all_goals first | rfl | (exact DVR)
set_option maxRecDepth 20000 in
set_option maxHeartbeats 4000000 in
theorem find_3 (m : Nat) : DCalls Try.prog 24 [ints [6, 0, 10, 0], li 10] (hget []) m (.tup [li 0, lb true]) (hget []) := by
  refine pureC (n := 49) (rs := [.tmp 4, .tmp 5]) (ts := [3, 4]) Try.func24 rfl (by decide) [] (by (exact SD)) ?_
  (repeat' (first | (show SWp _ _ _ (.loop _) _ _ _ _; refine swp_rounds (lwp_round ?_)) | (show roundK ..; first | refine roundK_ret ?_ | refine roundK_exit ?_ | refine roundK_normal [0, 1, 4, 5, 6, 7, 8, 14, 25, 42] (by (refine DVQ ?_) <;> rfl) ?_) | refine swp_seq [0, 1, 4, 5, 6, 7, 8, 14, 25, 42] ?_ | refine st1 ?_ | (show CallQ ..; first | refine cF ?_ | refine cQ (fun hcc => (by fail)) ?_ | (refine lP ?_; refine lQ (fun hcc m => (by fail)) ?_)) | (show Fct ..; refine fctI (fun hf => ?_)) | (show XCallQ ..; first | refine xcF ?_ | refine xQ (fun hcc => (by fail)) ?_ | (refine xlP ?_; refine xlQ (fun hcc m => (by fail)) ?_)) | (show SWp _ _ _ (.region _ _ true) _ _ _ _; refine xG mixed [] ?_) | (show SWp _ _ _ (.cond _ _ _) _ _ _ _; first | (refine cB (fun hc => ?_) (fun hc => ?_) <;> first | exact False.elim hc | exact absurd hc Bool.false_ne_true | exact absurd hc.symm Bool.false_ne_true | skip) | refine cU ?_ ?_)))
  all_goals first | rfl | (exact DVR)
set_option maxRecDepth 20000 in
set_option maxHeartbeats 4000000 in
theorem find_4 (m : Nat) : DCalls Try.prog 24 [ints [6, 0, 10, 0], li 6] (hget []) m (.tup [li 0, lb true]) (hget []) := by
  refine pureC (n := 49) (rs := [.tmp 4, .tmp 5]) (ts := [3, 4]) Try.func24 rfl (by decide) [] (by (exact SD)) ?_
  (repeat' (first | (show SWp _ _ _ (.loop _) _ _ _ _; refine swp_rounds (lwp_round ?_)) | (show roundK ..; first | refine roundK_ret ?_ | refine roundK_exit ?_ | refine roundK_normal [0, 1, 4, 5, 6, 7, 8, 14, 25, 42] (by (refine DVQ ?_) <;> rfl) ?_) | refine swp_seq [0, 1, 4, 5, 6, 7, 8, 14, 25, 42] ?_ | refine st1 ?_ | (show CallQ ..; first | refine cF ?_ | refine cQ (fun hcc => (by fail)) ?_ | (refine lP ?_; refine lQ (fun hcc m => (by fail)) ?_)) | (show Fct ..; refine fctI (fun hf => ?_)) | (show XCallQ ..; first | refine xcF ?_ | refine xQ (fun hcc => (by fail)) ?_ | (refine xlP ?_; refine xlQ (fun hcc m => (by fail)) ?_)) | (show SWp _ _ _ (.region _ _ true) _ _ _ _; refine xG mixed [] ?_) | (show SWp _ _ _ (.cond _ _ _) _ _ _ _; first | (refine cB (fun hc => ?_) (fun hc => ?_) <;> first | exact False.elim hc | exact absurd hc Bool.false_ne_true | exact absurd hc.symm Bool.false_ne_true | skip) | refine cU ?_ ?_)))
  all_goals first | rfl | (exact DVR)
set_option maxRecDepth 20000 in
set_option maxHeartbeats 4000000 in
theorem find_5 (m : Nat) : DCalls Try.prog 24 [ints [5, 1], li 5] (hget []) m (.tup [li 1, lb true]) (hget []) := by
  refine pureC (n := 49) (rs := [.tmp 4, .tmp 5]) (ts := [3, 4]) Try.func24 rfl (by decide) [] (by (exact SD)) ?_
  (repeat' (first | (show SWp _ _ _ (.loop _) _ _ _ _; refine swp_rounds (lwp_round ?_)) | (show roundK ..; first | refine roundK_ret ?_ | refine roundK_exit ?_ | refine roundK_normal [0, 1, 4, 5, 6, 7, 8, 14, 25, 42] (by (refine DVQ ?_) <;> rfl) ?_) | refine swp_seq [0, 1, 4, 5, 6, 7, 8, 14, 25, 42] ?_ | refine st1 ?_ | (show CallQ ..; first | refine cF ?_ | refine cQ (fun hcc => (by fail)) ?_ | (refine lP ?_; refine lQ (fun hcc m => (by fail)) ?_)) | (show Fct ..; refine fctI (fun hf => ?_)) | (show XCallQ ..; first | refine xcF ?_ | refine xQ (fun hcc => (by fail)) ?_ | (refine xlP ?_; refine xlQ (fun hcc m => (by fail)) ?_)) | (show SWp _ _ _ (.region _ _ true) _ _ _ _; refine xG mixed [] ?_) | (show SWp _ _ _ (.cond _ _ _) _ _ _ _; first | (refine cB (fun hc => ?_) (fun hc => ?_) <;> first | exact False.elim hc | exact absurd hc Bool.false_ne_true | exact absurd hc.symm Bool.false_ne_true | skip) | refine cU ?_ ?_)))
  all_goals first | rfl | (exact DVR)
def cmpI (a x : Int) : Int := if a < x then -1 else if x < a then 1 else 0
theorem cmp_f (k : Knot) (x : Int) (m : Nat) : DCalls Try.prog 56 [knotD k, li x] (hget []) m (li (cmpI k.x x)) (hget []) := by
  unfold cmpI
  by_cases h1 : k.x < x
  · (have := Nonempty.intro h1)
    rw [if_pos h1]
    refine pureC (n := 15) (rs := [.tmp 4]) (ts := [3]) Try.func56 rfl (by decide) [] (by (exact SD)) ?_
    (repeat' (first | refine swp_seq [0, 1, 2, 4, 5, 10] ?_ | refine st2 ?_ | (show Fct ..; refine fctI (fun hf => ?_)) | (show SWp _ _ _ (.cond _ _ _) _ _ _ _; first | refine cB (fun hc => ?_) (fun hc => ?_) | refine cU ?_ ?_)))
    exact DVR
  · (have := Nonempty.intro h1)
    rw [if_neg h1]
    by_cases h2 : x < k.x
    · (have := Nonempty.intro h2)
      rw [if_pos h2]
      refine pureC (n := 15) (rs := [.tmp 4]) (ts := [3]) Try.func56 rfl (by decide) [] (by (exact SD)) ?_
      (repeat' (first | refine swp_seq [0, 1, 2, 4, 5, 10] ?_ | refine st2 ?_ | (show Fct ..; refine fctI (fun hf => ?_)) | (show SWp _ _ _ (.cond _ _ _) _ _ _ _; first | refine cB (fun hc => ?_) (fun hc => ?_) | refine cU ?_ ?_)))
      exact DVR
    · (have := Nonempty.intro h2)
      rw [if_neg h2]
      refine pureC (n := 15) (rs := [.tmp 4]) (ts := [3]) Try.func56 rfl (by decide) [] (by (exact SD)) ?_
      (repeat' (first | refine swp_seq [0, 1, 2, 4, 5, 10] ?_ | refine st2 ?_ | (show Fct ..; refine fctI (fun hf => ?_)) | (show SWp _ _ _ (.cond _ _ _) _ _ _ _; first | refine cB (fun hc => ?_) (fun hc => ?_) | refine cU ?_ ?_)))
      exact DVR
theorem cmp_00 (m : Nat) : DCalls Try.prog 56 [knotD ⟨0, 0⟩, li 0] (hget []) m (li 0) (hget []) := cmp_f ⟨0, 0⟩ 0 m
theorem cmp_40 (m : Nat) : DCalls Try.prog 56 [knotD ⟨4, 8⟩, li 0] (hget []) m (li 1) (hget []) := cmp_f ⟨4, 8⟩ 0 m
theorem cmp_04 (m : Nat) : DCalls Try.prog 56 [knotD ⟨0, 0⟩, li 4] (hget []) m (li (-1)) (hget []) := cmp_f ⟨0, 0⟩ 4 m
theorem cmp_44 (m : Nat) : DCalls Try.prog 56 [knotD ⟨4, 8⟩, li 4] (hget []) m (li 0) (hget []) := cmp_f ⟨4, 8⟩ 4 m
theorem half_2 : IntKind.i64.wrap ((IntKind.u64.wrap 2).fdiv (2 ^ min 1 IntKind.u64.bits)) = 1 := by decide
theorem half_1 : IntKind.i64.wrap ((IntKind.u64.wrap 1).fdiv (2 ^ min 1 IntKind.u64.bits)) = 0 := by decide
attribute [push_cast] half_2 half_1
set_option maxRecDepth 20000 in
set_option maxHeartbeats 4000000 in
theorem bin_0 (m : Nat) : DCalls Try.prog 55 [knotL [⟨0, 0⟩, ⟨4, 8⟩], li 0, .clo 56 []] (hget []) m (.tup [li 0, lb true]) (hget []) := by
  refine pureC (n := 49) (rs := [.tmp 6, .tmp 7]) (ts := [3, 4]) Try.func55 rfl (by decide) [] (by (exact SD)) ?_
  (repeat' (first | (show SWp _ _ _ (.loop _) _ _ _ _; refine swp_rounds (lwp_round ?_)) | (show roundK ..; first | refine roundK_ret ?_ | refine roundK_exit ?_ | refine roundK_normal [0, 1, 2, 6, 7, 8, 9, 10, 11, 17, 31] (by (refine DVQ ?_) <;> rfl) ?_) | refine swp_seq [0, 1, 2, 6, 7, 8, 9, 10, 11, 17, 31] ?_ | refine st1 ?_ | (show CallQ ..; first | refine cF ?_ | refine cQ (fun hcc => (by first | exact cmp_00 _ | exact cmp_40 _)) ?_ | (refine lP ?_; refine lQ (fun hcc m => (by first | exact cmp_00 _ | exact cmp_40 _)) ?_)) | (show Fct ..; refine fctI (fun hf => ?_)) | (show XCallQ ..; first | refine xcF ?_ | refine xQ (fun hcc => (by first | exact cmp_00 _ | exact cmp_40 _)) ?_ | (refine xlP ?_; refine xlQ (fun hcc m => (by first | exact cmp_00 _ | exact cmp_40 _)) ?_)) | (show SWp _ _ _ (.region _ _ true) _ _ _ _; refine xG mixed [] ?_) | (show SWp _ _ _ (.cond _ _ _) _ _ _ _; first | (refine cB (fun hc => ?_) (fun hc => ?_) <;> first | exact False.elim hc | exact absurd hc Bool.false_ne_true | exact absurd hc.symm Bool.false_ne_true | skip) | refine cU ?_ ?_)))
  all_goals first | rfl | (exact DVR)
set_option maxRecDepth 20000 in
set_option maxHeartbeats 4000000 in
theorem bin_4 (m : Nat) : DCalls Try.prog 55 [knotL [⟨0, 0⟩, ⟨4, 8⟩], li 4, .clo 56 []] (hget []) m (.tup [li 1, lb true]) (hget []) := by
  refine pureC (n := 49) (rs := [.tmp 6, .tmp 7]) (ts := [3, 4]) Try.func55 rfl (by decide) [] (by (exact SD)) ?_
  (repeat' (first | (show SWp _ _ _ (.loop _) _ _ _ _; refine swp_rounds (lwp_round ?_)) | (show roundK ..; first | refine roundK_ret ?_ | refine roundK_exit ?_ | refine roundK_normal [0, 1, 2, 6, 7, 8, 9, 10, 11, 17, 31] (by (refine DVQ ?_) <;> rfl) ?_) | refine swp_seq [0, 1, 2, 6, 7, 8, 9, 10, 11, 17, 31] ?_ | refine st1 ?_ | (show CallQ ..; first | refine cF ?_ | refine cQ (fun hcc => (by first | exact cmp_04 _ | exact cmp_44 _)) ?_ | (refine lP ?_; refine lQ (fun hcc m => (by first | exact cmp_04 _ | exact cmp_44 _)) ?_)) | (show Fct ..; refine fctI (fun hf => ?_)) | (show XCallQ ..; first | refine xcF ?_ | refine xQ (fun hcc => (by first | exact cmp_04 _ | exact cmp_44 _)) ?_ | (refine xlP ?_; refine xlQ (fun hcc m => (by first | exact cmp_04 _ | exact cmp_44 _)) ?_)) | (show SWp _ _ _ (.region _ _ true) _ _ _ _; refine xG mixed [] ?_) | (show SWp _ _ _ (.cond _ _ _) _ _ _ _; first | (refine cB (fun hc => ?_) (fun hc => ?_) <;> first | exact False.elim hc | exact absurd hc Bool.false_ne_true | exact absurd hc.symm Bool.false_ne_true | skip) | refine cU ?_ ?_)))
  all_goals first | rfl | (exact DVR)
set_option maxRecDepth 20000 in
set_option maxHeartbeats 4000000 in
theorem piece_0 (m : Nat) : DCalls Try.prog 49 [knotL [⟨0, 0⟩, ⟨4, 8⟩], li 0] (hget []) m (.tup [li 0, li 0, li 1]) (hget []) := by
  refine pureC (n := 110) (rs := [.tmp 4, .tmp 5, .tmp 6]) (ts := [3, 3, 3]) Try.func49 rfl (by decide) [] (by (exact SD)) ?_
  (repeat' (first | (show SWp _ _ _ (.loop _) _ _ _ _; refine swp_rounds (lwp_round ?_)) | (show roundK ..; first | refine roundK_ret ?_ | refine roundK_exit ?_ | refine roundK_normal [0, 1, 4, 5, 6, 7, 8, 9, 10, 11, 12, 13, 16, 18, 20, 28, 39] (by (refine DVQ ?_) <;> rfl) ?_) | refine swp_seq [0, 1, 4, 5, 6, 7, 8, 9, 10, 11, 12, 13, 16, 18, 20, 28, 39] ?_ | refine st1 ?_ | (show CallQ ..; first | refine cF ?_ | refine cQ (fun hcc => (by first | exact bin_0 _)) ?_ | (refine lP ?_; refine lQ (fun hcc m => (by first | exact bin_0 _)) ?_)) | (show Fct ..; refine fctI (fun hf => ?_)) | (show XCallQ ..; first | refine xcF ?_ | refine xQ (fun hcc => (by first | exact bin_0 _)) ?_ | (refine xlP ?_; refine xlQ (fun hcc m => (by first | exact bin_0 _)) ?_)) | (show SWp _ _ _ (.region _ _ true) _ _ _ _; refine xG mixed [] ?_) | (show SWp _ _ _ (.cond _ _ _) _ _ _ _; first | (refine cB (fun hc => ?_) (fun hc => ?_) <;> first | exact False.elim hc | exact absurd hc Bool.false_ne_true | exact absurd hc.symm Bool.false_ne_true | skip) | refine cU ?_ ?_)))
  all_goals first | rfl | (exact DVR)
set_option maxRecDepth 20000 in
set_option maxHeartbeats 4000000 in
theorem piece_4 (m : Nat) : DCalls Try.prog 49 [knotL [⟨0, 0⟩, ⟨4, 8⟩], li 4] (hget []) m (.tup [li 8, li 0, li 1]) (hget []) := by
  refine pureC (n := 110) (rs := [.tmp 4, .tmp 5, .tmp 6]) (ts := [3, 3, 3]) Try.func49 rfl (by decide) [] (by (exact SD)) ?_
  (repeat' (first | (show SWp _ _ _ (.loop _) _ _ _ _; refine swp_rounds (lwp_round ?_)) | (show roundK ..; first | refine roundK_ret ?_ | refine roundK_exit ?_ | refine roundK_normal [0, 1, 4, 5, 6, 7, 8, 9, 10, 11, 12, 13, 16, 18, 20, 28, 39] (by (refine DVQ ?_) <;> rfl) ?_) | refine swp_seq [0, 1, 4, 5, 6, 7, 8, 9, 10, 11, 12, 13, 16, 18, 20, 28, 39] ?_ | refine st1 ?_ | (show CallQ ..; first | refine cF ?_ | refine cQ (fun hcc => (by first | exact bin_4 _)) ?_ | (refine lP ?_; refine lQ (fun hcc m => (by first | exact bin_4 _)) ?_)) | (show Fct ..; refine fctI (fun hf => ?_)) | (show XCallQ ..; first | refine xcF ?_ | refine xQ (fun hcc => (by first | exact bin_4 _)) ?_ | (refine xlP ?_; refine xlQ (fun hcc m => (by first | exact bin_4 _)) ?_)) | (show SWp _ _ _ (.region _ _ true) _ _ _ _; refine xG mixed [] ?_) | (show SWp _ _ _ (.cond _ _ _) _ _ _ _; first | (refine cB (fun hc => ?_) (fun hc => ?_) <;> first | exact False.elim hc | exact absurd hc Bool.false_ne_true | exact absurd hc.symm Bool.false_ne_true | skip) | refine cU ?_ ?_)))
  all_goals first | rfl | (exact DVR)
theorem floor_0 (m : Nat) : DCalls Try.prog 38 [knotL [⟨0, 0⟩, ⟨4, 8⟩], li 0] (hget []) m (.tup [li 0, li 0]) (hget []) := by
  refine pureC (n := 20) (rs := [.tmp 4, .tmp 5]) (ts := [3, 30]) Try.func38 rfl (by decide) [] (by (exact SD)) ?_
  (repeat' (first | (show SWp _ _ _ (.loop _) _ _ _ _; refine swp_rounds (lwp_round ?_)) | (show roundK ..; first | refine roundK_ret ?_ | refine roundK_exit ?_ | refine roundK_normal [0, 1, 4, 5, 6, 11] (by (refine DVQ ?_) <;> rfl) ?_) | refine swp_seq [0, 1, 4, 5, 6, 11] ?_ | refine st1 ?_ | (show CallQ ..; first | refine cF ?_ | refine cQ (fun hcc => (by first | exact tValid_x _ | exact piece_0 _)) ?_ | (refine lP ?_; refine lQ (fun hcc m => (by first | exact tValid_x _ | exact piece_0 _)) ?_)) | (show Fct ..; refine fctI (fun hf => ?_)) | (show XCallQ ..; first | refine xcF ?_ | refine xQ (fun hcc => (by first | exact tValid_x _ | exact piece_0 _)) ?_ | (refine xlP ?_; refine xlQ (fun hcc m => (by first | exact tValid_x _ | exact piece_0 _)) ?_)) | (show SWp _ _ _ (.region _ _ true) _ _ _ _; refine xG mixed [] ?_) | (show SWp _ _ _ (.cond _ _ _) _ _ _ _; first | (refine cB (fun hc => ?_) (fun hc => ?_) <;> first | exact False.elim hc | exact absurd hc Bool.false_ne_true | exact absurd hc.symm Bool.false_ne_true | skip) | refine cU ?_ ?_)))
  all_goals first | rfl | (exact DVR)
theorem floor_4 (m : Nat) : DCalls Try.prog 38 [knotL [⟨0, 0⟩, ⟨4, 8⟩], li 4] (hget []) m (.tup [li 8, li 0]) (hget []) := by
  refine pureC (n := 20) (rs := [.tmp 4, .tmp 5]) (ts := [3, 30]) Try.func38 rfl (by decide) [] (by (exact SD)) ?_
  (repeat' (first | (show SWp _ _ _ (.loop _) _ _ _ _; refine swp_rounds (lwp_round ?_)) | (show roundK ..; first | refine roundK_ret ?_ | refine roundK_exit ?_ | refine roundK_normal [0, 1, 4, 5, 6, 11] (by (refine DVQ ?_) <;> rfl) ?_) | refine swp_seq [0, 1, 4, 5, 6, 11] ?_ | refine st1 ?_ | (show CallQ ..; first | refine cF ?_ | refine cQ (fun hcc => (by first | exact tValid_x _ | exact piece_4 _)) ?_ | (refine lP ?_; refine lQ (fun hcc m => (by first | exact tValid_x _ | exact piece_4 _)) ?_)) | (show Fct ..; refine fctI (fun hf => ?_)) | (show XCallQ ..; first | refine xcF ?_ | refine xQ (fun hcc => (by first | exact tValid_x _ | exact piece_4 _)) ?_ | (refine xlP ?_; refine xlQ (fun hcc m => (by first | exact tValid_x _ | exact piece_4 _)) ?_)) | (show SWp _ _ _ (.region _ _ true) _ _ _ _; refine xG mixed [] ?_) | (show SWp _ _ _ (.cond _ _ _) _ _ _ _; first | (refine cB (fun hc => ?_) (fun hc => ?_) <;> first | exact False.elim hc | exact absurd hc Bool.false_ne_true | exact absurd hc.symm Bool.false_ne_true | skip) | refine cU ?_ ?_)))
  all_goals first | rfl | (exact DVR)
set_option maxRecDepth 20000 in
set_option maxHeartbeats 4000000 in
theorem shaped_1 (m : Nat) : DCalls Try.prog 35 [planD exP, intss [[5, 0], [6, 0, 10, 0]]] (hget []) m (lb true) (hget []) := by
  refine pureC (n := 74) (rs := [.tmp 4]) (ts := [4]) Try.func35 rfl (by decide) [] (by (exact SD)) ?_
  (repeat' (first | (show SWp _ _ _ (.loop _) _ _ _ _; refine swp_rounds (lwp_round ?_)) | (show roundK ..; first | refine roundK_ret ?_ | refine roundK_exit ?_ | refine roundK_normal [0, 1, 2, 4, 6, 7, 8, 9, 16, 17, 18, 19, 20, 26, 30, 72] (by (refine DVQ ?_) <;> rfl) ?_) | refine swp_seq [0, 1, 2, 4, 6, 7, 8, 9, 16, 17, 18, 19, 20, 26, 30, 72] ?_ | refine st1 ?_ | (show CallQ ..; first | refine cF ?_ | refine cQ (fun hcc => (by fail)) ?_ | (refine lP ?_; refine lQ (fun hcc m => (by fail)) ?_)) | (show Fct ..; refine fctI (fun hf => ?_)) | (show XCallQ ..; first | refine xcF ?_ | refine xQ (fun hcc => (by fail)) ?_ | (refine xlP ?_; refine xlQ (fun hcc m => (by fail)) ?_)) | (show SWp _ _ _ (.region _ _ true) _ _ _ _; refine xG mixed [] ?_) | (show SWp _ _ _ (.cond _ _ _) _ _ _ _; first | (refine cB (fun hc => ?_) (fun hc => ?_) <;> first | exact False.elim hc | exact absurd hc Bool.false_ne_true | exact absurd hc.symm Bool.false_ne_true | skip) | refine cU ?_ ?_)))
  all_goals first | rfl | (exact DVR)
set_option maxRecDepth 20000 in
set_option maxHeartbeats 4000000 in
theorem shaped_2 (m : Nat) : DCalls Try.prog 35 [planD exP, intss [[5, 1], [6, 0, 10, 0]]] (hget []) m (lb true) (hget []) := by
  refine pureC (n := 74) (rs := [.tmp 4]) (ts := [4]) Try.func35 rfl (by decide) [] (by (exact SD)) ?_
  (repeat' (first | (show SWp _ _ _ (.loop _) _ _ _ _; refine swp_rounds (lwp_round ?_)) | (show roundK ..; first | refine roundK_ret ?_ | refine roundK_exit ?_ | refine roundK_normal [0, 1, 2, 4, 6, 7, 8, 9, 16, 17, 18, 19, 20, 26, 30, 72] (by (refine DVQ ?_) <;> rfl) ?_) | refine swp_seq [0, 1, 2, 4, 6, 7, 8, 9, 16, 17, 18, 19, 20, 26, 30, 72] ?_ | refine st1 ?_ | (show CallQ ..; first | refine cF ?_ | refine cQ (fun hcc => (by fail)) ?_ | (refine lP ?_; refine lQ (fun hcc m => (by fail)) ?_)) | (show Fct ..; refine fctI (fun hf => ?_)) | (show XCallQ ..; first | refine xcF ?_ | refine xQ (fun hcc => (by fail)) ?_ | (refine xlP ?_; refine xlQ (fun hcc m => (by fail)) ?_)) | (show SWp _ _ _ (.region _ _ true) _ _ _ _; refine xG mixed [] ?_) | (show SWp _ _ _ (.cond _ _ _) _ _ _ _; first | (refine cB (fun hc => ?_) (fun hc => ?_) <;> first | exact False.elim hc | exact absurd hc Bool.false_ne_true | exact absurd hc.symm Bool.false_ne_true | skip) | refine cU ?_ ?_)))
  all_goals first | rfl | (exact DVR)
abbrev vA : List (List Int) := [[5, 0], [6, 0, 10, 0]]
abbrev vC : List (List Int) := [[5, 1], [6, 0, 10, 0]]
abbrev hH (v : List (List Int)) (i x : Int) : LH := [(8, .blk 29 [intss v]), (16, .blk 3 [li i]), (320, .blk 3 [li x])]
abbrev hF : DV := .clo 37 [.ptr 8 0, .ptr 16 0, .ptr 320 0]
set_option maxRecDepth 20000 in
theorem h1_1 (m : Nat) : DCalls Try.prog 37 [li 10, li 0, .ptr 8 0, .ptr 16 0, .ptr 320 0] (hget (hH vA 0 0)) m (lb true) (hget (hH vA 0 0)) := by
  refine contract (n := 36) (rs := [.tmp 7]) (ts := [4]) Try.func37 rfl (by decide) 321 321 [] [] [] (lb true) (hH vA 0 0) (by (exact SD)) (by (exact SD)) ?_
  (repeat' (first | (show SWp _ _ _ (.loop _) _ _ _ _; refine swp_rounds (lwp_round ?_)) | (show roundK ..; first | refine roundK_ret ?_ | refine roundK_exit ?_ | refine roundK_normal [0, 1, 2, 3, 4, 7, 8, 9] (by (refine DVQ ?_) <;> rfl) ?_) | refine swp_seq [0, 1, 2, 3, 4, 7, 8, 9] ?_ | refine st1 ?_ | (show CallQ ..; first | refine cF ?_ | refine cQ (fun hcc => (by first | exact find_3 _)) ?_ | (refine lP ?_; refine lQ (fun hcc m => (by first | exact find_3 _)) ?_)) | (show Fct ..; refine fctI (fun hf => ?_)) | (show XCallQ ..; first | refine xcF ?_ | refine xQ (fun hcc => (by first | exact find_3 _)) ?_ | (refine xlP ?_; refine xlQ (fun hcc m => (by first | exact find_3 _)) ?_)) | (show SWp _ _ _ (.region _ _ true) _ _ _ _; refine xG mixed [] ?_) | (show SWp _ _ _ (.cond _ _ _) _ _ _ _; first | (refine cB (fun hc => ?_) (fun hc => ?_) <;> first | exact False.elim hc | exact absurd hc Bool.false_ne_true | exact absurd hc.symm Bool.false_ne_true | skip) | refine cU ?_ ?_)))
  all_goals first | rfl | (exact DVR) | (exact DVS)
set_option maxRecDepth 20000 in
theorem h1_2 (m : Nat) : DCalls Try.prog 37 [li 6, li 8, .ptr 8 0, .ptr 16 0, .ptr 320 0] (hget (hH vA 0 0)) m (lb true) (hget (hH vA 0 0)) := by
  refine contract (n := 36) (rs := [.tmp 7]) (ts := [4]) Try.func37 rfl (by decide) 321 321 [] [] [] (lb true) (hH vA 0 0) (by (exact SD)) (by (exact SD)) ?_
  (repeat' (first | (show SWp _ _ _ (.loop _) _ _ _ _; refine swp_rounds (lwp_round ?_)) | (show roundK ..; first | refine roundK_ret ?_ | refine roundK_exit ?_ | refine roundK_normal [0, 1, 2, 3, 4, 7, 8, 9] (by (refine DVQ ?_) <;> rfl) ?_) | refine swp_seq [0, 1, 2, 3, 4, 7, 8, 9] ?_ | refine st1 ?_ | (show CallQ ..; first | refine cF ?_ | refine cQ (fun hcc => (by first | exact find_4 _)) ?_ | (refine lP ?_; refine lQ (fun hcc m => (by first | exact find_4 _)) ?_)) | (show Fct ..; refine fctI (fun hf => ?_)) | (show XCallQ ..; first | refine xcF ?_ | refine xQ (fun hcc => (by first | exact find_4 _)) ?_ | (refine xlP ?_; refine xlQ (fun hcc m => (by first | exact find_4 _)) ?_)) | (show SWp _ _ _ (.region _ _ true) _ _ _ _; refine xG mixed [] ?_) | (show SWp _ _ _ (.cond _ _ _) _ _ _ _; first | (refine cB (fun hc => ?_) (fun hc => ?_) <;> first | exact False.elim hc | exact absurd hc Bool.false_ne_true | exact absurd hc.symm Bool.false_ne_true | skip) | refine cU ?_ ?_)))
  all_goals first | rfl | (exact DVR) | (exact DVS)
set_option maxRecDepth 20000 in
theorem h1_3 (m : Nat) : DCalls Try.prog 37 [li 10, li 0, .ptr 8 0, .ptr 16 0, .ptr 320 0] (hget (hH vC 0 1)) m (lb false) (hget (hH vC 0 1)) := by
  refine contract (n := 36) (rs := [.tmp 7]) (ts := [4]) Try.func37 rfl (by decide) 321 321 [] [] [] (lb false) (hH vC 0 1) (by (exact SD)) (by (exact SD)) ?_
  (repeat' (first | (show SWp _ _ _ (.loop _) _ _ _ _; refine swp_rounds (lwp_round ?_)) | (show roundK ..; first | refine roundK_ret ?_ | refine roundK_exit ?_ | refine roundK_normal [0, 1, 2, 3, 4, 7, 8, 9] (by (refine DVQ ?_) <;> rfl) ?_) | refine swp_seq [0, 1, 2, 3, 4, 7, 8, 9] ?_ | refine st1 ?_ | (show CallQ ..; first | refine cF ?_ | refine cQ (fun hcc => (by first | exact find_3 _)) ?_ | (refine lP ?_; refine lQ (fun hcc m => (by first | exact find_3 _)) ?_)) | (show Fct ..; refine fctI (fun hf => ?_)) | (show XCallQ ..; first | refine xcF ?_ | refine xQ (fun hcc => (by first | exact find_3 _)) ?_ | (refine xlP ?_; refine xlQ (fun hcc m => (by first | exact find_3 _)) ?_)) | (show SWp _ _ _ (.region _ _ true) _ _ _ _; refine xG mixed [] ?_) | (show SWp _ _ _ (.cond _ _ _) _ _ _ _; first | (refine cB (fun hc => ?_) (fun hc => ?_) <;> first | exact False.elim hc | exact absurd hc Bool.false_ne_true | exact absurd hc.symm Bool.false_ne_true | skip) | refine cU ?_ ?_)))
  all_goals first | rfl | (exact DVR) | (exact DVS)
set_option maxRecDepth 20000 in
set_option maxHeartbeats 4000000 in
theorem steps_1 (m : Nat) : DCalls Try.prog 36 [planD exP, li 0, li 5, hF] (hget (hH vA 0 0)) m (lb true) (hget (hH vA 0 0)) := by
  refine contract (n := 61) (rs := [.tmp 8]) (ts := [4]) Try.func36 rfl (by decide) 321 321 [] [] [] (lb true) (hH vA 0 0) (by (exact SD)) (by (exact SD)) ?_
  (repeat' (first | (show SWp _ _ _ (.loop _) _ _ _ _; refine swp_rounds (lwp_round ?_)) | (show roundK ..; first | refine roundK_ret ?_ | refine roundK_exit ?_ | refine roundK_normal [0, 1, 2, 3, 4, 8, 10, 11, 12, 13, 14, 16, 17, 18, 19, 34, 43, 59] (by (refine DVQ ?_) <;> rfl) ?_) | refine swp_seq [0, 1, 2, 3, 4, 8, 10, 11, 12, 13, 14, 16, 17, 18, 19, 34, 43, 59] ?_ | refine st1 ?_ | (show CallQ ..; first | refine cF ?_ | refine cQ (fun hcc => (by first | exact floor_0 _ | exact floor_4 _ | exact h1_1 _ | exact h1_2 _)) ?_ | (refine lP ?_; refine lQ (fun hcc m => (by first | exact floor_0 _ | exact floor_4 _ | exact h1_1 _ | exact h1_2 _)) ?_)) | (show Fct ..; refine fctI (fun hf => ?_)) | (show XCallQ ..; first | refine xcF ?_ | refine xQ (fun hcc => (by first | exact floor_0 _ | exact floor_4 _ | exact h1_1 _ | exact h1_2 _)) ?_ | (refine xlP ?_; refine xlQ (fun hcc m => (by first | exact floor_0 _ | exact floor_4 _ | exact h1_1 _ | exact h1_2 _)) ?_)) | (show SWp _ _ _ (.region _ _ true) _ _ _ _; refine xG mixed [] ?_) | (show SWp _ _ _ (.cond _ _ _) _ _ _ _; first | (refine cB (fun hc => ?_) (fun hc => ?_) <;> first | exact False.elim hc | exact absurd hc Bool.false_ne_true | exact absurd hc.symm Bool.false_ne_true | skip) | refine cU ?_ ?_)))
  all_goals first | rfl | (exact DVR) | (exact DVS)
set_option maxRecDepth 20000 in
set_option maxHeartbeats 4000000 in
theorem steps_3 (m : Nat) : DCalls Try.prog 36 [planD exP, li 0, li 5, hF] (hget (hH vC 0 1)) m (lb false) (hget (hH vC 0 1)) := by
  refine contract (n := 61) (rs := [.tmp 8]) (ts := [4]) Try.func36 rfl (by decide) 321 321 [] [] [] (lb false) (hH vC 0 1) (by (exact SD)) (by (exact SD)) ?_
  (repeat' (first | (show SWp _ _ _ (.loop _) _ _ _ _; refine swp_rounds (lwp_round ?_)) | (show roundK ..; first | refine roundK_ret ?_ | refine roundK_exit ?_ | refine roundK_normal [0, 1, 2, 3, 4, 8, 10, 11, 12, 13, 14, 16, 17, 18, 19, 34, 43, 59] (by (refine DVQ ?_) <;> rfl) ?_) | refine swp_seq [0, 1, 2, 3, 4, 8, 10, 11, 12, 13, 14, 16, 17, 18, 19, 34, 43, 59] ?_ | refine st1 ?_ | (show CallQ ..; first | refine cF ?_ | refine cQ (fun hcc => (by first | exact floor_0 _ | exact floor_4 _ | exact h1_3 _)) ?_ | (refine lP ?_; refine lQ (fun hcc m => (by first | exact floor_0 _ | exact floor_4 _ | exact h1_3 _)) ?_)) | (show Fct ..; refine fctI (fun hf => ?_)) | (show XCallQ ..; first | refine xcF ?_ | refine xQ (fun hcc => (by first | exact floor_0 _ | exact floor_4 _ | exact h1_3 _)) ?_ | (refine xlP ?_; refine xlQ (fun hcc m => (by first | exact floor_0 _ | exact floor_4 _ | exact h1_3 _)) ?_)) | (show SWp _ _ _ (.region _ _ true) _ _ _ _; refine xG mixed [] ?_) | (show SWp _ _ _ (.cond _ _ _) _ _ _ _; first | (refine cB (fun hc => ?_) (fun hc => ?_) <;> first | exact False.elim hc | exact absurd hc Bool.false_ne_true | exact absurd hc.symm Bool.false_ne_true | skip) | refine cU ?_ ?_)))
  all_goals first | rfl | (exact DVR) | (exact DVS)
set_option maxRecDepth 20000 in
set_option maxHeartbeats 4000000 in
theorem holds_1 (m : Nat) : DCalls Try.prog 18 [planD exP, intss vA, li 0] (hget []) m (lb true) (hget []) := by
  refine pureC (n := 58) (rs := [.tmp 6]) (ts := [4]) Try.func18 rfl (by decide) [] (by (exact SD)) ?_
  (repeat' (first | (show SWp _ _ _ (.loop _) _ _ _ _; refine swp_rounds (lwp_round ?_)) | (show roundK ..; first | refine roundK_ret ?_ | refine roundK_exit ?_ | refine roundK_normal [0, 1, 2, 3, 4, 5, 6, 7, 9, 10, 11, 12, 29, 38, 46, 48, 57] (by (refine DVQ ?_) <;> rfl) ?_) | refine swp_seq [0, 1, 2, 3, 4, 5, 6, 7, 9, 10, 11, 12, 29, 38, 46, 48, 57] ?_ | refine st1 ?_ | (show CallQ ..; first | refine cF ?_ | refine cQ (fun hcc => (by first | exact find_1 _ | exact steps_1 _)) ?_ | (refine lP ?_; refine lQ (fun hcc m => (by first | exact find_1 _ | exact steps_1 _)) ?_)) | (show Fct ..; refine fctI (fun hf => ?_)) | (show XCallQ ..; first | refine xcF ?_ | refine xQ (fun hcc => (by first | exact find_1 _ | exact steps_1 _)) ?_ | (refine xlP ?_; refine xlQ (fun hcc m => (by first | exact find_1 _ | exact steps_1 _)) ?_)) | (show SWp _ _ _ (.region _ _ true) _ _ _ _; refine xG mixed [8, 16, 320] ?_) | (show SWp _ _ _ (.cond _ _ _) _ _ _ _; first | (refine cB (fun hc => ?_) (fun hc => ?_) <;> first | exact False.elim hc | exact absurd hc Bool.false_ne_true | exact absurd hc.symm Bool.false_ne_true | skip) | refine cU ?_ ?_)))
  all_goals first | rfl | (exact DVR)
set_option maxRecDepth 20000 in
set_option maxHeartbeats 4000000 in
theorem holds_2 (m : Nat) : DCalls Try.prog 18 [planD exP, intss vA, li 1] (hget []) m (lb true) (hget []) := by
  refine pureC (n := 58) (rs := [.tmp 6]) (ts := [4]) Try.func18 rfl (by decide) [] (by (exact SD)) ?_
  (repeat' (first | (show SWp _ _ _ (.loop _) _ _ _ _; refine swp_rounds (lwp_round ?_)) | (show roundK ..; first | refine roundK_ret ?_ | refine roundK_exit ?_ | refine roundK_normal [0, 1, 2, 3, 4, 5, 6, 7, 9, 10, 11, 12, 29, 38, 46, 48, 57] (by (refine DVQ ?_) <;> rfl) ?_) | refine swp_seq [0, 1, 2, 3, 4, 5, 6, 7, 9, 10, 11, 12, 29, 38, 46, 48, 57] ?_ | refine st1 ?_ | (show CallQ ..; first | refine cF ?_ | refine cQ (fun hcc => (by first | exact find_2 _)) ?_ | (refine lP ?_; refine lQ (fun hcc m => (by first | exact find_2 _)) ?_)) | (show Fct ..; refine fctI (fun hf => ?_)) | (show XCallQ ..; first | refine xcF ?_ | refine xQ (fun hcc => (by first | exact find_2 _)) ?_ | (refine xlP ?_; refine xlQ (fun hcc m => (by first | exact find_2 _)) ?_)) | (show SWp _ _ _ (.region _ _ true) _ _ _ _; refine xG mixed [8, 16, 320] ?_) | (show SWp _ _ _ (.cond _ _ _) _ _ _ _; first | (refine cB (fun hc => ?_) (fun hc => ?_) <;> first | exact False.elim hc | exact absurd hc Bool.false_ne_true | exact absurd hc.symm Bool.false_ne_true | skip) | refine cU ?_ ?_)))
  all_goals first | rfl | (exact DVR)
set_option maxRecDepth 20000 in
set_option maxHeartbeats 4000000 in
theorem holds_3 (m : Nat) : DCalls Try.prog 18 [planD exP, intss vC, li 0] (hget []) m (lb false) (hget []) := by
  refine pureC (n := 58) (rs := [.tmp 6]) (ts := [4]) Try.func18 rfl (by decide) [] (by (exact SD)) ?_
  (repeat' (first | (show SWp _ _ _ (.loop _) _ _ _ _; refine swp_rounds (lwp_round ?_)) | (show roundK ..; first | refine roundK_ret ?_ | refine roundK_exit ?_ | refine roundK_normal [0, 1, 2, 3, 4, 5, 6, 7, 9, 10, 11, 12, 29, 38, 46, 48, 57] (by (refine DVQ ?_) <;> rfl) ?_) | refine swp_seq [0, 1, 2, 3, 4, 5, 6, 7, 9, 10, 11, 12, 29, 38, 46, 48, 57] ?_ | refine st1 ?_ | (show CallQ ..; first | refine cF ?_ | refine cQ (fun hcc => (by first | exact find_5 _ | exact steps_3 _)) ?_ | (refine lP ?_; refine lQ (fun hcc m => (by first | exact find_5 _ | exact steps_3 _)) ?_)) | (show Fct ..; refine fctI (fun hf => ?_)) | (show XCallQ ..; first | refine xcF ?_ | refine xQ (fun hcc => (by first | exact find_5 _ | exact steps_3 _)) ?_ | (refine xlP ?_; refine xlQ (fun hcc m => (by first | exact find_5 _ | exact steps_3 _)) ?_)) | (show SWp _ _ _ (.region _ _ true) _ _ _ _; refine xG mixed [8, 16, 320] ?_) | (show SWp _ _ _ (.cond _ _ _) _ _ _ _; first | (refine cB (fun hc => ?_) (fun hc => ?_) <;> first | exact False.elim hc | exact absurd hc Bool.false_ne_true | exact absurd hc.symm Bool.false_ne_true | skip) | refine cU ?_ ?_)))
  all_goals first | rfl | (exact DVR)
theorem big_1 (m : Nat) : DCalls Try.prog 30 [intss vA, .clo 34 []] (hget []) m (lb false) (hget []) :=
  conInts_f _ bigB vA m (by decide) (fun x hx m => long_f x m (by simp only [List.mem_cons, List.not_mem_nil, or_false] at hx; rcases hx with rfl | rfl <;> decide))
theorem big_3 (m : Nat) : DCalls Try.prog 30 [intss vC, .clo 34 []] (hget []) m (lb false) (hget []) :=
  conInts_f _ bigB vC m (by decide) (fun x hx m => long_f x m (by simp only [List.mem_cons, List.not_mem_nil, or_false] at hx; rcases hx with rfl | rfl <;> decide))
theorem given_1 (m : Nat) : DCalls Try.prog 17 [planD exP, intss vA] (hget []) m (li 0) (hget []) := by
  refine pureC (n := 17) (rs := [.tmp 4]) (ts := [30]) Try.func17 rfl (by decide) [] (by (exact SD)) ?_
  (repeat' (first | (show SWp _ _ _ (.loop _) _ _ _ _; refine swp_rounds (lwp_round ?_)) | (show roundK ..; first | refine roundK_ret ?_ | refine roundK_exit ?_ | refine roundK_normal [0, 1, 2, 4, 5, 9, 12] (by (refine DVQ ?_) <;> rfl) ?_) | refine swp_seq [0, 1, 2, 4, 5, 9, 12] ?_ | refine st1 ?_ | (show CallQ ..; first | refine cF ?_ | refine cQ (fun hcc => (by first | exact pValid_x _ | exact big_1 _ | exact shaped_1 _)) ?_ | (refine lP ?_; refine lQ (fun hcc m => (by first | exact pValid_x _ | exact big_1 _ | exact shaped_1 _)) ?_)) | (show Fct ..; refine fctI (fun hf => ?_)) | (show XCallQ ..; first | refine xcF ?_ | refine xQ (fun hcc => (by first | exact pValid_x _ | exact big_1 _ | exact shaped_1 _)) ?_ | (refine xlP ?_; refine xlQ (fun hcc m => (by first | exact pValid_x _ | exact big_1 _ | exact shaped_1 _)) ?_)) | (show SWp _ _ _ (.region _ _ true) _ _ _ _; refine xG mixed [] ?_) | (show SWp _ _ _ (.cond _ _ _) _ _ _ _; first | (refine cB (fun hc => ?_) (fun hc => ?_) <;> first | exact False.elim hc | exact absurd hc Bool.false_ne_true | exact absurd hc.symm Bool.false_ne_true | skip) | refine cU ?_ ?_)))
  all_goals first | rfl | (exact DVR)
theorem given_3 (m : Nat) : DCalls Try.prog 17 [planD exP, intss vC] (hget []) m (li 0) (hget []) := by
  refine pureC (n := 17) (rs := [.tmp 4]) (ts := [30]) Try.func17 rfl (by decide) [] (by (exact SD)) ?_
  (repeat' (first | (show SWp _ _ _ (.loop _) _ _ _ _; refine swp_rounds (lwp_round ?_)) | (show roundK ..; first | refine roundK_ret ?_ | refine roundK_exit ?_ | refine roundK_normal [0, 1, 2, 4, 5, 9, 12] (by (refine DVQ ?_) <;> rfl) ?_) | refine swp_seq [0, 1, 2, 4, 5, 9, 12] ?_ | refine st1 ?_ | (show CallQ ..; first | refine cF ?_ | refine cQ (fun hcc => (by first | exact pValid_x _ | exact big_3 _ | exact shaped_2 _)) ?_ | (refine lP ?_; refine lQ (fun hcc m => (by first | exact pValid_x _ | exact big_3 _ | exact shaped_2 _)) ?_)) | (show Fct ..; refine fctI (fun hf => ?_)) | (show XCallQ ..; first | refine xcF ?_ | refine xQ (fun hcc => (by first | exact pValid_x _ | exact big_3 _ | exact shaped_2 _)) ?_ | (refine xlP ?_; refine xlQ (fun hcc m => (by first | exact pValid_x _ | exact big_3 _ | exact shaped_2 _)) ?_)) | (show SWp _ _ _ (.region _ _ true) _ _ _ _; refine xG mixed [] ?_) | (show SWp _ _ _ (.cond _ _ _) _ _ _ _; first | (refine cB (fun hc => ?_) (fun hc => ?_) <;> first | exact False.elim hc | exact absurd hc Bool.false_ne_true | exact absurd hc.symm Bool.false_ne_true | skip) | refine cU ?_ ?_)))
  all_goals first | rfl | (exact DVR)
set_option maxRecDepth 20000 in
set_option maxHeartbeats 4000000 in
theorem check_1 (m : Nat) : DCalls Try.prog 7 [planD exP, intss vA] (hget []) m (.tup [lb true, li 0, li 0]) (hget []) := by
  refine pureC (n := 27) (rs := [.tmp 4, .tmp 5, .tmp 6]) (ts := [4, 3, 30]) Try.func7 rfl (by decide) [] (by (exact SD)) ?_
  (repeat' (first | (show SWp _ _ _ (.loop _) _ _ _ _; refine swp_rounds (lwp_round ?_)) | (show roundK ..; first | refine roundK_ret ?_ | refine roundK_exit ?_ | refine roundK_normal [0, 1, 2, 4, 5, 6, 7, 8, 13, 16, 17, 18, 24] (by (refine DVQ ?_) <;> rfl) ?_) | refine swp_seq [0, 1, 2, 4, 5, 6, 7, 8, 13, 16, 17, 18, 24] ?_ | refine st1 ?_ | (show CallQ ..; first | refine cF ?_ | refine cQ (fun hcc => (by first | exact given_1 _ | exact holds_1 _ | exact holds_2 _)) ?_ | (refine lP ?_; refine lQ (fun hcc m => (by first | exact given_1 _ | exact holds_1 _ | exact holds_2 _)) ?_)) | (show Fct ..; refine fctI (fun hf => ?_)) | (show XCallQ ..; first | refine xcF ?_ | refine xQ (fun hcc => (by first | exact given_1 _ | exact holds_1 _ | exact holds_2 _)) ?_ | (refine xlP ?_; refine xlQ (fun hcc m => (by first | exact given_1 _ | exact holds_1 _ | exact holds_2 _)) ?_)) | (show SWp _ _ _ (.region _ _ true) _ _ _ _; refine xG mixed [] ?_) | (show SWp _ _ _ (.cond _ _ _) _ _ _ _; first | (refine cB (fun hc => ?_) (fun hc => ?_) <;> first | exact False.elim hc | exact absurd hc Bool.false_ne_true | exact absurd hc.symm Bool.false_ne_true | skip) | refine cU ?_ ?_)))
  all_goals first | rfl | (exact DVR)
set_option maxRecDepth 20000 in
set_option maxHeartbeats 4000000 in
theorem check_3 (m : Nat) : DCalls Try.prog 7 [planD exP, intss vC] (hget []) m (.tup [lb false, li 0, li 0]) (hget []) := by
  refine pureC (n := 27) (rs := [.tmp 4, .tmp 5, .tmp 6]) (ts := [4, 3, 30]) Try.func7 rfl (by decide) [] (by (exact SD)) ?_
  (repeat' (first | (show SWp _ _ _ (.loop _) _ _ _ _; refine swp_rounds (lwp_round ?_)) | (show roundK ..; first | refine roundK_ret ?_ | refine roundK_exit ?_ | refine roundK_normal [0, 1, 2, 4, 5, 6, 7, 8, 13, 16, 17, 18, 24] (by (refine DVQ ?_) <;> rfl) ?_) | refine swp_seq [0, 1, 2, 4, 5, 6, 7, 8, 13, 16, 17, 18, 24] ?_ | refine st1 ?_ | (show CallQ ..; first | refine cF ?_ | refine cQ (fun hcc => (by first | exact given_3 _ | exact holds_3 _)) ?_ | (refine lP ?_; refine lQ (fun hcc m => (by first | exact given_3 _ | exact holds_3 _)) ?_)) | (show Fct ..; refine fctI (fun hf => ?_)) | (show XCallQ ..; first | refine xcF ?_ | refine xQ (fun hcc => (by first | exact given_3 _ | exact holds_3 _)) ?_ | (refine xlP ?_; refine xlQ (fun hcc m => (by first | exact given_3 _ | exact holds_3 _)) ?_)) | (show SWp _ _ _ (.region _ _ true) _ _ _ _; refine xG mixed [] ?_) | (show SWp _ _ _ (.cond _ _ _) _ _ _ _; first | (refine cB (fun hc => ?_) (fun hc => ?_) <;> first | exact False.elim hc | exact absurd hc Bool.false_ne_true | exact absurd hc.symm Bool.false_ne_true | skip) | refine cU ?_ ?_)))
  all_goals first | rfl | (exact DVR)
set_option maxRecDepth 20000 in
set_option maxHeartbeats 4000000 in
theorem bound_1 (m : Nat) : DCalls Try.prog 9 [planD exP, intss vA] (hget []) m (.tup [li 0, li 0]) (hget []) := by
  refine pureC (n := 35) (rs := [.tmp 4, .tmp 5]) (ts := [3, 30]) Try.func9 rfl (by decide) [] (by (exact SD)) ?_
  (repeat' (first | (show SWp _ _ _ (.loop _) _ _ _ _; refine swp_rounds (lwp_round ?_)) | (show roundK ..; first | refine roundK_ret ?_ | refine roundK_exit ?_ | refine roundK_normal [0, 1, 2, 4, 5, 6, 8, 9, 19, 22, 33] (by (refine DVQ ?_) <;> rfl) ?_) | refine swp_seq [0, 1, 2, 4, 5, 6, 8, 9, 19, 22, 33] ?_ | refine st1 ?_ | (show CallQ ..; first | refine cF ?_ | refine cQ (fun hcc => (by first | exact check_1 _ | exact find_1 _)) ?_ | (refine lP ?_; refine lQ (fun hcc m => (by first | exact check_1 _ | exact find_1 _)) ?_)) | (show Fct ..; refine fctI (fun hf => ?_)) | (show XCallQ ..; first | refine xcF ?_ | refine xQ (fun hcc => (by first | exact check_1 _ | exact find_1 _)) ?_ | (refine xlP ?_; refine xlQ (fun hcc m => (by first | exact check_1 _ | exact find_1 _)) ?_)) | (show SWp _ _ _ (.region _ _ true) _ _ _ _; refine xG mixed [] ?_) | (show SWp _ _ _ (.cond _ _ _) _ _ _ _; first | (refine cB (fun hc => ?_) (fun hc => ?_) <;> first | exact False.elim hc | exact absurd hc Bool.false_ne_true | exact absurd hc.symm Bool.false_ne_true | skip) | refine cU ?_ ?_)))
  all_goals first | rfl | (exact DVR)
abbrev vH (x y : List Int) : LH := [(0, .lst 3 1 (rows inRow x)), (1, .lst 3 1 (rows inRow y)), (2, .lst 22 1 [[.gl 0], [.gl 1]])]
theorem give_v {g : FuncId} {x y : List Int} {d : DV} (h : DCalls Try.prog g [planD exP, intss [x, y]] (hget []) 3 d (hget [])) : DCallsG Try.prog g [0, 1, 2] [planD exP, .gl 2] (hget (vH x y)) 3 d (hget []) :=
  DCallsG.giveG (x := .elems 1 (x.map inRow)) (by simp only [HV.fv]; rw [rows_pv]; rfl) rfl (DCallsG.giveG (x := .elems 1 (y.map inRow)) (by simp only [HV.frz, HV.fv, frz_rows]; rw [rows_pv]; rfl) rfl (DCallsG.giveG (x := .elems 1 [[.dat 1 (x.map inRow)], [.dat 1 (y.map inRow)]]) rfl rfl h))
set_option maxRecDepth 20000 in
set_option maxHeartbeats 4000000 in
theorem awake_f (m : Nat) : DCalls Try.prog 4 [] (hget []) m (lb true) (hget []) := by
  refine pureC (n := 64) (rs := [.tmp 0]) (ts := [4]) Try.func4 rfl (by decide) [] (by (exact SD)) ?_
  (repeat' (first | refine swp_seq [0, 1, 2, 3, 4, 5, 6, 7, 8] ?_ | refine st2 ?_ | (show CallQ ..; first | refine cQ (fun hcc => (by first | exact example_f _)) ?_ | (refine lP ?_; refine lQ (fun hcc m => (by first | exact example_f _)) ?_)) | (show Fct ..; refine fctI (fun hf => ?_)) | (show SWp _ _ _ (.cond _ _ _) _ _ _ _; first | refine cB (fun hc => ?_) (fun hc => ?_) | refine cU ?_ ?_)))
  refine cQT [16, 24, 32] (fun hcc => give_v (check_1 3)) ?_ (hC := fun _ _ => Nat.zero_le _) (hCn := by intro i hi; simp only [List.map_cons, List.map_nil, List.mem_cons, List.not_mem_nil, or_false] at hi; rcases hi with rfl | rfl | rfl <;> rfl)
  (repeat' (first | refine swp_seq [0, 1, 2, 3, 4, 5, 6, 7, 8] ?_ | refine st2 ?_ | (show CallQ ..; first | refine cQ (fun hcc => (by first | exact example_f _)) ?_ | (refine lP ?_; refine lQ (fun hcc m => (by first | exact example_f _)) ?_)) | (show Fct ..; refine fctI (fun hf => ?_)) | (show SWp _ _ _ (.cond _ _ _) _ _ _ _; first | refine cB (fun hc => ?_) (fun hc => ?_) | refine cU ?_ ?_)))
  refine cQT [112, 120, 128] (fun hcc => give_v (check_3 3)) ?_ (hC := fun _ _ => Nat.zero_le _) (hCn := by intro i hi; simp only [List.map_cons, List.map_nil, List.mem_cons, List.not_mem_nil, or_false] at hi; rcases hi with rfl | rfl | rfl <;> rfl)
  (repeat' (first | refine swp_seq [0, 1, 2, 3, 4, 5, 6, 7, 8] ?_ | refine st2 ?_ | (show CallQ ..; first | refine cQ (fun hcc => (by first | exact example_f _)) ?_ | (refine lP ?_; refine lQ (fun hcc m => (by first | exact example_f _)) ?_)) | (show Fct ..; refine fctI (fun hf => ?_)) | (show SWp _ _ _ (.cond _ _ _) _ _ _ _; first | refine cB (fun hc => ?_) (fun hc => ?_) | refine cU ?_ ?_)))
  refine cQT [208, 216, 224] (fun hcc => give_v (bound_1 3)) ?_ (hC := fun _ _ => Nat.zero_le _) (hCn := by intro i hi; simp only [List.map_cons, List.map_nil, List.mem_cons, List.not_mem_nil, or_false] at hi; rcases hi with rfl | rfl | rfl <;> rfl)
  (repeat' (first | refine swp_seq [0, 1, 2, 3, 4, 5, 6, 7, 8] ?_ | refine st2 ?_ | (show CallQ ..; first | refine cQ (fun hcc => (by first | exact example_f _)) ?_ | (refine lP ?_; refine lQ (fun hcc m => (by first | exact example_f _)) ?_)) | (show Fct ..; refine fctI (fun hf => ?_)) | (show SWp _ _ _ (.cond _ _ _) _ _ _ _; first | refine cB (fun hc => ?_) (fun hc => ?_) | refine cU ?_ ?_)))
  all_goals first | rfl | (exact DVR)
theorem swp_nilrow {P : Program} {N pin nx : Nat} {c : Code} {Q : Exit → LE → LH → Nat → Prop} {A : LE} {H : LH} (o n : Nat) (t : TypeId) (l1 l2 : List (List DV)) (h : SWp P N pin c Q A ((o, .lst t 1 (l1 ++ [.p (.dat n [])] :: l2)) :: H) nx) : SWp P N pin c Q A ((o, .lst t 1 (l1 ++ nilRow :: l2)) :: H) nx := by
  unfold SWp at h ⊢
  intro hp B hB a w hS
  obtain ⟨ρ, S, HS, ES⟩ := hS
  refine h hp B hB a w ⟨ρ, S, HS.seen (fun _ _ => rfl) fun i v hi => ?_, ES⟩
  have key : ∀ (l : List (List DV)) (vs : List Value), RelL ρ S w (l ++ nilRow :: l2).flatten vs → RelL ρ S w (l ++ [DV.p (.dat n [])] :: l2).flatten vs := fun l => by
    induction l with
    | nil =>
      intro vs k
      cases vs with
      | nil => exact k.elim
      | cons v vs => exact ⟨PLe.nil n S w v k.1, k.2⟩
    | cons r l ih =>
      intro vs
      simp only [List.cons_append, List.flatten_cons]
      induction r generalizing vs with
      | nil => exact ih vs
      | cons d r ihr =>
        intro k
        cases vs with
        | nil => exact k.elim
        | cons v vs => exact ⟨k.1, ihr vs k.2⟩
  simp only [hget] at hi
  split at hi
  · next e =>
    subst e
    obtain rfl := Option.some.inj hi
    have h0 : hget ((i, HV.lst t 1 (l1 ++ nilRow :: l2)) :: H) i = some (.lst t 1 (l1 ++ nilRow :: l2)) := by simp [hget]
    have hO := HS.heap i _ h0
    have hU := HS.heapU i _ h0
    simp only [HRel] at hO ⊢
    obtain ⟨k1, k2, k3, k4, k5⟩ := hO
    have el : (l1 ++ [DV.p (.dat n [])] :: l2).length = (l1 ++ nilRow :: l2).length := by simp
    refine ⟨⟨by rw [el]; exact k1, by rw [el]; exact k2, by rw [el]; exact k3, fun r hr => ?_, ?_⟩, hU.1, ?_, fun b hb => ⟨_, h0, hb⟩⟩
    · rcases List.mem_append.1 hr with hr | hr
      · exact k4 r (List.mem_append.2 (.inl hr))
      · rcases List.mem_cons.1 hr with rfl | hr
        · rfl
        · exact k4 r (List.mem_append.2 (.inr (List.mem_cons_of_mem _ hr)))
    · rcases k5 with k5 | ⟨b, vs, sp, fz, q1, q2, q3, q4, q5⟩
      · exact .inl k5
      · exact .inr ⟨b, vs, sp, fz, q1, q2, key _ _ q3, q4, q5⟩
    · refine usesL_iff.2 fun d hd => ?_
      have hu := usesL_iff.1 (show DV.usesL _ (l1 ++ nilRow :: l2).flatten from hU.2)
      simp only [List.flatten_append, List.flatten_cons, List.mem_append, List.mem_cons, List.not_mem_nil, or_false] at hd hu
      rcases hd with hd | rfl | hd
      · exact hu d (.inl hd)
      · trivial
      · exact hu d (.inr (.inr hd))
  · next e =>
    have h0 : hget ((o, HV.lst t 1 (l1 ++ nilRow :: l2)) :: H) i = some v := by simp only [hget, if_neg e]; exact hi
    have hU := HS.heapU i v h0
    exact ⟨HS.heap i v h0, hU.1, hU.2, fun b hb => ⟨v, h0, hb⟩⟩

end Go.Proofs.Ytlailhdmgehniaa
