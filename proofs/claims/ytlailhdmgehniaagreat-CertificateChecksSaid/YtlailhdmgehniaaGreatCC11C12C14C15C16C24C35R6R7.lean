/-
  Contracts of functions of the program, over the engine.
  No condition.
-/
import Derived.Test.YtlailhdmgehniaaGreatCC9C10C13C19C29
import Derived.Test.YtlailhdmgehniaaGreatCC2C3C6
import Derived.Test.YtlailhdmgehniaaGreatCC34KSC36
import Derived.Test.YtlailhdmgehniaaGreatCC30C31C32C33
import Derived.Test.YtlailhdmgehniaaGreatCR4R5P1
import Derived.Test.YtlailhdmgehniaaGreatCS6S7S8S9
namespace Go.Proofs.YtlailhdmgehniaaGreat
open Go.Eng
set_option linter.all false
attribute [local irreducible] DCallsG SWp Fct CallQ XCallQ LCallQ XLCallQ drun xrun
set_option maxRecDepth 20000 in
set_option maxHeartbeats 4000000 in
theorem pValid_x (m : Nat) : DCalls Tryz.prog 49 [planD exP] (hget []) m (lb true) (hget []) := by
  refine pureC (n := 109) (rs := [.tmp 2]) (ts := [4]) Tryz.func49 rfl (by decide) [] (by (exact SD)) ?_
  (repeat' (first | (show SWp _ _ _ (.loop _) _ _ _ _; refine swp_rounds (lwp_round ?_)) | (show roundK ..; first | refine roundK_ret ?_ | refine roundK_exit ?_ | refine roundK_normal [0, 1, 2, 4, 5, 6, 53, 55, 56, 57, 58, 63, 66, 67, 68, 69, 89] (by (refine DVQ ?_) <;> rfl) ?_) | refine swp_seq [0, 1, 2, 4, 5, 6, 53, 55, 56, 57, 58, 63, 66, 67, 68, 69, 89] ?_ | refine st1 ?_ | (show CallQ ..; first | refine cF ?_ | refine cQ (fun hcc => (by first | exact wit_a _ _ _ _ (by decide) (by decide) | exact tValid_x _)) ?_ | (refine lP ?_; refine lQ (fun hcc m => (by first | exact wit_a _ _ _ _ (by decide) (by decide) | exact tValid_x _)) ?_)) | (show Fct ..; refine fctI (fun hf => ?_)) | (show XCallQ ..; first | refine xcF ?_ | refine xQ (fun hcc => (by first | exact wit_a _ _ _ _ (by decide) (by decide) | exact tValid_x _)) ?_ | (refine xlP ?_; refine xlQ (fun hcc m => (by first | exact wit_a _ _ _ _ (by decide) (by decide) | exact tValid_x _)) ?_)) | (show SWp _ _ _ (.region _ _ true) _ _ _ _; refine xG mixed [] ?_) | (show SWp _ _ _ (.cond _ _ _) _ _ _ _; first | (refine cB (fun hc => ?_) (fun hc => ?_) <;> first | exact False.elim hc | exact absurd hc Bool.false_ne_true | exact absurd hc.symm Bool.false_ne_true | skip) | refine cU ?_ ?_)))
  all_goals first | rfl | (exact DVR)
abbrev rA : List Int := [5, 0]
abbrev rB : List Int := [6, 0, 10, 0]
abbrev rC : List Int := [5, 1]
set_option maxRecDepth 20000 in
set_option maxHeartbeats 4000000 in
theorem find_1 (m : Nat) : DCalls Tryz.prog 40 [ints [5, 0], li 5] (hget []) m (.tup [li 0, lb true]) (hget []) := by
  refine pureC (n := 49) (rs := [.tmp 4, .tmp 5]) (ts := [3, 4]) Tryz.func40 rfl (by decide) [] (by (exact SD)) ?_
  (repeat' (first | (show SWp _ _ _ (.loop _) _ _ _ _; refine swp_rounds (lwp_round ?_)) | (show roundK ..; first | refine roundK_ret ?_ | refine roundK_exit ?_ | refine roundK_normal [0, 1, 4, 5, 6, 7, 8, 14, 25, 42] (by (refine DVQ ?_) <;> rfl) ?_) | refine swp_seq [0, 1, 4, 5, 6, 7, 8, 14, 25, 42] ?_ | refine st1 ?_ | (show CallQ ..; first | refine cF ?_ | refine cQ (fun hcc => (by fail)) ?_ | (refine lP ?_; refine lQ (fun hcc m => (by fail)) ?_)) | (show Fct ..; refine fctI (fun hf => ?_)) | (show XCallQ ..; first | refine xcF ?_ | refine xQ (fun hcc => (by fail)) ?_ | (refine xlP ?_; refine xlQ (fun hcc m => (by fail)) ?_)) | (show SWp _ _ _ (.region _ _ true) _ _ _ _; refine xG mixed [] ?_) | (show SWp _ _ _ (.cond _ _ _) _ _ _ _; first | (refine cB (fun hc => ?_) (fun hc => ?_) <;> first | exact False.elim hc | exact absurd hc Bool.false_ne_true | exact absurd hc.symm Bool.false_ne_true | skip) | refine cU ?_ ?_)))
  all_goals first | rfl | (exact DVR)
set_option maxRecDepth 20000 in
set_option maxHeartbeats 4000000 in
theorem find_2 (m : Nat) : DCalls Tryz.prog 40 [ints [6, 0, 10, 0], li 5] (hget []) m (.tup [li 0, lb false]) (hget []) := by
  refine pureC (n := 49) (rs := [.tmp 4, .tmp 5]) (ts := [3, 4]) Tryz.func40 rfl (by decide) [] (by (exact SD)) ?_
  (repeat' (first | (show SWp _ _ _ (.loop _) _ _ _ _; refine swp_rounds (lwp_round ?_)) | (show roundK ..; first | refine roundK_ret ?_ | refine roundK_exit ?_ | refine roundK_normal [0, 1, 4, 5, 6, 7, 8, 14, 25, 42] (by (refine DVQ ?_) <;> rfl) ?_) | refine swp_seq [0, 1, 4, 5, 6, 7, 8, 14, 25, 42] ?_ | refine st1 ?_ | (show CallQ ..; first | refine cF ?_ | refine cQ (fun hcc => (by fail)) ?_ | (refine lP ?_; refine lQ (fun hcc m => (by fail)) ?_)) | (show Fct ..; refine fctI (fun hf => ?_)) | (show XCallQ ..; first | refine xcF ?_ | refine xQ (fun hcc => (by fail)) ?_ | (refine xlP ?_; refine xlQ (fun hcc m => (by fail)) ?_)) | (show SWp _ _ _ (.region _ _ true) _ _ _ _; refine xG mixed [] ?_) | (show SWp _ _ _ (.cond _ _ _) _ _ _ _; first | (refine cB (fun hc => ?_) (fun hc => ?_) <;> first | exact False.elim hc | exact absurd hc Bool.false_ne_true | exact absurd hc.symm Bool.false_ne_true | skip) | refine cU ?_ ?_)))
  all_goals first | rfl | (exact DVR)
set_option maxRecDepth 20000 in
set_option maxHeartbeats 4000000 in
theorem find_3 (m : Nat) : DCalls Tryz.prog 40 [ints [6, 0, 10, 0], li 10] (hget []) m (.tup [li 0, lb true]) (hget []) := by
  refine pureC (n := 49) (rs := [.tmp 4, .tmp 5]) (ts := [3, 4]) Tryz.func40 rfl (by decide) [] (by (exact SD)) ?_
  (repeat' (first | (show SWp _ _ _ (.loop _) _ _ _ _; refine swp_rounds (lwp_round ?_)) | (show roundK ..; first | refine roundK_ret ?_ | refine roundK_exit ?_ | refine roundK_normal [0, 1, 4, 5, 6, 7, 8, 14, 25, 42] (by (refine DVQ ?_) <;> rfl) ?_) | refine swp_seq [0, 1, 4, 5, 6, 7, 8, 14, 25, 42] ?_ | refine st1 ?_ | (show CallQ ..; first | refine cF ?_ | refine cQ (fun hcc => (by fail)) ?_ | (refine lP ?_; refine lQ (fun hcc m => (by fail)) ?_)) | (show Fct ..; refine fctI (fun hf => ?_)) | (show XCallQ ..; first | refine xcF ?_ | refine xQ (fun hcc => (by fail)) ?_ | (refine xlP ?_; refine xlQ (fun hcc m => (by fail)) ?_)) | (show SWp _ _ _ (.region _ _ true) _ _ _ _; refine xG mixed [] ?_) | (show SWp _ _ _ (.cond _ _ _) _ _ _ _; first | (refine cB (fun hc => ?_) (fun hc => ?_) <;> first | exact False.elim hc | exact absurd hc Bool.false_ne_true | exact absurd hc.symm Bool.false_ne_true | skip) | refine cU ?_ ?_)))
  all_goals first | rfl | (exact DVR)
set_option maxRecDepth 20000 in
set_option maxHeartbeats 4000000 in
theorem find_4 (m : Nat) : DCalls Tryz.prog 40 [ints [6, 0, 10, 0], li 6] (hget []) m (.tup [li 0, lb true]) (hget []) := by
  refine pureC (n := 49) (rs := [.tmp 4, .tmp 5]) (ts := [3, 4]) Tryz.func40 rfl (by decide) [] (by (exact SD)) ?_
  (repeat' (first | (show SWp _ _ _ (.loop _) _ _ _ _; refine swp_rounds (lwp_round ?_)) | (show roundK ..; first | refine roundK_ret ?_ | refine roundK_exit ?_ | refine roundK_normal [0, 1, 4, 5, 6, 7, 8, 14, 25, 42] (by (refine DVQ ?_) <;> rfl) ?_) | refine swp_seq [0, 1, 4, 5, 6, 7, 8, 14, 25, 42] ?_ | refine st1 ?_ | (show CallQ ..; first | refine cF ?_ | refine cQ (fun hcc => (by fail)) ?_ | (refine lP ?_; refine lQ (fun hcc m => (by fail)) ?_)) | (show Fct ..; refine fctI (fun hf => ?_)) | (show XCallQ ..; first | refine xcF ?_ | refine xQ (fun hcc => (by fail)) ?_ | (refine xlP ?_; refine xlQ (fun hcc m => (by fail)) ?_)) | (show SWp _ _ _ (.region _ _ true) _ _ _ _; refine xG mixed [] ?_) | (show SWp _ _ _ (.cond _ _ _) _ _ _ _; first | (refine cB (fun hc => ?_) (fun hc => ?_) <;> first | exact False.elim hc | exact absurd hc Bool.false_ne_true | exact absurd hc.symm Bool.false_ne_true | skip) | refine cU ?_ ?_)))
  all_goals first | rfl | (exact DVR)
set_option maxRecDepth 20000 in
set_option maxHeartbeats 4000000 in
theorem find_5 (m : Nat) : DCalls Tryz.prog 40 [ints [5, 1], li 5] (hget []) m (.tup [li 1, lb true]) (hget []) := by
  refine pureC (n := 49) (rs := [.tmp 4, .tmp 5]) (ts := [3, 4]) Tryz.func40 rfl (by decide) [] (by (exact SD)) ?_
  (repeat' (first | (show SWp _ _ _ (.loop _) _ _ _ _; refine swp_rounds (lwp_round ?_)) | (show roundK ..; first | refine roundK_ret ?_ | refine roundK_exit ?_ | refine roundK_normal [0, 1, 4, 5, 6, 7, 8, 14, 25, 42] (by (refine DVQ ?_) <;> rfl) ?_) | refine swp_seq [0, 1, 4, 5, 6, 7, 8, 14, 25, 42] ?_ | refine st1 ?_ | (show CallQ ..; first | refine cF ?_ | refine cQ (fun hcc => (by fail)) ?_ | (refine lP ?_; refine lQ (fun hcc m => (by fail)) ?_)) | (show Fct ..; refine fctI (fun hf => ?_)) | (show XCallQ ..; first | refine xcF ?_ | refine xQ (fun hcc => (by fail)) ?_ | (refine xlP ?_; refine xlQ (fun hcc m => (by fail)) ?_)) | (show SWp _ _ _ (.region _ _ true) _ _ _ _; refine xG mixed [] ?_) | (show SWp _ _ _ (.cond _ _ _) _ _ _ _; first | (refine cB (fun hc => ?_) (fun hc => ?_) <;> first | exact False.elim hc | exact absurd hc Bool.false_ne_true | exact absurd hc.symm Bool.false_ne_true | skip) | refine cU ?_ ?_)))
  all_goals first | rfl | (exact DVR)
set_option maxRecDepth 20000 in
set_option maxHeartbeats 4000000 in
theorem shaped_1 (m : Nat) : DCalls Tryz.prog 61 [planD exP, intss [[5, 0], [6, 0, 10, 0]]] (hget []) m (lb true) (hget []) := by
  refine pureC (n := 74) (rs := [.tmp 4]) (ts := [4]) Tryz.func61 rfl (by decide) [] (by (exact SD)) ?_
  (repeat' (first | (show SWp _ _ _ (.loop _) _ _ _ _; refine swp_rounds (lwp_round ?_)) | (show roundK ..; first | refine roundK_ret ?_ | refine roundK_exit ?_ | refine roundK_normal [0, 1, 2, 4, 6, 7, 8, 9, 16, 17, 18, 19, 20, 26, 30, 72] (by (refine DVQ ?_) <;> rfl) ?_) | refine swp_seq [0, 1, 2, 4, 6, 7, 8, 9, 16, 17, 18, 19, 20, 26, 30, 72] ?_ | refine st1 ?_ | (show CallQ ..; first | refine cF ?_ | refine cQ (fun hcc => (by fail)) ?_ | (refine lP ?_; refine lQ (fun hcc m => (by fail)) ?_)) | (show Fct ..; refine fctI (fun hf => ?_)) | (show XCallQ ..; first | refine xcF ?_ | refine xQ (fun hcc => (by fail)) ?_ | (refine xlP ?_; refine xlQ (fun hcc m => (by fail)) ?_)) | (show SWp _ _ _ (.region _ _ true) _ _ _ _; refine xG mixed [] ?_) | (show SWp _ _ _ (.cond _ _ _) _ _ _ _; first | (refine cB (fun hc => ?_) (fun hc => ?_) <;> first | exact False.elim hc | exact absurd hc Bool.false_ne_true | exact absurd hc.symm Bool.false_ne_true | skip) | refine cU ?_ ?_)))
  all_goals first | rfl | (exact DVR)
set_option maxRecDepth 20000 in
set_option maxHeartbeats 4000000 in
theorem shaped_2 (m : Nat) : DCalls Tryz.prog 61 [planD exP, intss [[5, 1], [6, 0, 10, 0]]] (hget []) m (lb true) (hget []) := by
  refine pureC (n := 74) (rs := [.tmp 4]) (ts := [4]) Tryz.func61 rfl (by decide) [] (by (exact SD)) ?_
  (repeat' (first | (show SWp _ _ _ (.loop _) _ _ _ _; refine swp_rounds (lwp_round ?_)) | (show roundK ..; first | refine roundK_ret ?_ | refine roundK_exit ?_ | refine roundK_normal [0, 1, 2, 4, 6, 7, 8, 9, 16, 17, 18, 19, 20, 26, 30, 72] (by (refine DVQ ?_) <;> rfl) ?_) | refine swp_seq [0, 1, 2, 4, 6, 7, 8, 9, 16, 17, 18, 19, 20, 26, 30, 72] ?_ | refine st1 ?_ | (show CallQ ..; first | refine cF ?_ | refine cQ (fun hcc => (by fail)) ?_ | (refine lP ?_; refine lQ (fun hcc m => (by fail)) ?_)) | (show Fct ..; refine fctI (fun hf => ?_)) | (show XCallQ ..; first | refine xcF ?_ | refine xQ (fun hcc => (by fail)) ?_ | (refine xlP ?_; refine xlQ (fun hcc m => (by fail)) ?_)) | (show SWp _ _ _ (.region _ _ true) _ _ _ _; refine xG mixed [] ?_) | (show SWp _ _ _ (.cond _ _ _) _ _ _ _; first | (refine cB (fun hc => ?_) (fun hc => ?_) <;> first | exact False.elim hc | exact absurd hc Bool.false_ne_true | exact absurd hc.symm Bool.false_ne_true | skip) | refine cU ?_ ?_)))
  all_goals first | rfl | (exact DVR)
abbrev vA : List (List Int) := [[5, 0], [6, 0, 10, 0]]
abbrev vC : List (List Int) := [[5, 1], [6, 0, 10, 0]]
abbrev hH (v : List (List Int)) (i x : Int) : LH := [(8, .blk 29 [intss v]), (16, .blk 3 [li i]), (320, .blk 3 [li x])]
abbrev hF : DV := .clo 63 [.ptr 8 0, .ptr 16 0, .ptr 320 0]
set_option maxRecDepth 20000 in
theorem h1_1 (m : Nat) : DCalls Tryz.prog 63 [li 10, li 0, .ptr 8 0, .ptr 16 0, .ptr 320 0] (hget (hH vA 0 0)) m (lb true) (hget (hH vA 0 0)) := by
  refine contract (n := 36) (rs := [.tmp 7]) (ts := [4]) Tryz.func63 rfl (by decide) 321 321 [] [] [] (lb true) (hH vA 0 0) (by (exact SD)) (by (exact SD)) ?_
  (repeat' (first | (show SWp _ _ _ (.loop _) _ _ _ _; refine swp_rounds (lwp_round ?_)) | (show roundK ..; first | refine roundK_ret ?_ | refine roundK_exit ?_ | refine roundK_normal [0, 1, 2, 3, 4, 7, 8, 9] (by (refine DVQ ?_) <;> rfl) ?_) | refine swp_seq [0, 1, 2, 3, 4, 7, 8, 9] ?_ | refine st1 ?_ | (show CallQ ..; first | refine cF ?_ | refine cQ (fun hcc => (by first | exact find_3 _)) ?_ | (refine lP ?_; refine lQ (fun hcc m => (by first | exact find_3 _)) ?_)) | (show Fct ..; refine fctI (fun hf => ?_)) | (show XCallQ ..; first | refine xcF ?_ | refine xQ (fun hcc => (by first | exact find_3 _)) ?_ | (refine xlP ?_; refine xlQ (fun hcc m => (by first | exact find_3 _)) ?_)) | (show SWp _ _ _ (.region _ _ true) _ _ _ _; refine xG mixed [] ?_) | (show SWp _ _ _ (.cond _ _ _) _ _ _ _; first | (refine cB (fun hc => ?_) (fun hc => ?_) <;> first | exact False.elim hc | exact absurd hc Bool.false_ne_true | exact absurd hc.symm Bool.false_ne_true | skip) | refine cU ?_ ?_)))
  all_goals first | rfl | (exact DVR) | (exact DVS)
set_option maxRecDepth 20000 in
theorem h1_2 (m : Nat) : DCalls Tryz.prog 63 [li 6, li 8, .ptr 8 0, .ptr 16 0, .ptr 320 0] (hget (hH vA 0 0)) m (lb true) (hget (hH vA 0 0)) := by
  refine contract (n := 36) (rs := [.tmp 7]) (ts := [4]) Tryz.func63 rfl (by decide) 321 321 [] [] [] (lb true) (hH vA 0 0) (by (exact SD)) (by (exact SD)) ?_
  (repeat' (first | (show SWp _ _ _ (.loop _) _ _ _ _; refine swp_rounds (lwp_round ?_)) | (show roundK ..; first | refine roundK_ret ?_ | refine roundK_exit ?_ | refine roundK_normal [0, 1, 2, 3, 4, 7, 8, 9] (by (refine DVQ ?_) <;> rfl) ?_) | refine swp_seq [0, 1, 2, 3, 4, 7, 8, 9] ?_ | refine st1 ?_ | (show CallQ ..; first | refine cF ?_ | refine cQ (fun hcc => (by first | exact find_4 _)) ?_ | (refine lP ?_; refine lQ (fun hcc m => (by first | exact find_4 _)) ?_)) | (show Fct ..; refine fctI (fun hf => ?_)) | (show XCallQ ..; first | refine xcF ?_ | refine xQ (fun hcc => (by first | exact find_4 _)) ?_ | (refine xlP ?_; refine xlQ (fun hcc m => (by first | exact find_4 _)) ?_)) | (show SWp _ _ _ (.region _ _ true) _ _ _ _; refine xG mixed [] ?_) | (show SWp _ _ _ (.cond _ _ _) _ _ _ _; first | (refine cB (fun hc => ?_) (fun hc => ?_) <;> first | exact False.elim hc | exact absurd hc Bool.false_ne_true | exact absurd hc.symm Bool.false_ne_true | skip) | refine cU ?_ ?_)))
  all_goals first | rfl | (exact DVR) | (exact DVS)
set_option maxRecDepth 20000 in
theorem h1_3 (m : Nat) : DCalls Tryz.prog 63 [li 10, li 0, .ptr 8 0, .ptr 16 0, .ptr 320 0] (hget (hH vC 0 1)) m (lb false) (hget (hH vC 0 1)) := by
  refine contract (n := 36) (rs := [.tmp 7]) (ts := [4]) Tryz.func63 rfl (by decide) 321 321 [] [] [] (lb false) (hH vC 0 1) (by (exact SD)) (by (exact SD)) ?_
  (repeat' (first | (show SWp _ _ _ (.loop _) _ _ _ _; refine swp_rounds (lwp_round ?_)) | (show roundK ..; first | refine roundK_ret ?_ | refine roundK_exit ?_ | refine roundK_normal [0, 1, 2, 3, 4, 7, 8, 9] (by (refine DVQ ?_) <;> rfl) ?_) | refine swp_seq [0, 1, 2, 3, 4, 7, 8, 9] ?_ | refine st1 ?_ | (show CallQ ..; first | refine cF ?_ | refine cQ (fun hcc => (by first | exact find_3 _)) ?_ | (refine lP ?_; refine lQ (fun hcc m => (by first | exact find_3 _)) ?_)) | (show Fct ..; refine fctI (fun hf => ?_)) | (show XCallQ ..; first | refine xcF ?_ | refine xQ (fun hcc => (by first | exact find_3 _)) ?_ | (refine xlP ?_; refine xlQ (fun hcc m => (by first | exact find_3 _)) ?_)) | (show SWp _ _ _ (.region _ _ true) _ _ _ _; refine xG mixed [] ?_) | (show SWp _ _ _ (.cond _ _ _) _ _ _ _; first | (refine cB (fun hc => ?_) (fun hc => ?_) <;> first | exact False.elim hc | exact absurd hc Bool.false_ne_true | exact absurd hc.symm Bool.false_ne_true | skip) | refine cU ?_ ?_)))
  all_goals first | rfl | (exact DVR) | (exact DVS)
set_option maxRecDepth 20000 in
set_option maxHeartbeats 4000000 in
theorem steps_1 (m : Nat) : DCalls Tryz.prog 62 [planD exP, li 0, li 5, hF] (hget (hH vA 0 0)) m (lb true) (hget (hH vA 0 0)) := by
  refine contract (n := 61) (rs := [.tmp 8]) (ts := [4]) Tryz.func62 rfl (by decide) 321 321 [] [] [] (lb true) (hH vA 0 0) (by (exact SD)) (by (exact SD)) ?_
  (repeat' (first | (show SWp _ _ _ (.loop _) _ _ _ _; refine swp_rounds (lwp_round ?_)) | (show roundK ..; first | refine roundK_ret ?_ | refine roundK_exit ?_ | refine roundK_normal [0, 1, 2, 3, 4, 8, 10, 11, 12, 13, 14, 16, 17, 18, 19, 34, 43, 59] (by (refine DVQ ?_) <;> rfl) ?_) | refine swp_seq [0, 1, 2, 3, 4, 8, 10, 11, 12, 13, 14, 16, 17, 18, 19, 34, 43, 59] ?_ | refine st1 ?_ | (show CallQ ..; first | refine cF ?_ | refine cQ (fun hcc => (by first | exact floor_0 _ | exact floor_4 _ | exact h1_1 _ | exact h1_2 _)) ?_ | (refine lP ?_; refine lQ (fun hcc m => (by first | exact floor_0 _ | exact floor_4 _ | exact h1_1 _ | exact h1_2 _)) ?_)) | (show Fct ..; refine fctI (fun hf => ?_)) | (show XCallQ ..; first | refine xcF ?_ | refine xQ (fun hcc => (by first | exact floor_0 _ | exact floor_4 _ | exact h1_1 _ | exact h1_2 _)) ?_ | (refine xlP ?_; refine xlQ (fun hcc m => (by first | exact floor_0 _ | exact floor_4 _ | exact h1_1 _ | exact h1_2 _)) ?_)) | (show SWp _ _ _ (.region _ _ true) _ _ _ _; refine xG mixed [] ?_) | (show SWp _ _ _ (.cond _ _ _) _ _ _ _; first | (refine cB (fun hc => ?_) (fun hc => ?_) <;> first | exact False.elim hc | exact absurd hc Bool.false_ne_true | exact absurd hc.symm Bool.false_ne_true | skip) | refine cU ?_ ?_)))
  all_goals first | rfl | (exact DVR) | (exact DVS)
set_option maxRecDepth 20000 in
set_option maxHeartbeats 4000000 in
theorem steps_3 (m : Nat) : DCalls Tryz.prog 62 [planD exP, li 0, li 5, hF] (hget (hH vC 0 1)) m (lb false) (hget (hH vC 0 1)) := by
  refine contract (n := 61) (rs := [.tmp 8]) (ts := [4]) Tryz.func62 rfl (by decide) 321 321 [] [] [] (lb false) (hH vC 0 1) (by (exact SD)) (by (exact SD)) ?_
  (repeat' (first | (show SWp _ _ _ (.loop _) _ _ _ _; refine swp_rounds (lwp_round ?_)) | (show roundK ..; first | refine roundK_ret ?_ | refine roundK_exit ?_ | refine roundK_normal [0, 1, 2, 3, 4, 8, 10, 11, 12, 13, 14, 16, 17, 18, 19, 34, 43, 59] (by (refine DVQ ?_) <;> rfl) ?_) | refine swp_seq [0, 1, 2, 3, 4, 8, 10, 11, 12, 13, 14, 16, 17, 18, 19, 34, 43, 59] ?_ | refine st1 ?_ | (show CallQ ..; first | refine cF ?_ | refine cQ (fun hcc => (by first | exact floor_0 _ | exact floor_4 _ | exact h1_3 _)) ?_ | (refine lP ?_; refine lQ (fun hcc m => (by first | exact floor_0 _ | exact floor_4 _ | exact h1_3 _)) ?_)) | (show Fct ..; refine fctI (fun hf => ?_)) | (show XCallQ ..; first | refine xcF ?_ | refine xQ (fun hcc => (by first | exact floor_0 _ | exact floor_4 _ | exact h1_3 _)) ?_ | (refine xlP ?_; refine xlQ (fun hcc m => (by first | exact floor_0 _ | exact floor_4 _ | exact h1_3 _)) ?_)) | (show SWp _ _ _ (.region _ _ true) _ _ _ _; refine xG mixed [] ?_) | (show SWp _ _ _ (.cond _ _ _) _ _ _ _; first | (refine cB (fun hc => ?_) (fun hc => ?_) <;> first | exact False.elim hc | exact absurd hc Bool.false_ne_true | exact absurd hc.symm Bool.false_ne_true | skip) | refine cU ?_ ?_)))
  all_goals first | rfl | (exact DVR) | (exact DVS)
set_option maxRecDepth 20000 in
set_option maxHeartbeats 4000000 in
theorem holds_1 (m : Nat) : DCalls Tryz.prog 39 [planD exP, intss vA, li 0] (hget []) m (lb true) (hget []) := by
  refine pureC (n := 58) (rs := [.tmp 6]) (ts := [4]) Tryz.func39 rfl (by decide) [] (by (exact SD)) ?_
  (repeat' (first | (show SWp _ _ _ (.loop _) _ _ _ _; refine swp_rounds (lwp_round ?_)) | (show roundK ..; first | refine roundK_ret ?_ | refine roundK_exit ?_ | refine roundK_normal [0, 1, 2, 3, 4, 5, 6, 7, 9, 10, 11, 12, 29, 38, 46, 48, 57] (by (refine DVQ ?_) <;> rfl) ?_) | refine swp_seq [0, 1, 2, 3, 4, 5, 6, 7, 9, 10, 11, 12, 29, 38, 46, 48, 57] ?_ | refine st1 ?_ | (show CallQ ..; first | refine cF ?_ | refine cQ (fun hcc => (by first | exact find_1 _ | exact steps_1 _)) ?_ | (refine lP ?_; refine lQ (fun hcc m => (by first | exact find_1 _ | exact steps_1 _)) ?_)) | (show Fct ..; refine fctI (fun hf => ?_)) | (show XCallQ ..; first | refine xcF ?_ | refine xQ (fun hcc => (by first | exact find_1 _ | exact steps_1 _)) ?_ | (refine xlP ?_; refine xlQ (fun hcc m => (by first | exact find_1 _ | exact steps_1 _)) ?_)) | (show SWp _ _ _ (.region _ _ true) _ _ _ _; refine xG mixed [8, 16, 320] ?_) | (show SWp _ _ _ (.cond _ _ _) _ _ _ _; first | (refine cB (fun hc => ?_) (fun hc => ?_) <;> first | exact False.elim hc | exact absurd hc Bool.false_ne_true | exact absurd hc.symm Bool.false_ne_true | skip) | refine cU ?_ ?_)))
  all_goals first | rfl | (exact DVR)
set_option maxRecDepth 20000 in
set_option maxHeartbeats 4000000 in
theorem holds_2 (m : Nat) : DCalls Tryz.prog 39 [planD exP, intss vA, li 1] (hget []) m (lb true) (hget []) := by
  refine pureC (n := 58) (rs := [.tmp 6]) (ts := [4]) Tryz.func39 rfl (by decide) [] (by (exact SD)) ?_
  (repeat' (first | (show SWp _ _ _ (.loop _) _ _ _ _; refine swp_rounds (lwp_round ?_)) | (show roundK ..; first | refine roundK_ret ?_ | refine roundK_exit ?_ | refine roundK_normal [0, 1, 2, 3, 4, 5, 6, 7, 9, 10, 11, 12, 29, 38, 46, 48, 57] (by (refine DVQ ?_) <;> rfl) ?_) | refine swp_seq [0, 1, 2, 3, 4, 5, 6, 7, 9, 10, 11, 12, 29, 38, 46, 48, 57] ?_ | refine st1 ?_ | (show CallQ ..; first | refine cF ?_ | refine cQ (fun hcc => (by first | exact find_2 _)) ?_ | (refine lP ?_; refine lQ (fun hcc m => (by first | exact find_2 _)) ?_)) | (show Fct ..; refine fctI (fun hf => ?_)) | (show XCallQ ..; first | refine xcF ?_ | refine xQ (fun hcc => (by first | exact find_2 _)) ?_ | (refine xlP ?_; refine xlQ (fun hcc m => (by first | exact find_2 _)) ?_)) | (show SWp _ _ _ (.region _ _ true) _ _ _ _; refine xG mixed [8, 16, 320] ?_) | (show SWp _ _ _ (.cond _ _ _) _ _ _ _; first | (refine cB (fun hc => ?_) (fun hc => ?_) <;> first | exact False.elim hc | exact absurd hc Bool.false_ne_true | exact absurd hc.symm Bool.false_ne_true | skip) | refine cU ?_ ?_)))
  all_goals first | rfl | (exact DVR)
set_option maxRecDepth 20000 in
set_option maxHeartbeats 4000000 in
theorem holds_3 (m : Nat) : DCalls Tryz.prog 39 [planD exP, intss vC, li 0] (hget []) m (lb false) (hget []) := by
  refine pureC (n := 58) (rs := [.tmp 6]) (ts := [4]) Tryz.func39 rfl (by decide) [] (by (exact SD)) ?_
  (repeat' (first | (show SWp _ _ _ (.loop _) _ _ _ _; refine swp_rounds (lwp_round ?_)) | (show roundK ..; first | refine roundK_ret ?_ | refine roundK_exit ?_ | refine roundK_normal [0, 1, 2, 3, 4, 5, 6, 7, 9, 10, 11, 12, 29, 38, 46, 48, 57] (by (refine DVQ ?_) <;> rfl) ?_) | refine swp_seq [0, 1, 2, 3, 4, 5, 6, 7, 9, 10, 11, 12, 29, 38, 46, 48, 57] ?_ | refine st1 ?_ | (show CallQ ..; first | refine cF ?_ | refine cQ (fun hcc => (by first | exact find_5 _ | exact steps_3 _)) ?_ | (refine lP ?_; refine lQ (fun hcc m => (by first | exact find_5 _ | exact steps_3 _)) ?_)) | (show Fct ..; refine fctI (fun hf => ?_)) | (show XCallQ ..; first | refine xcF ?_ | refine xQ (fun hcc => (by first | exact find_5 _ | exact steps_3 _)) ?_ | (refine xlP ?_; refine xlQ (fun hcc m => (by first | exact find_5 _ | exact steps_3 _)) ?_)) | (show SWp _ _ _ (.region _ _ true) _ _ _ _; refine xG mixed [8, 16, 320] ?_) | (show SWp _ _ _ (.cond _ _ _) _ _ _ _; first | (refine cB (fun hc => ?_) (fun hc => ?_) <;> first | exact False.elim hc | exact absurd hc Bool.false_ne_true | exact absurd hc.symm Bool.false_ne_true | skip) | refine cU ?_ ?_)))
  all_goals first | rfl | (exact DVR)
theorem big_1 (m : Nat) : DCalls Tryz.prog 36 [intss vA, .clo 60 []] (hget []) m (lb false) (hget []) :=
  conInts_f _ bigB vA m (by decide) (fun x hx m => long_f x m (by simp only [List.mem_cons, List.not_mem_nil, or_false] at hx; rcases hx with rfl | rfl <;> decide))
theorem big_3 (m : Nat) : DCalls Tryz.prog 36 [intss vC, .clo 60 []] (hget []) m (lb false) (hget []) :=
  conInts_f _ bigB vC m (by decide) (fun x hx m => long_f x m (by simp only [List.mem_cons, List.not_mem_nil, or_false] at hx; rcases hx with rfl | rfl <;> decide))
theorem given_1 (m : Nat) : DCalls Tryz.prog 38 [planD exP, intss vA] (hget []) m (li 0) (hget []) := by
  refine pureC (n := 17) (rs := [.tmp 4]) (ts := [30]) Tryz.func38 rfl (by decide) [] (by (exact SD)) ?_
  (repeat' (first | (show SWp _ _ _ (.loop _) _ _ _ _; refine swp_rounds (lwp_round ?_)) | (show roundK ..; first | refine roundK_ret ?_ | refine roundK_exit ?_ | refine roundK_normal [0, 1, 2, 4, 5, 9, 12] (by (refine DVQ ?_) <;> rfl) ?_) | refine swp_seq [0, 1, 2, 4, 5, 9, 12] ?_ | refine st1 ?_ | (show CallQ ..; first | refine cF ?_ | refine cQ (fun hcc => (by first | exact pValid_x _ | exact big_1 _ | exact shaped_1 _)) ?_ | (refine lP ?_; refine lQ (fun hcc m => (by first | exact pValid_x _ | exact big_1 _ | exact shaped_1 _)) ?_)) | (show Fct ..; refine fctI (fun hf => ?_)) | (show XCallQ ..; first | refine xcF ?_ | refine xQ (fun hcc => (by first | exact pValid_x _ | exact big_1 _ | exact shaped_1 _)) ?_ | (refine xlP ?_; refine xlQ (fun hcc m => (by first | exact pValid_x _ | exact big_1 _ | exact shaped_1 _)) ?_)) | (show SWp _ _ _ (.region _ _ true) _ _ _ _; refine xG mixed [] ?_) | (show SWp _ _ _ (.cond _ _ _) _ _ _ _; first | (refine cB (fun hc => ?_) (fun hc => ?_) <;> first | exact False.elim hc | exact absurd hc Bool.false_ne_true | exact absurd hc.symm Bool.false_ne_true | skip) | refine cU ?_ ?_)))
  all_goals first | rfl | (exact DVR)
theorem given_3 (m : Nat) : DCalls Tryz.prog 38 [planD exP, intss vC] (hget []) m (li 0) (hget []) := by
  refine pureC (n := 17) (rs := [.tmp 4]) (ts := [30]) Tryz.func38 rfl (by decide) [] (by (exact SD)) ?_
  (repeat' (first | (show SWp _ _ _ (.loop _) _ _ _ _; refine swp_rounds (lwp_round ?_)) | (show roundK ..; first | refine roundK_ret ?_ | refine roundK_exit ?_ | refine roundK_normal [0, 1, 2, 4, 5, 9, 12] (by (refine DVQ ?_) <;> rfl) ?_) | refine swp_seq [0, 1, 2, 4, 5, 9, 12] ?_ | refine st1 ?_ | (show CallQ ..; first | refine cF ?_ | refine cQ (fun hcc => (by first | exact pValid_x _ | exact big_3 _ | exact shaped_2 _)) ?_ | (refine lP ?_; refine lQ (fun hcc m => (by first | exact pValid_x _ | exact big_3 _ | exact shaped_2 _)) ?_)) | (show Fct ..; refine fctI (fun hf => ?_)) | (show XCallQ ..; first | refine xcF ?_ | refine xQ (fun hcc => (by first | exact pValid_x _ | exact big_3 _ | exact shaped_2 _)) ?_ | (refine xlP ?_; refine xlQ (fun hcc m => (by first | exact pValid_x _ | exact big_3 _ | exact shaped_2 _)) ?_)) | (show SWp _ _ _ (.region _ _ true) _ _ _ _; refine xG mixed [] ?_) | (show SWp _ _ _ (.cond _ _ _) _ _ _ _; first | (refine cB (fun hc => ?_) (fun hc => ?_) <;> first | exact False.elim hc | exact absurd hc Bool.false_ne_true | exact absurd hc.symm Bool.false_ne_true | skip) | refine cU ?_ ?_)))
  all_goals first | rfl | (exact DVR)
set_option maxRecDepth 20000 in
set_option maxHeartbeats 4000000 in
theorem check_1 (m : Nat) : DCalls Tryz.prog 19 [planD exP, intss vA] (hget []) m (.tup [lb true, li 0, li 0]) (hget []) := by
  refine pureC (n := 27) (rs := [.tmp 4, .tmp 5, .tmp 6]) (ts := [4, 3, 30]) Tryz.func19 rfl (by decide) [] (by (exact SD)) ?_
  (repeat' (first | (show SWp _ _ _ (.loop _) _ _ _ _; refine swp_rounds (lwp_round ?_)) | (show roundK ..; first | refine roundK_ret ?_ | refine roundK_exit ?_ | refine roundK_normal [0, 1, 2, 4, 5, 6, 7, 8, 13, 16, 17, 18, 24] (by (refine DVQ ?_) <;> rfl) ?_) | refine swp_seq [0, 1, 2, 4, 5, 6, 7, 8, 13, 16, 17, 18, 24] ?_ | refine st1 ?_ | (show CallQ ..; first | refine cF ?_ | refine cQ (fun hcc => (by first | exact given_1 _ | exact holds_1 _ | exact holds_2 _)) ?_ | (refine lP ?_; refine lQ (fun hcc m => (by first | exact given_1 _ | exact holds_1 _ | exact holds_2 _)) ?_)) | (show Fct ..; refine fctI (fun hf => ?_)) | (show XCallQ ..; first | refine xcF ?_ | refine xQ (fun hcc => (by first | exact given_1 _ | exact holds_1 _ | exact holds_2 _)) ?_ | (refine xlP ?_; refine xlQ (fun hcc m => (by first | exact given_1 _ | exact holds_1 _ | exact holds_2 _)) ?_)) | (show SWp _ _ _ (.region _ _ true) _ _ _ _; refine xG mixed [] ?_) | (show SWp _ _ _ (.cond _ _ _) _ _ _ _; first | (refine cB (fun hc => ?_) (fun hc => ?_) <;> first | exact False.elim hc | exact absurd hc Bool.false_ne_true | exact absurd hc.symm Bool.false_ne_true | skip) | refine cU ?_ ?_)))
  all_goals first | rfl | (exact DVR)
set_option maxRecDepth 20000 in
set_option maxHeartbeats 4000000 in
theorem check_3 (m : Nat) : DCalls Tryz.prog 19 [planD exP, intss vC] (hget []) m (.tup [lb false, li 0, li 0]) (hget []) := by
  refine pureC (n := 27) (rs := [.tmp 4, .tmp 5, .tmp 6]) (ts := [4, 3, 30]) Tryz.func19 rfl (by decide) [] (by (exact SD)) ?_
  (repeat' (first | (show SWp _ _ _ (.loop _) _ _ _ _; refine swp_rounds (lwp_round ?_)) | (show roundK ..; first | refine roundK_ret ?_ | refine roundK_exit ?_ | refine roundK_normal [0, 1, 2, 4, 5, 6, 7, 8, 13, 16, 17, 18, 24] (by (refine DVQ ?_) <;> rfl) ?_) | refine swp_seq [0, 1, 2, 4, 5, 6, 7, 8, 13, 16, 17, 18, 24] ?_ | refine st1 ?_ | (show CallQ ..; first | refine cF ?_ | refine cQ (fun hcc => (by first | exact given_3 _ | exact holds_3 _)) ?_ | (refine lP ?_; refine lQ (fun hcc m => (by first | exact given_3 _ | exact holds_3 _)) ?_)) | (show Fct ..; refine fctI (fun hf => ?_)) | (show XCallQ ..; first | refine xcF ?_ | refine xQ (fun hcc => (by first | exact given_3 _ | exact holds_3 _)) ?_ | (refine xlP ?_; refine xlQ (fun hcc m => (by first | exact given_3 _ | exact holds_3 _)) ?_)) | (show SWp _ _ _ (.region _ _ true) _ _ _ _; refine xG mixed [] ?_) | (show SWp _ _ _ (.cond _ _ _) _ _ _ _; first | (refine cB (fun hc => ?_) (fun hc => ?_) <;> first | exact False.elim hc | exact absurd hc Bool.false_ne_true | exact absurd hc.symm Bool.false_ne_true | skip) | refine cU ?_ ?_)))
  all_goals first | rfl | (exact DVR)
set_option maxRecDepth 20000 in
set_option maxHeartbeats 4000000 in
theorem bound_1 (m : Nat) : DCalls Tryz.prog 20 [planD exP, intss vA] (hget []) m (.tup [li 0, li 0]) (hget []) := by
  refine pureC (n := 35) (rs := [.tmp 4, .tmp 5]) (ts := [3, 30]) Tryz.func20 rfl (by decide) [] (by (exact SD)) ?_
  (repeat' (first | (show SWp _ _ _ (.loop _) _ _ _ _; refine swp_rounds (lwp_round ?_)) | (show roundK ..; first | refine roundK_ret ?_ | refine roundK_exit ?_ | refine roundK_normal [0, 1, 2, 4, 5, 6, 8, 9, 19, 22, 33] (by (refine DVQ ?_) <;> rfl) ?_) | refine swp_seq [0, 1, 2, 4, 5, 6, 8, 9, 19, 22, 33] ?_ | refine st1 ?_ | (show CallQ ..; first | refine cF ?_ | refine cQ (fun hcc => (by first | exact check_1 _ | exact find_1 _)) ?_ | (refine lP ?_; refine lQ (fun hcc m => (by first | exact check_1 _ | exact find_1 _)) ?_)) | (show Fct ..; refine fctI (fun hf => ?_)) | (show XCallQ ..; first | refine xcF ?_ | refine xQ (fun hcc => (by first | exact check_1 _ | exact find_1 _)) ?_ | (refine xlP ?_; refine xlQ (fun hcc m => (by first | exact check_1 _ | exact find_1 _)) ?_)) | (show SWp _ _ _ (.region _ _ true) _ _ _ _; refine xG mixed [] ?_) | (show SWp _ _ _ (.cond _ _ _) _ _ _ _; first | (refine cB (fun hc => ?_) (fun hc => ?_) <;> first | exact False.elim hc | exact absurd hc Bool.false_ne_true | exact absurd hc.symm Bool.false_ne_true | skip) | refine cU ?_ ?_)))
  all_goals first | rfl | (exact DVR)
abbrev vH (x y : List Int) : LH := [(0, .lst 3 1 (rows inRow x)), (1, .lst 3 1 (rows inRow y)), (2, .lst 22 1 [[.gl 0], [.gl 1]])]
theorem give_v {g : FuncId} {x y : List Int} {d : DV} (h : DCalls Tryz.prog g [planD exP, intss [x, y]] (hget []) 3 d (hget [])) : DCallsG Tryz.prog g [0, 1, 2] [planD exP, .gl 2] (hget (vH x y)) 3 d (hget []) :=
  DCallsG.giveG (x := .elems 1 (x.map inRow)) (by simp only [HV.fv]; rw [rows_pv]; rfl) rfl (DCallsG.giveG (x := .elems 1 (y.map inRow)) (by simp only [HV.frz, HV.fv, frz_rows]; rw [rows_pv]; rfl) rfl (DCallsG.giveG (x := .elems 1 [[.dat 1 (x.map inRow)], [.dat 1 (y.map inRow)]]) rfl rfl h))
set_option maxRecDepth 20000 in
set_option maxHeartbeats 4000000 in
theorem awake_f (m : Nat) : DCalls Tryz.prog 14 [] (hget []) m (lb true) (hget []) := by
  refine pureC (n := 64) (rs := [.tmp 0]) (ts := [4]) Tryz.func14 rfl (by decide) [] (by (exact SD)) ?_
  (repeat' (first | refine swp_seq [0, 1, 2, 3, 4, 5, 6, 7, 8] ?_ | refine st2 ?_ | (show CallQ ..; first | refine cQ (fun hcc => (by first | exact example_f _)) ?_ | (refine lP ?_; refine lQ (fun hcc m => (by first | exact example_f _)) ?_)) | (show Fct ..; refine fctI (fun hf => ?_)) | (show SWp _ _ _ (.cond _ _ _) _ _ _ _; first | refine cB (fun hc => ?_) (fun hc => ?_) | refine cU ?_ ?_)))
  refine cQT [16, 24, 32] (fun hcc => give_v (check_1 3)) ?_ (hC := fun _ _ => Nat.zero_le _) (hCn := by intro i hi; simp only [List.map_cons, List.map_nil, List.mem_cons, List.not_mem_nil, or_false] at hi; rcases hi with rfl | rfl | rfl <;> rfl)
  (repeat' (first | refine swp_seq [0, 1, 2, 3, 4, 5, 6, 7, 8] ?_ | refine st2 ?_ | (show CallQ ..; first | refine cQ (fun hcc => (by first | exact example_f _)) ?_ | (refine lP ?_; refine lQ (fun hcc m => (by first | exact example_f _)) ?_)) | (show Fct ..; refine fctI (fun hf => ?_)) | (show SWp _ _ _ (.cond _ _ _) _ _ _ _; first | refine cB (fun hc => ?_) (fun hc => ?_) | refine cU ?_ ?_)))
  refine cQT [112, 120, 128] (fun hcc => give_v (check_3 3)) ?_ (hC := fun _ _ => Nat.zero_le _) (hCn := by intro i hi; simp only [List.map_cons, List.map_nil, List.mem_cons, List.not_mem_nil, or_false] at hi; rcases hi with rfl | rfl | rfl <;> rfl)
  (repeat' (first | refine swp_seq [0, 1, 2, 3, 4, 5, 6, 7, 8] ?_ | refine st2 ?_ | (show CallQ ..; first | refine cQ (fun hcc => (by first | exact example_f _)) ?_ | (refine lP ?_; refine lQ (fun hcc m => (by first | exact example_f _)) ?_)) | (show Fct ..; refine fctI (fun hf => ?_)) | (show SWp _ _ _ (.cond _ _ _) _ _ _ _; first | refine cB (fun hc => ?_) (fun hc => ?_) | refine cU ?_ ?_)))
  refine cQT [208, 216, 224] (fun hcc => give_v (bound_1 3)) ?_ (hC := fun _ _ => Nat.zero_le _) (hCn := by intro i hi; simp only [List.map_cons, List.map_nil, List.mem_cons, List.not_mem_nil, or_false] at hi; rcases hi with rfl | rfl | rfl <;> rfl)
  (repeat' (first | refine swp_seq [0, 1, 2, 3, 4, 5, 6, 7, 8] ?_ | refine st2 ?_ | (show CallQ ..; first | refine cQ (fun hcc => (by first | exact example_f _)) ?_ | (refine lP ?_; refine lQ (fun hcc m => (by first | exact example_f _)) ?_)) | (show Fct ..; refine fctI (fun hf => ?_)) | (show SWp _ _ _ (.cond _ _ _) _ _ _ _; first | refine cB (fun hc => ?_) (fun hc => ?_) | refine cU ?_ ?_)))
  all_goals first | rfl | (exact DVR)
theorem rows_ext {a b : List (List Int)} (h1 : a.length = b.length) (h2 : ∀ i, i < a.length → a.getD i default = b.getD i default) : a = b := by
  refine List.ext_getElem h1 fun i hi hj => ?_
  have := h2 i hi
  rw [List.getD_eq_getElem?_getD, List.getD_eq_getElem?_getD, List.getElem?_eq_getElem hi, List.getElem?_eq_getElem hj] at this
  exact this
set_option maxHeartbeats 4000000 in
theorem same_s (a : List (List Int)) (m : Nat) (ha : rowsOk a) : DCalls Tryz.prog 18 [intss a, intss a] (hget []) m (lb true) (hget []) := by
  have h1 := ha.1
  have hn : (a.length : Int) = (a.length : Int) := rfl
  (have := Nonempty.intro hn)
  refine pureC (n := 53) (rs := [.tmp 4]) (ts := [4]) Tryz.func18 rfl (by decide) [] (by (exact SD)) ?_
  (repeat' (first | refine swp_seq [0, 1, 4, 5, 6, 11, 15, 28, 35, 52] ?_ | refine st2 ?_ | (show Fct ..; refine fctI (fun hf => ?_)) | (show SWp _ _ _ (.cond _ _ _) _ _ _ _; first | refine cB (fun hc => ?_) (fun hc => ?_) | refine cU ?_ ?_)))
  refine loop_swp [0, 1, 5] [] 0 (fun q A H => ∃ i : Nat, i ≤ a.length ∧ q = a.length - i ∧ A = [(0, intss a), (1, intss a), (5, li i)] ∧ H = []) (by omega) ?_ ?_ ?_
  · rintro q A H ⟨i, g1, g2, rfl, rfl⟩
    exact ⟨by (exact SD), by (exact SD)⟩
  · refine ⟨_, 0, by omega, rfl, ?_, ?_⟩
    · exact DVR
    · exact DVR
  rintro q A H ⟨i, g1, g2, rfl, rfl⟩
  by_cases hi : i < a.length
  · have hi3 : (i : Int) < (a.length : Int) := by omega
    (have := Nonempty.intro hi3)
    (have := Nonempty.intro hi)
    have hra := rows_len ha hi
    have hl : ((a.getD i default).length : Int) = ((a.getD i default).length : Int) := rfl
    (have := Nonempty.intro hl)
    (repeat' (first | refine swp_seq [0, 1, 4, 5, 6, 11, 15, 28, 35, 52] ?_ | refine st2 ?_ | (show Fct ..; refine fctI (fun hf => ?_)) | (show SWp _ _ _ (.cond _ _ _) _ _ _ _; first | refine cB (fun hc => ?_) (fun hc => ?_) | refine cU ?_ ?_)))
    refine loop_swp [0, 1, 5, 6] [] 0 (fun q A H => ∃ j : Nat, j ≤ (a.getD i default).length ∧ q = (a.getD i default).length - j ∧ A = [(0, intss a), (1, intss a), (5, li i), (6, li j)] ∧ H = []) (by omega) ?_ ?_ ?_
    · rintro q A H ⟨j, g4, g5, rfl, rfl⟩
      exact ⟨by (exact SD), by (exact SD)⟩
    · refine ⟨_, 0, by omega, rfl, ?_, ?_⟩
      · exact DVR
      · exact DVR
    rintro q A H ⟨j, g4, g5, rfl, rfl⟩
    by_cases hj : j < (a.getD i default).length
    · have hj3 : (j : Int) < ((a.getD i default).length : Int) := by omega
      (have := Nonempty.intro hj3)
      (have := Nonempty.intro hj)
      have hv : (a.getD i default).getD j default = (a.getD i default).getD j default := rfl
      (have := Nonempty.intro hv)
      (repeat' (first | refine swp_seq [0, 1, 4, 5, 6, 11, 15, 28, 35, 52] ?_ | refine st2 ?_ | (show Fct ..; refine fctI (fun hf => ?_)) | (show SWp _ _ _ (.cond _ _ _) _ _ _ _; first | refine cB (fun hc => ?_) (fun hc => ?_) | refine cU ?_ ?_)))
      (refine lN [] ?_)
      exact ⟨_, by omega, j + 1, by omega, rfl, rfl, rfl⟩
    have hj3 : ¬ ((j : Int) < ((a.getD i default).length : Int)) := by omega
    (have := Nonempty.intro hj3)
    (repeat' (first | refine swp_seq [0, 1, 4, 5, 6, 11, 15, 28, 35, 52] ?_ | refine st2 ?_ | (show Fct ..; refine fctI (fun hf => ?_)) | (show SWp _ _ _ (.cond _ _ _) _ _ _ _; first | refine cB (fun hc => ?_) (fun hc => ?_) | refine cU ?_ ?_)))
    (refine lN [] ?_)
    exact ⟨_, by omega, i + 1, by omega, rfl, rfl, rfl⟩
  have hi3 : ¬ ((i : Int) < (a.length : Int)) := by omega
  (have := Nonempty.intro hi3)
  (repeat' (first | refine swp_seq [0, 1, 4, 5, 6, 11, 15, 28, 35, 52] ?_ | refine st2 ?_ | (show Fct ..; refine fctI (fun hf => ?_)) | (show SWp _ _ _ (.cond _ _ _) _ _ _ _; first | refine cB (fun hc => ?_) (fun hc => ?_) | refine cU ?_ ?_)))
  exact DVR
theorem full_self (l : List (List Int)) : fullB l l.length = l.any bigB := by unfold fullB; rw [decide_eq_false (by omega)]; rfl
set_option maxRecDepth 20000 in
set_option maxHeartbeats 8000000 in
theorem rGiven_f (p : Plan) (l : List (List Int)) (m : Nat) (hp : planOk p) (hl : rowsOk l) : DCalls Tryz.prog 41 [planD p, intss l] (hget []) m (li (givenE p l)) (hget []) := by
  have h1 := hl.1
  have cv := fun m => rPValid_f p m hp
  cases hv : planB p <;> simp only [hv] at cv
  · rw [show givenE p l = 1 by unfold givenE; rw [if_pos hv]]
    refine pureC (n := 33) (rs := [.tmp 4]) (ts := [3]) Tryz.func41 rfl (by decide) [] (by (exact SD)) ?_
    (repeat' (first | refine swp_seq [0, 1, 2, 4, 5, 8, 12, 19, 23, 32] ?_ | refine st2 ?_ | (show CallQ ..; first | refine cQ (fun hcc => (cv _)) ?_ | (refine lP ?_; refine lQ (fun hcc m => (cv _)) ?_)) | (show XCallQ ..; first | refine xQ (fun hcc => (cv _)) ?_ | (refine xlP ?_; refine xlQ (fun hcc m => (cv _)) ?_)) | (show Fct ..; refine fctI (fun hf => ?_)) | (show SWp _ _ _ (.cond _ _ _) _ _ _ _; first | refine cB (fun hc => ?_) (fun hc => ?_) | refine cU ?_ ?_)))
    exact DVR
  have hsz := planB_sz hv
  have cb := fun m => rfull_f l l.length m hl
  simp only [full_self] at cb
  cases hb : l.any bigB <;> simp only [hb] at cb
  case true =>
    rw [show givenE p l = 4 by unfold givenE; rw [if_neg (by rw [hv]; decide), if_pos hb]]
    refine pureC (n := 33) (rs := [.tmp 4]) (ts := [3]) Tryz.func41 rfl (by decide) [] (by (exact SD)) ?_
    (repeat' (first | refine swp_seq [0, 1, 2, 4, 5, 8, 12, 19, 23, 32] ?_ | refine st2 ?_ | (show CallQ ..; first | refine cQ (fun hcc => (by first | exact cv _ | exact cb _)) ?_ | (refine lP ?_; refine lQ (fun hcc m => (by first | exact cv _ | exact cb _)) ?_)) | (show XCallQ ..; first | refine xQ (fun hcc => (by first | exact cv _ | exact cb _)) ?_ | (refine xlP ?_; refine xlQ (fun hcc m => (by first | exact cv _ | exact cb _)) ?_)) | (show Fct ..; refine fctI (fun hf => ?_)) | (show SWp _ _ _ (.cond _ _ _) _ _ _ _; first | refine cB (fun hc => ?_) (fun hc => ?_) | refine cU ?_ ?_)))
    exact DVR
  have hG : givenE p l = if shapedB p l = false then 25 else 0 := by unfold givenE; rw [if_neg (by rw [hv]; decide), if_neg (by rw [hb]; decide)]
  rw [hG]
  by_cases hn : (l.length : Int) = (p.inf.length : Int) + 1
  case neg =>
    (have := Nonempty.intro hn)
    rw [if_pos (by unfold shapedB; rw [decide_eq_false (by omega)]; rfl)]
    refine pureC (n := 33) (rs := [.tmp 4]) (ts := [3]) Tryz.func41 rfl (by decide) [] (by (exact SD)) ?_
    (repeat' (first | refine swp_seq [0, 1, 2, 4, 5, 8, 12, 19, 23, 32] ?_ | refine st2 ?_ | (show CallQ ..; first | refine cQ (fun hcc => (by first | exact cv _ | exact cb _)) ?_ | (refine lP ?_; refine lQ (fun hcc m => (by first | exact cv _ | exact cb _)) ?_)) | (show XCallQ ..; first | refine xQ (fun hcc => (by first | exact cv _ | exact cb _)) ?_ | (refine xlP ?_; refine xlQ (fun hcc m => (by first | exact cv _ | exact cb _)) ?_)) | (show Fct ..; refine fctI (fun hf => ?_)) | (show SWp _ _ _ (.cond _ _ _) _ _ _ _; first | refine cB (fun hc => ?_) (fun hc => ?_) | refine cU ?_ ?_)))
    exact DVR
  (have := Nonempty.intro hn)
  have hS : shapedB p l = l.all (rowB p) := by unfold shapedB; rw [decide_eq_true (by omega)]; rfl
  rw [hS]
  refine pureC (n := 33) (rs := [.tmp 4]) (ts := [3]) Tryz.func41 rfl (by decide) [] (by (exact SD)) ?_
  (repeat' (first | refine swp_seq [0, 1, 2, 4, 5, 8, 12, 19, 23, 32] ?_ | refine st2 ?_ | (show CallQ ..; first | refine cQ (fun hcc => (by first | exact cv _ | exact cb _)) ?_ | (refine lP ?_; refine lQ (fun hcc m => (by first | exact cv _ | exact cb _)) ?_)) | (show XCallQ ..; first | refine xQ (fun hcc => (by first | exact cv _ | exact cb _)) ?_ | (refine xlP ?_; refine xlQ (fun hcc m => (by first | exact cv _ | exact cb _)) ?_)) | (show Fct ..; refine fctI (fun hf => ?_)) | (show SWp _ _ _ (.cond _ _ _) _ _ _ _; first | refine cB (fun hc => ?_) (fun hc => ?_) | refine cU ?_ ?_)))
  refine loop_swp [1, 2, 5] [0] 1 (fun q A H => ∃ i : Nat, i ≤ l.length ∧ q = l.length - i ∧ (∀ j, j < i → rowB p (l.getD j default) = true) ∧ A = [(1, intss l), (2, .ptr 0 0), (5, li i)] ∧ H = [(0, .blk 26 (planC p))]) (by omega) ?_ ?_ ?_
  · rintro q A H ⟨i, g1, g2, g3, rfl, rfl⟩
    exact ⟨by (exact SD), by (exact SD)⟩
  · refine ⟨_, 0, by omega, rfl, by omega, ?_, ?_⟩
    · exact DVR
    · exact DVR
  rintro q A H ⟨i, g1, g2, g3, rfl, rfl⟩
  by_cases hi : i < l.length
  · have hi3 : (i : Int) < (l.length : Int) := by omega
    (have := Nonempty.intro hi3)
    (have := Nonempty.intro hi)
    have hr := rows_len hl hi
    have cr := fun m => row_f p (l.getD i default) m hp hr
    cases hB : rowB p (l.getD i default) <;> simp only [hB] at cr
    · rw [if_pos (List.all_eq_false.2 ⟨_, getD_mem hi, by rw [hB]; decide⟩)]
      (repeat' (first | refine swp_seq [0, 1, 2, 4, 5, 8, 12, 19, 23, 32] ?_ | refine st2 ?_ | (show CallQ ..; first | refine cQ (fun hcc => (cr _)) ?_ | (refine lP ?_; refine lQ (fun hcc m => (cr _)) ?_)) | (show XCallQ ..; first | refine xQ (fun hcc => (cr _)) ?_ | (refine xlP ?_; refine xlQ (fun hcc m => (cr _)) ?_)) | (show Fct ..; refine fctI (fun hf => ?_)) | (show SWp _ _ _ (.cond _ _ _) _ _ _ _; first | refine cB (fun hc => ?_) (fun hc => ?_) | refine cU ?_ ?_)))
      exact DVR
    · (repeat' (first | refine swp_seq [0, 1, 2, 4, 5, 8, 12, 19, 23, 32] ?_ | refine st2 ?_ | (show CallQ ..; first | refine cQ (fun hcc => (cr _)) ?_ | (refine lP ?_; refine lQ (fun hcc m => (cr _)) ?_)) | (show XCallQ ..; first | refine xQ (fun hcc => (cr _)) ?_ | (refine xlP ?_; refine xlQ (fun hcc m => (cr _)) ?_)) | (show Fct ..; refine fctI (fun hf => ?_)) | (show SWp _ _ _ (.cond _ _ _) _ _ _ _; first | refine cB (fun hc => ?_) (fun hc => ?_) | refine cU ?_ ?_)))
      (refine lN [0] ?_)
      exact ⟨_, by omega, i + 1, by omega, rfl, fun j2 hj2 => by
        by_cases e : j2 = i
        · rw [e, hB]
        · exact g3 j2 (by omega), rfl, rfl⟩
  have hi3 : ¬ ((i : Int) < (l.length : Int)) := by omega
  (have := Nonempty.intro hi3)
  have hall : l.all (rowB p) = true := List.all_eq_true.2 fun r hr => by
    obtain ⟨j, hj, rfl⟩ := List.mem_iff_getElem.1 hr
    have := g3 j (by omega)
    rwa [List.getD_eq_getElem?_getD, List.getElem?_eq_getElem hj] at this
  rw [if_neg (by rw [hall]; decide)]
  (repeat' (first | refine swp_seq [0, 1, 2, 4, 5, 8, 12, 19, 23, 32] ?_ | refine st2 ?_ | (show Fct ..; refine fctI (fun hf => ?_)) | (show SWp _ _ _ (.cond _ _ _) _ _ _ _; first | refine cB (fun hc => ?_) (fun hc => ?_) | refine cU ?_ ?_)))
  exact DVR
set_option maxRecDepth 20000 in
set_option maxHeartbeats 8000000 in
theorem rHolds_f (p : Plan) (l : List (List Int)) (k : Nat) (m : Nat) (hq : planOk p) (hl : rowsOk l) (hg : givenE p l = 0) (hk : k < l.length) : DCalls Tryz.prog 42 [planD p, intss l, li k] (hget []) m (lb (holdsB p l k)) (hget []) := by
  obtain ⟨hp, hln, hrow⟩ := given_in hg
  have hin := planB_in hp
  obtain ⟨hrk, hr8⟩ := hrow k hk
  obtain ⟨he, hval, hsort⟩ := rowB_in hrk
  have hl1 := hl.1
  have cf := fun m => at_f (l.getD k default) p.start m (by omega) he
  (have := Nonempty.intro hk)
  have hP : ∀ j, pairB p l k j = if k + 1 = l.length then decide ((l.getD k default).getD (2 * j + 1) default = 0) else p.rel.all (stB p k ((l.getD k default).getD (2 * j) default) ((l.getD k default).getD (2 * j + 1) default) (l.getD (k + 1) default)) := fun _ => rfl
  have hB : holdsB p l k = ((!decide (k = 0) || (atR (l.getD k default) p.start).2) && (List.range ((l.getD k default).length / 2)).all (pairB p l k)) := rfl
  rw [hB]
  clear hB
  generalize atR (l.getD k default) p.start = A at *
  obtain ⟨y, ok⟩ := A
  by_cases h0 : (k : Int) = 0 ∧ ok = false
  · obtain ⟨h0, rfl⟩ := h0
    rw [decide_eq_true (by omega : k = 0)]
    (have := Nonempty.intro h0)
    refine pureC (n := 86) (rs := [.tmp 6]) (ts := [4]) Tryz.func42 rfl (by decide) [] (by (exact SD)) ?_
    (repeat' (first | refine swp_seq [0, 1, 2, 3, 6, 8, 9, 10, 26, 33, 40, 49, 54, 85] ?_ | refine st2 ?_ | (show CallQ ..; first | refine cQ (fun hcc => (by first | exact cf _)) ?_ | (refine lP ?_; refine lQ (fun hcc m => (by first | exact cf _)) ?_)) | (show XCallQ ..; first | refine xQ (fun hcc => (by first | exact cf _)) ?_ | (refine xlP ?_; refine xlQ (fun hcc m => (by first | exact cf _)) ?_)) | (show Fct ..; refine fctI (fun hf => ?_)) | (show SWp _ _ _ (.cond _ _ _) _ _ _ _; first | refine cB (fun hc => ?_) (fun hc => ?_) | refine cU ?_ ?_)))
    exact DVR
  have hh : (!decide (k = 0) || ok) = true := by
    by_cases e : k = 0
    · subst e
      have : ok = true := by
        cases ok
        · exact absurd ⟨rfl, rfl⟩ h0
        · rfl
      rw [this]; simp
    · rw [decide_eq_false e]; rfl
  rw [hh, Bool.true_and]
  refine pureC (n := 86) (rs := [.tmp 6]) (ts := [4]) Tryz.func42 rfl (by decide) [] (by (exact SD)) ?_
  (repeat' (first | (show SWp _ _ _ (.seq (.region 4 _ _) _) _ _ _ _; refine (stop_in ?_)) | refine swp_seq [0, 1, 2, 3, 6, 8, 9, 10, 26, 33, 40, 49, 54, 85] ?_ | (show SWp _ _ _ (.region _ _ true) _ _ _ _; refine xG mixed [] ?_) | refine st2 ?_ | (show CallQ ..; first | refine cQ (fun hcc => (by first | exact cf _)) ?_ | (refine lP ?_; refine lQ (fun hcc m => (by first | exact cf _)) ?_)) | (show XCallQ ..; first | refine xQ (fun hcc => (by first | exact cf _)) ?_ | (refine xlP ?_; refine xlQ (fun hcc m => (by first | exact cf _)) ?_)) | (show Fct ..; refine fctI (fun hf => ?_)) | (show SWp _ _ _ (.cond _ _ _) _ _ _ _; first | refine cB (fun hc => ?_) (fun hc => ?_) | refine cU ?_ ?_)))
  · exact absurd hc h0
  refine stop_out ?_
  (repeat' (first | refine swp_seq [0, 1, 2, 3, 6, 8, 9, 10, 26, 33, 40, 49, 54, 85] ?_ | refine st2 ?_ | (show Fct ..; refine fctI (fun hf => ?_)) | (show SWp _ _ _ (.cond _ _ _) _ _ _ _; first | refine cB (fun hc => ?_) (fun hc => ?_) | refine cU ?_ ?_)))
  refine loop_swp [1, 2, 3, 9] [0] 1 (fun q A H => ∃ j k2 : Nat, k2 = 2 * j ∧ k2 ≤ (l.getD k default).length ∧ q = (l.getD k default).length - k2 ∧ (∀ i, i < j → pairB p l k i = true) ∧ A = [(1, intss l), (2, li k), (3, .ptr 0 0), (9, li k2)] ∧ H = [(0, .blk 26 (planC p))]) (by omega) ?_ ?_ ?_
  · rintro q A H ⟨j, k2, hk2, g1, g2, g3, rfl, rfl⟩
    exact ⟨by (exact SD), by (exact SD)⟩
  · refine ⟨_, 0, 0, rfl, by omega, rfl, by omega, ?_, ?_⟩
    · exact DVR
    · exact DVR
  rintro q A H ⟨j, k2, hk2, g1, g2, g3, rfl, rfl⟩
  by_cases hj : k2 < (l.getD k default).length
  · have hj3 : (k2 : Int) < ((l.getD k default).length : Int) := by omega
    (have := Nonempty.intro hj3)
    (have := Nonempty.intro hj)
    have hj5 : k2 + 1 < (l.getD k default).length := by omega
    (have := Nonempty.intro hj5)
    have hjl : j < (l.getD k default).length / 2 := by omega
    by_cases hlast : (k : Int) = (l.length : Int) - 1
    · (have := Nonempty.intro hlast)
      have hlk : k + 1 = l.length := by omega
      have hPj : pairB p l k j = decide ((l.getD k default).getD (k2 + 1) default = 0) := by rw [hP, if_pos hlk, hk2]
      by_cases hx : (l.getD k default).getD (k2 + 1) default = 0
      · (have := Nonempty.intro hx)
        (repeat' (first | refine swp_seq [0, 1, 2, 3, 6, 8, 9, 10, 26, 33, 40, 49, 54, 85] ?_ | refine st2 ?_ | (show Fct ..; refine fctI (fun hf => ?_)) | (show SWp _ _ _ (.cond _ _ _) _ _ _ _; first | refine cB (fun hc => ?_) (fun hc => ?_) | refine cU ?_ ?_)))
        (refine lN [0] ?_)
        exact ⟨_, by omega, j + 1, k2 + 2, by omega, by omega, rfl, fun i hi => by
          by_cases e : i = j
          · rw [e, hPj]; exact decide_eq_true hx
          · exact g3 i (by omega), rfl, rfl⟩
      · (have := Nonempty.intro hx)
        rw [rall_false (f := pairB p l k) hjl (by rw [hPj]; exact decide_eq_false hx)]
        (repeat' (first | refine swp_seq [0, 1, 2, 3, 6, 8, 9, 10, 26, 33, 40, 49, 54, 85] ?_ | refine st2 ?_ | (show Fct ..; refine fctI (fun hf => ?_)) | (show SWp _ _ _ (.cond _ _ _) _ _ _ _; first | refine cB (fun hc => ?_) (fun hc => ?_) | refine cU ?_ ?_)))
        exact DVR
    · (have := Nonempty.intro hlast)
      have hk1 : k + 1 < l.length := by omega
      (have := Nonempty.intro hk1)
      obtain ⟨hr2, hr28⟩ := hrow (k + 1) hk1
      obtain ⟨he2, hval2, hsort2⟩ := rowB_in hr2
      have hv0 := hval j hjl
      rw [← hk2] at hv0
      have hPj : pairB p l k j = p.rel.all (stB p k ((l.getD k default).getD k2 default) ((l.getD k default).getD (k2 + 1) default) (l.getD (k + 1) default)) := by rw [hP, if_neg (by omega), hk2]
      (repeat' (first | refine swp_seq [0, 1, 2, 3, 6, 8, 9, 10, 26, 33, 40, 49, 54, 85] ?_ | refine st2 ?_ | (show Fct ..; refine fctI (fun hf => ?_)) | (show SWp _ _ _ (.cond _ _ _) _ _ _ _; first | refine cB (fun hc => ?_) (fun hc => ?_) | refine cU ?_ ?_)))
      refine loop_swp [1, 2, 3, 9, 10] [0] 1 (fun q A H => ∃ i : Nat, i ≤ p.rel.length ∧ q = p.rel.length - i ∧ (∀ j2, j2 < i → stB p k ((l.getD k default).getD k2 default) ((l.getD k default).getD (k2 + 1) default) (l.getD (k + 1) default) (p.rel.getD j2 default) = true) ∧ A = [(1, intss l), (2, li k), (3, .ptr 0 0), (9, li k2), (10, li i)] ∧ H = [(0, .blk 26 (planC p))]) (by omega) ?_ ?_ ?_
      · rintro q A H ⟨i, f1, f2, f3, rfl, rfl⟩
        exact ⟨by (exact SD), by (exact SD)⟩
      · refine ⟨_, 0, by omega, rfl, by omega, ?_, ?_⟩
        · exact DVR
        · exact DVR
      rintro q A H ⟨i, f1, f2, f3, rfl, rfl⟩
      by_cases hi : i < p.rel.length
      · have hi3 : (i : Int) < (p.rel.length : Int) := by omega
        (have := Nonempty.intro hi)
        (have := Nonempty.intro hi3)
        have cs := fun m => rstep_f p (l.getD (k + 1) default) k i ((l.getD k default).getD k2 default) ((l.getD k default).getD (k2 + 1) default) m hp (by omega) hi (by omega) hv0.2 (by omega) he2 (atR_in hr2)
        cases hb : stB p k ((l.getD k default).getD k2 default) ((l.getD k default).getD (k2 + 1) default) (l.getD (k + 1) default) (p.rel.getD i default) <;> simp only [hb] at cs
        · have hall : p.rel.all (stB p k ((l.getD k default).getD k2 default) ((l.getD k default).getD (k2 + 1) default) (l.getD (k + 1) default)) = false := List.all_eq_false.2 ⟨_, getD_mem hi, by rw [hb]; decide⟩
          rw [rall_false (f := pairB p l k) hjl (by rw [hPj]; exact hall)]
          (repeat' (first | refine swp_seq [0, 1, 2, 3, 6, 8, 9, 10, 26, 33, 40, 49, 54, 85] ?_ | refine st2 ?_ | (show CallQ ..; first | refine cQ (fun hcc => (by first | exact cs _)) ?_ | (refine lP ?_; refine lQ (fun hcc m => (by first | exact cs _)) ?_)) | (show XCallQ ..; first | refine xQ (fun hcc => (by first | exact cs _)) ?_ | (refine xlP ?_; refine xlQ (fun hcc m => (by first | exact cs _)) ?_)) | (show Fct ..; refine fctI (fun hf => ?_)) | (show SWp _ _ _ (.cond _ _ _) _ _ _ _; first | refine cB (fun hc => ?_) (fun hc => ?_) | refine cU ?_ ?_)))
          exact DVR
        · (repeat' (first | refine swp_seq [0, 1, 2, 3, 6, 8, 9, 10, 26, 33, 40, 49, 54, 85] ?_ | refine st2 ?_ | (show CallQ ..; first | refine cQ (fun hcc => (by first | exact cs _)) ?_ | (refine lP ?_; refine lQ (fun hcc m => (by first | exact cs _)) ?_)) | (show XCallQ ..; first | refine xQ (fun hcc => (by first | exact cs _)) ?_ | (refine xlP ?_; refine xlQ (fun hcc m => (by first | exact cs _)) ?_)) | (show Fct ..; refine fctI (fun hf => ?_)) | (show SWp _ _ _ (.cond _ _ _) _ _ _ _; first | refine cB (fun hc => ?_) (fun hc => ?_) | refine cU ?_ ?_)))
          (refine lN [0] ?_)
          exact ⟨_, by omega, i + 1, by omega, rfl, fun j2 hj2 => by
            by_cases e : j2 = i
            · rw [e]; exact hb
            · exact f3 j2 (by omega), rfl, rfl⟩
      have hi3 : ¬ ((i : Int) < (p.rel.length : Int)) := by omega
      (have := Nonempty.intro hi3)
      have hall : p.rel.all (stB p k ((l.getD k default).getD k2 default) ((l.getD k default).getD (k2 + 1) default) (l.getD (k + 1) default)) = true := List.all_eq_true.2 fun r hr => by
        obtain ⟨j2, hj2, rfl⟩ := List.mem_iff_getElem.1 hr
        have := f3 j2 (by omega)
        have e : p.rel.getD j2 default = p.rel[j2] := by rw [List.getD_eq_getElem?_getD, List.getElem?_eq_getElem hj2]; rfl
        rwa [e] at this
      (repeat' (first | refine swp_seq [0, 1, 2, 3, 6, 8, 9, 10, 26, 33, 40, 49, 54, 85] ?_ | refine st2 ?_ | (show Fct ..; refine fctI (fun hf => ?_)) | (show SWp _ _ _ (.cond _ _ _) _ _ _ _; first | refine cB (fun hc => ?_) (fun hc => ?_) | refine cU ?_ ?_)))
      (refine lN [0] ?_)
      exact ⟨_, by omega, j + 1, k2 + 2, by omega, by omega, rfl, fun i2 hi2 => by
        by_cases e : i2 = j
        · rw [e, hPj]; exact hall
        · exact g3 i2 (by omega), rfl, rfl⟩
  have hj3 : ¬ ((k2 : Int) < ((l.getD k default).length : Int)) := by omega
  (have := Nonempty.intro hj3)
  rw [rall_true (f := pairB p l k) fun i hi => g3 i (by omega)]
  (repeat' (first | refine swp_seq [0, 1, 2, 3, 6, 8, 9, 10, 26, 33, 40, 49, 54, 85] ?_ | refine st2 ?_ | (show Fct ..; refine fctI (fun hf => ?_)) | (show SWp _ _ _ (.cond _ _ _) _ _ _ _; first | refine cB (fun hc => ?_) (fun hc => ?_) | refine cU ?_ ?_)))
  exact DVR
set_option maxRecDepth 20000 in
set_option maxHeartbeats 8000000 in
theorem rCheck_f (p : Plan) (l : List (List Int)) (m : Nat) (hq : planOk p) (hl : rowsOk l) : DCalls Tryz.prog 21 [planD p, intss l] (hget []) m (.tup [lb (checkR p l).1, li (checkR p l).2.1, li (checkR p l).2.2]) (hget []) := by
  have cg := fun m => rGiven_f p l m hq hl
  have hl1 := hl.1
  by_cases h0 : givenE p l = 0
  case neg =>
    rw [show checkR p l = (false, 0, givenE p l) from if_pos h0]
    generalize givenE p l = E at *
    (have := Nonempty.intro h0)
    refine pureC (n := 27) (rs := [.tmp 4, .tmp 5, .tmp 6]) (ts := [4, 3, 3]) Tryz.func21 rfl (by decide) [] (by (exact SD)) ?_
    (repeat' (first | refine swp_seq [0, 1, 2, 4, 5, 6, 7, 8, 13, 18, 25] ?_ | refine st2 ?_ | (show CallQ ..; first | refine cQ (fun hcc => (by first | exact cg _)) ?_ | (refine lP ?_; refine lQ (fun hcc m => (by first | exact cg _)) ?_)) | (show Fct ..; refine fctI (fun hf => ?_)) | (show SWp _ _ _ (.cond _ _ _) _ _ _ _; first | refine cB (fun hc => ?_) (fun hc => ?_) | refine cU ?_ ?_)))
    exact DVR
  have ch := fun i m hi => rHolds_f p l i m hq hl h0 hi
  have hC : checkR p l = if failK p l < l.length then (false, (failK p l : Int), 0) else (true, 0, 0) := if_neg (fun k => k h0)
  rw [hC]
  clear hC
  rw [h0] at cg
  refine pureC (n := 27) (rs := [.tmp 4, .tmp 5, .tmp 6]) (ts := [4, 3, 3]) Tryz.func21 rfl (by decide) [] (by (exact SD)) ?_
  (repeat' (first | refine swp_seq [0, 1, 2, 4, 5, 6, 7, 8, 13, 18, 25] ?_ | refine st2 ?_ | (show CallQ ..; first | refine cQ (fun hcc => (by first | exact cg _)) ?_ | (refine lP ?_; refine lQ (fun hcc m => (by first | exact cg _)) ?_)) | (show Fct ..; refine fctI (fun hf => ?_)) | (show SWp _ _ _ (.cond _ _ _) _ _ _ _; first | refine cB (fun hc => ?_) (fun hc => ?_) | refine cU ?_ ?_)))
  refine loop_swp [1, 2, 8] [0] 1 (fun q A H => ∃ i : Nat, i ≤ l.length ∧ q = l.length - i ∧ (∀ j, j < i → holdsB p l j = true) ∧ A = [(1, intss l), (2, .ptr 0 0), (8, li i)] ∧ H = [(0, .blk 26 (planC p))]) (by omega) ?_ ?_ ?_
  · rintro q A H ⟨i, g1, g2, g3, rfl, rfl⟩
    exact ⟨by (exact SD), by (exact SD)⟩
  · refine ⟨_, 0, by omega, rfl, by omega, ?_, ?_⟩
    · exact DVR
    · exact DVR
  rintro q A H ⟨i, g1, g2, g3, rfl, rfl⟩
  by_cases hi : i < l.length
  · have hi3 : (i : Int) < (l.length : Int) := by omega
    (have := Nonempty.intro hi3)
    (have := Nonempty.intro hi)
    have chi := fun m => ch i m hi
    cases hb : holdsB p l i <;> simp only [hb] at chi
    · have e := failK_eq hi g3 hb
      rw [if_pos (by omega), e]
      (repeat' (first | refine swp_seq [0, 1, 2, 4, 5, 6, 7, 8, 13, 18, 25] ?_ | refine st2 ?_ | (show CallQ ..; first | refine cQ (fun hcc => (by first | exact chi _)) ?_ | (refine lP ?_; refine lQ (fun hcc m => (by first | exact chi _)) ?_)) | (show Fct ..; refine fctI (fun hf => ?_)) | (show SWp _ _ _ (.cond _ _ _) _ _ _ _; first | refine cB (fun hc => ?_) (fun hc => ?_) | refine cU ?_ ?_)))
      exact DVR
    · (repeat' (first | refine swp_seq [0, 1, 2, 4, 5, 6, 7, 8, 13, 18, 25] ?_ | refine st2 ?_ | (show CallQ ..; first | refine cQ (fun hcc => (by first | exact chi _)) ?_ | (refine lP ?_; refine lQ (fun hcc m => (by first | exact chi _)) ?_)) | (show Fct ..; refine fctI (fun hf => ?_)) | (show SWp _ _ _ (.cond _ _ _) _ _ _ _; first | refine cB (fun hc => ?_) (fun hc => ?_) | refine cU ?_ ?_)))
      (refine lN [0] ?_)
      exact ⟨_, by omega, i + 1, by omega, rfl, fun j hj => by
        by_cases e : j = i
        · rw [e, hb]
        · exact g3 j (by omega), rfl, rfl⟩
  have hi3 : ¬ ((i : Int) < (l.length : Int)) := by omega
  (have := Nonempty.intro hi3)
  rw [if_neg (failK_none fun j hj => g3 j (by omega))]
  (repeat' (first | refine swp_seq [0, 1, 2, 4, 5, 6, 7, 8, 13, 18, 25] ?_ | refine st2 ?_ | (show Fct ..; refine fctI (fun hf => ?_)) | (show SWp _ _ _ (.cond _ _ _) _ _ _ _; first | refine cB (fun hc => ?_) (fun hc => ?_) | refine cU ?_ ?_)))
  exact DVR
set_option maxRecDepth 20000 in
set_option maxHeartbeats 8000000 in
theorem rBound_f (p : Plan) (l : List (List Int)) (m : Nat) (hq : planOk p) (hl : rowsOk l) : DCalls Tryz.prog 22 [planD p, intss l] (hget []) m (.tup [li (boundR p l).1, li (boundR p l).2]) (hget []) := by
  have cc := fun m => rCheck_f p l m hq hl
  have hl1 := hl.1
  by_cases h0 : givenE p l = 0
  case neg =>
    rw [show boundR p l = (0, givenE p l) from if_pos h0]
    rw [show checkR p l = (false, 0, givenE p l) from if_pos h0] at cc
    generalize givenE p l = E at *
    (have := Nonempty.intro h0)
    refine pureC (n := 35) (rs := [.tmp 4, .tmp 5]) (ts := [3, 3]) Tryz.func22 rfl (by decide) [] (by (exact SD)) ?_
    (repeat' (first | refine swp_seq [0, 1, 2, 4, 5, 6, 8, 9, 19, 22, 33] ?_ | refine st2 ?_ | (show CallQ ..; first | refine cQ (fun hcc => (by first | exact cc _)) ?_ | (refine lP ?_; refine lQ (fun hcc m => (by first | exact cc _)) ?_)) | (show XCallQ ..; first | refine xQ (fun hcc => (by first | exact cc _)) ?_ | (refine xlP ?_; refine xlQ (fun hcc m => (by first | exact cc _)) ?_)) | (show Fct ..; refine fctI (fun hf => ?_)) | (show SWp _ _ _ (.cond _ _ _) _ _ _ _; first | refine cB (fun hc => ?_) (fun hc => ?_) | refine cU ?_ ?_)))
    exact DVR
  have hC : checkR p l = if failK p l < l.length then (false, (failK p l : Int), 0) else (true, 0, 0) := if_neg (fun k => k h0)
  have hB : boundR p l = if failK p l < l.length then (0, 13) else if (atR (l.getD 0 default) p.start).1 = -1 then (0, 12) else ((atR (l.getD 0 default) p.start).1, 0) := if_neg (fun k => k h0)
  rw [hB]
  rw [hC] at cc
  clear hC hB
  by_cases h1 : failK p l < l.length
  · rw [if_pos h1] at cc ⊢
    refine pureC (n := 35) (rs := [.tmp 4, .tmp 5]) (ts := [3, 3]) Tryz.func22 rfl (by decide) [] (by (exact SD)) ?_
    (repeat' (first | refine swp_seq [0, 1, 2, 4, 5, 6, 8, 9, 19, 22, 33] ?_ | refine st2 ?_ | (show CallQ ..; first | refine cQ (fun hcc => (by first | exact cc _)) ?_ | (refine lP ?_; refine lQ (fun hcc m => (by first | exact cc _)) ?_)) | (show XCallQ ..; first | refine xQ (fun hcc => (by first | exact cc _)) ?_ | (refine xlP ?_; refine xlQ (fun hcc m => (by first | exact cc _)) ?_)) | (show Fct ..; refine fctI (fun hf => ?_)) | (show SWp _ _ _ (.cond _ _ _) _ _ _ _; first | refine cB (fun hc => ?_) (fun hc => ?_) | refine cU ?_ ?_)))
    exact DVR
  rw [if_neg h1] at cc ⊢
  obtain ⟨hp, hln, hrow⟩ := given_in h0
  have hl0 : 0 < l.length := by omega
  have hl03 : (0 : Int) < (l.length : Int) := by omega
  obtain ⟨hrk, hr8⟩ := hrow 0 hl0
  obtain ⟨he, hval, hsort⟩ := rowB_in hrk
  have cf := fun m => at_f (l.getD 0 default) p.start m (by omega) he
  have hy1 := atR_in hrk p.start
  (have := Nonempty.intro hl0)
  (have := Nonempty.intro hl03)
  generalize atR (l.getD 0 default) p.start = A at *
  obtain ⟨y, ok⟩ := A
  dsimp only at hy1
  by_cases hy : y = -1
  · subst hy
    rw [if_pos rfl]
    refine pureC (n := 35) (rs := [.tmp 4, .tmp 5]) (ts := [3, 3]) Tryz.func22 rfl (by decide) [] (by (exact SD)) ?_
    (repeat' (first | refine swp_seq [0, 1, 2, 4, 5, 6, 8, 9, 19, 22, 33] ?_ | refine st2 ?_ | (show CallQ ..; first | refine cQ (fun hcc => (by first | exact cc _ | exact cf _)) ?_ | (refine lP ?_; refine lQ (fun hcc m => (by first | exact cc _ | exact cf _)) ?_)) | (show XCallQ ..; first | refine xQ (fun hcc => (by first | exact cc _ | exact cf _)) ?_ | (refine xlP ?_; refine xlQ (fun hcc m => (by first | exact cc _ | exact cf _)) ?_)) | (show Fct ..; refine fctI (fun hf => ?_)) | (show SWp _ _ _ (.cond _ _ _) _ _ _ _; first | refine cB (fun hc => ?_) (fun hc => ?_) | refine cU ?_ ?_)))
    exact DVR
  · have hy0 : ¬ (y < 0) := by omega
    (have := Nonempty.intro hy0)
    rw [if_neg hy]
    refine pureC (n := 35) (rs := [.tmp 4, .tmp 5]) (ts := [3, 3]) Tryz.func22 rfl (by decide) [] (by (exact SD)) ?_
    (repeat' (first | refine swp_seq [0, 1, 2, 4, 5, 6, 8, 9, 19, 22, 33] ?_ | refine st2 ?_ | (show CallQ ..; first | refine cQ (fun hcc => (by first | exact cc _ | exact cf _)) ?_ | (refine lP ?_; refine lQ (fun hcc m => (by first | exact cc _ | exact cf _)) ?_)) | (show XCallQ ..; first | refine xQ (fun hcc => (by first | exact cc _ | exact cf _)) ?_ | (refine xlP ?_; refine xlQ (fun hcc m => (by first | exact cc _ | exact cf _)) ?_)) | (show Fct ..; refine fctI (fun hf => ?_)) | (show SWp _ _ _ (.cond _ _ _) _ _ _ _; first | refine cB (fun hc => ?_) (fun hc => ?_) | refine cU ?_ ?_)))
    exact DVR
end Go.Proofs.YtlailhdmgehniaaGreat
