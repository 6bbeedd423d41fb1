/-
  Contracts of functions of the program, over the engine.
  No condition.
-/
import Derived.Test.YtagalkckebffhaaCC16
import Derived.Test.YtagalkckebffhaaCC4
import Derived.Test.YtagalkckebffhaaCC5
import Derived.Test.YtagalkckebffhaaCC7
import Derived.Test.YtagalkckebffhaaCC8
namespace Go.Proofs.Ytagalkckebffhaa
open Go.Eng
set_option linter.all false
attribute [local irreducible] DCallsG SWp Fct CallQ XCallQ LCallQ XLCallQ drun xrun

theorem bytesEq_f (l k : List UInt8) (m : Nat) : DCalls Try.prog 23 [bys l, bys k] (hget []) m (lb (decide (l = k))) (hget []) := by
  refine pureC (n := 10) (rs := [.tmp 4]) (ts := [4]) Try.func23 rfl (by decide) [] (by (exact SD)) ?_
  (repeat' (first | refine swp_seq [0, 1, 4] ?_ | refine st1 ?_ | (show Fct ..; refine fctI (fun hf => ?_)) | (show SWp _ _ _ (.region _ _ true) _ _ _ _; refine xG mixed [] ?_) | (show SWp _ _ _ (.cond _ _ _) _ _ _ _; first | (refine cB (fun hc => ?_) (fun hc => ?_) <;> first | exact False.elim hc | exact absurd hc Bool.false_ne_true | exact absurd hc.symm Bool.false_ne_true | skip) | refine cU ?_ ?_)))
  (((simp only [push_cast, reduceIte, reduceDIte, reduceCtorEq, Nat.reduceLT, Nat.reduceLeDiff, Nat.reduceEqDiff, Nat.reduceAdd, Nat.reduceMul, Nat.reduceBEq, Nat.reducePow, Int.zero_add, Int.reduceAdd, Int.reduceSub, Int.reduceLT, Int.reduceLE, Int.reduceToNat, Int.reduceNeg, Nat.reduceSub, Int.reduceBNe, Int.reduceBEq, Int.reduceTDiv, Int.reduceTMod, Int.reduceMul]); repeat (simp (disch := omega) only [idx_nat, idx_mapT, i64w, rows_getS, rows_get, getD_set_self, famR_get]; try (simp only [push_cast, reduceIte, reduceDIte, reduceCtorEq, Nat.reduceLT, Nat.reduceLeDiff, Nat.reduceEqDiff, Nat.reduceAdd, Nat.reduceMul, Nat.reduceBEq, Nat.reducePow, Int.zero_add, Int.reduceAdd, Int.reduceSub, Int.reduceLT, Int.reduceLE, Int.reduceToNat, Int.reduceNeg, Nat.reduceSub, Int.reduceBNe, Int.reduceBEq, Int.reduceTDiv, Int.reduceTMod, Int.reduceMul]))))
  congr 3
  simp
theorem bytesEq_s (l : List UInt8) (m : Nat) : DCalls Try.prog 23 [bys l, bys l] (hget []) m (lb true) (hget []) := by
  have := bytesEq_f l l m
  rwa [decide_eq_true rfl] at this
set_option maxRecDepth 20000 in
set_option maxHeartbeats 8000000 in
theorem forms_f (a b : List (List Int)) (m : Nat) (ha : rowsOk a) (hb : rowsOk b) : DCalls Try.prog 5 [intss a, intss b] (hget []) m (lb true) (hget []) := by
  have sa := fun m => short_f a m ha
  have sb := fun m => short_f b m hb
  cases hsa : shortB a <;> simp only [hsa] at sa
  · refine pureC (n := 63) (rs := [.tmp 4]) (ts := [4]) Try.func5 rfl (by decide) [] (by (exact SD)) ?_
    (repeat' (first | refine swp_seq [0, 1, 4, 5, 6, 7, 8, 9, 10, 11, 12, 14, 22] ?_ | refine st1 ?_ | (show CallQ ..; first | refine cF ?_ | refine cQ (fun hcc => (by first | exact awake_f _ | exact sa _)) ?_ | (refine lP ?_; refine lQ (fun hcc m => (by first | exact awake_f _ | exact sa _)) ?_)) | (show Fct ..; refine fctI (fun hf => ?_)) | (show XCallQ ..; first | refine xcF ?_ | refine xQ (fun hcc => (by first | exact awake_f _ | exact sa _)) ?_ | (refine xlP ?_; refine xlQ (fun hcc m => (by first | exact awake_f _ | exact sa _)) ?_)) | (show SWp _ _ _ (.region _ _ true) _ _ _ _; refine xG mixed [] ?_) | (show SWp _ _ _ (.cond _ _ _) _ _ _ _; first | (refine cB (fun hc => ?_) (fun hc => ?_) <;> first | exact False.elim hc | exact absurd hc Bool.false_ne_true | exact absurd hc.symm Bool.false_ne_true | skip) | refine cU ?_ ?_)))
    (((simp only [push_cast, reduceIte, reduceDIte, reduceCtorEq, Nat.reduceLT, Nat.reduceLeDiff, Nat.reduceEqDiff, Nat.reduceAdd, Nat.reduceMul, Nat.reduceBEq, Nat.reducePow, Int.zero_add, Int.reduceAdd, Int.reduceSub, Int.reduceLT, Int.reduceLE, Int.reduceToNat, Int.reduceNeg, Nat.reduceSub, Int.reduceBNe, Int.reduceBEq, Int.reduceTDiv, Int.reduceTMod, Int.reduceMul]); repeat (simp (disch := omega) only [idx_nat, idx_mapT, i64w, rows_getS, rows_get, getD_set_self, famR_get]; try (simp only [push_cast, reduceIte, reduceDIte, reduceCtorEq, Nat.reduceLT, Nat.reduceLeDiff, Nat.reduceEqDiff, Nat.reduceAdd, Nat.reduceMul, Nat.reduceBEq, Nat.reducePow, Int.zero_add, Int.reduceAdd, Int.reduceSub, Int.reduceLT, Int.reduceLE, Int.reduceToNat, Int.reduceNeg, Nat.reduceSub, Int.reduceBNe, Int.reduceBEq, Int.reduceTDiv, Int.reduceTMod, Int.reduceMul])))) <;> rfl
  cases hsb : shortB b <;> simp only [hsb] at sb
  · refine pureC (n := 63) (rs := [.tmp 4]) (ts := [4]) Try.func5 rfl (by decide) [] (by (exact SD)) ?_
    (repeat' (first | refine swp_seq [0, 1, 4, 5, 6, 7, 8, 9, 10, 11, 12, 14, 22] ?_ | refine st1 ?_ | (show CallQ ..; first | refine cF ?_ | refine cQ (fun hcc => (by first | exact awake_f _ | exact sa _ | exact sb _)) ?_ | (refine lP ?_; refine lQ (fun hcc m => (by first | exact awake_f _ | exact sa _ | exact sb _)) ?_)) | (show Fct ..; refine fctI (fun hf => ?_)) | (show XCallQ ..; first | refine xcF ?_ | refine xQ (fun hcc => (by first | exact awake_f _ | exact sa _ | exact sb _)) ?_ | (refine xlP ?_; refine xlQ (fun hcc m => (by first | exact awake_f _ | exact sa _ | exact sb _)) ?_)) | (show SWp _ _ _ (.region _ _ true) _ _ _ _; refine xG mixed [] ?_) | (show SWp _ _ _ (.cond _ _ _) _ _ _ _; first | (refine cB (fun hc => ?_) (fun hc => ?_) <;> first | exact False.elim hc | exact absurd hc Bool.false_ne_true | exact absurd hc.symm Bool.false_ne_true | skip) | refine cU ?_ ?_)))
    (((simp only [push_cast, reduceIte, reduceDIte, reduceCtorEq, Nat.reduceLT, Nat.reduceLeDiff, Nat.reduceEqDiff, Nat.reduceAdd, Nat.reduceMul, Nat.reduceBEq, Nat.reducePow, Int.zero_add, Int.reduceAdd, Int.reduceSub, Int.reduceLT, Int.reduceLE, Int.reduceToNat, Int.reduceNeg, Nat.reduceSub, Int.reduceBNe, Int.reduceBEq, Int.reduceTDiv, Int.reduceTMod, Int.reduceMul]); repeat (simp (disch := omega) only [idx_nat, idx_mapT, i64w, rows_getS, rows_get, getD_set_self, famR_get]; try (simp only [push_cast, reduceIte, reduceDIte, reduceCtorEq, Nat.reduceLT, Nat.reduceLeDiff, Nat.reduceEqDiff, Nat.reduceAdd, Nat.reduceMul, Nat.reduceBEq, Nat.reducePow, Int.zero_add, Int.reduceAdd, Int.reduceSub, Int.reduceLT, Int.reduceLE, Int.reduceToNat, Int.reduceNeg, Nat.reduceSub, Int.reduceBNe, Int.reduceBEq, Int.reduceTDiv, Int.reduceTMod, Int.reduceMul])))) <;> rfl
  have c1 := fun m => weaker_f a b m ha hb
  have c2 := fun m => encode_f a m ha
  have c3 := fun m => rWeaker_f a b m ha hb
  have c4 := fun m => rEncode_f a m ha
  generalize weakR a b = W at *
  generalize encR a = X at *
  obtain ⟨w, e⟩ := W
  obtain ⟨x, y⟩ := X
  have hEE : e = e := rfl
  have hYY : y = y := rfl
  (have := Nonempty.intro hEE)
  (have := Nonempty.intro hYY)
  cases w
  · refine pureC (n := 63) (rs := [.tmp 4]) (ts := [4]) Try.func5 rfl (by decide) [] (by (exact SD)) ?_
    (repeat' (first | refine swp_seq [0, 1, 4, 5, 6, 7, 8, 9, 10, 11, 12, 14, 22] ?_ | refine st1 ?_ | (show CallQ ..; first | refine cF ?_ | refine cQ (fun hcc => (by first | exact awake_f _ | exact sa _ | exact sb _ | exact c1 _ | exact c2 _ | exact c3 _ | exact c4 _ | exact bytesEq_s _ _)) ?_ | (refine lP ?_; refine lQ (fun hcc m => (by first | exact awake_f _ | exact sa _ | exact sb _ | exact c1 _ | exact c2 _ | exact c3 _ | exact c4 _ | exact bytesEq_s _ _)) ?_)) | (show Fct ..; refine fctI (fun hf => ?_)) | (show XCallQ ..; first | refine xcF ?_ | refine xQ (fun hcc => (by first | exact awake_f _ | exact sa _ | exact sb _ | exact c1 _ | exact c2 _ | exact c3 _ | exact c4 _ | exact bytesEq_s _ _)) ?_ | (refine xlP ?_; refine xlQ (fun hcc m => (by first | exact awake_f _ | exact sa _ | exact sb _ | exact c1 _ | exact c2 _ | exact c3 _ | exact c4 _ | exact bytesEq_s _ _)) ?_)) | (show SWp _ _ _ (.region _ _ true) _ _ _ _; refine xG mixed [] ?_) | (show SWp _ _ _ (.cond _ _ _) _ _ _ _; first | (refine cB (fun hc => ?_) (fun hc => ?_) <;> first | exact False.elim hc | exact absurd hc Bool.false_ne_true | exact absurd hc.symm Bool.false_ne_true | skip) | refine cU ?_ ?_)))
    (((simp only [push_cast, reduceIte, reduceDIte, reduceCtorEq, Nat.reduceLT, Nat.reduceLeDiff, Nat.reduceEqDiff, Nat.reduceAdd, Nat.reduceMul, Nat.reduceBEq, Nat.reducePow, Int.zero_add, Int.reduceAdd, Int.reduceSub, Int.reduceLT, Int.reduceLE, Int.reduceToNat, Int.reduceNeg, Nat.reduceSub, Int.reduceBNe, Int.reduceBEq, Int.reduceTDiv, Int.reduceTMod, Int.reduceMul]); repeat (simp (disch := omega) only [idx_nat, idx_mapT, i64w, rows_getS, rows_get, getD_set_self, famR_get]; try (simp only [push_cast, reduceIte, reduceDIte, reduceCtorEq, Nat.reduceLT, Nat.reduceLeDiff, Nat.reduceEqDiff, Nat.reduceAdd, Nat.reduceMul, Nat.reduceBEq, Nat.reducePow, Int.zero_add, Int.reduceAdd, Int.reduceSub, Int.reduceLT, Int.reduceLE, Int.reduceToNat, Int.reduceNeg, Nat.reduceSub, Int.reduceBNe, Int.reduceBEq, Int.reduceTDiv, Int.reduceTMod, Int.reduceMul])))) <;> rfl
  · refine pureC (n := 63) (rs := [.tmp 4]) (ts := [4]) Try.func5 rfl (by decide) [] (by (exact SD)) ?_
    (repeat' (first | refine swp_seq [0, 1, 4, 5, 6, 7, 8, 9, 10, 11, 12, 14, 22] ?_ | refine st1 ?_ | (show CallQ ..; first | refine cF ?_ | refine cQ (fun hcc => (by first | exact awake_f _ | exact sa _ | exact sb _ | exact c1 _ | exact c2 _ | exact c3 _ | exact c4 _ | exact bytesEq_s _ _)) ?_ | (refine lP ?_; refine lQ (fun hcc m => (by first | exact awake_f _ | exact sa _ | exact sb _ | exact c1 _ | exact c2 _ | exact c3 _ | exact c4 _ | exact bytesEq_s _ _)) ?_)) | (show Fct ..; refine fctI (fun hf => ?_)) | (show XCallQ ..; first | refine xcF ?_ | refine xQ (fun hcc => (by first | exact awake_f _ | exact sa _ | exact sb _ | exact c1 _ | exact c2 _ | exact c3 _ | exact c4 _ | exact bytesEq_s _ _)) ?_ | (refine xlP ?_; refine xlQ (fun hcc m => (by first | exact awake_f _ | exact sa _ | exact sb _ | exact c1 _ | exact c2 _ | exact c3 _ | exact c4 _ | exact bytesEq_s _ _)) ?_)) | (show SWp _ _ _ (.region _ _ true) _ _ _ _; refine xG mixed [] ?_) | (show SWp _ _ _ (.cond _ _ _) _ _ _ _; first | (refine cB (fun hc => ?_) (fun hc => ?_) <;> first | exact False.elim hc | exact absurd hc Bool.false_ne_true | exact absurd hc.symm Bool.false_ne_true | skip) | refine cU ?_ ?_)))
    (((simp only [push_cast, reduceIte, reduceDIte, reduceCtorEq, Nat.reduceLT, Nat.reduceLeDiff, Nat.reduceEqDiff, Nat.reduceAdd, Nat.reduceMul, Nat.reduceBEq, Nat.reducePow, Int.zero_add, Int.reduceAdd, Int.reduceSub, Int.reduceLT, Int.reduceLE, Int.reduceToNat, Int.reduceNeg, Nat.reduceSub, Int.reduceBNe, Int.reduceBEq, Int.reduceTDiv, Int.reduceTMod, Int.reduceMul]); repeat (simp (disch := omega) only [idx_nat, idx_mapT, i64w, rows_getS, rows_get, getD_set_self, famR_get]; try (simp only [push_cast, reduceIte, reduceDIte, reduceCtorEq, Nat.reduceLT, Nat.reduceLeDiff, Nat.reduceEqDiff, Nat.reduceAdd, Nat.reduceMul, Nat.reduceBEq, Nat.reducePow, Int.zero_add, Int.reduceAdd, Int.reduceSub, Int.reduceLT, Int.reduceLE, Int.reduceToNat, Int.reduceNeg, Nat.reduceSub, Int.reduceBNe, Int.reduceBEq, Int.reduceTDiv, Int.reduceTMod, Int.reduceMul])))) <;> rfl

end Go.Proofs.Ytagalkckebffhaa
