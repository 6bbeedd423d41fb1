/-
  Contracts of functions of the program, over the engine.
  No condition.
-/
import Derived.Test.YtlbadfjonhgppaaCT16T17a
namespace Go.Proofs.Ytlbadfjonhgppaa
open Go.Eng
set_option linter.all false
attribute [local irreducible] DCallsG SWp Fct CallQ XCallQ LCallQ XLCallQ drun xrun
set_option maxRecDepth 20000 in
set_option maxHeartbeats 16000000 in
theorem tail1_f (n : Net) (s : Sta) (hn : netOk n) (hv : netB n = false) : TailS n s zSta 0 1 [] 1 := by
  have eV := fun m => rNetValid_f n m hn
  simp only [hv] at eV
  have eE := fun m => sameT zSta m zOk
  unfold TailS
  change SWp _ _ _ (Code.seq _ _) _ _ _ _
  (repeat' (first | refine swp_seq [0, 1, 2, 3, 4, 5, 8, 9, 10, 11, 12, 13, 14, 15, 16, 17, 18, 19, 20, 22, 23, 24, 25, 27, 35, 57, 61, 71, 78, 84, 86, 92, 107, 116, 146, 147, 148, 149, 165] ?_ | refine st1 ?_ | (show CallQ ..; first | refine cF ?_ | refine cQ (fun hcc => (by first | exact eV _ | exact eE _)) ?_ | (refine lP ?_; refine lQ (fun hcc m => (by first | exact eV _ | exact eE _)) ?_)) | (show Fct ..; refine fctI (fun hf => ?_)) | (show XCallQ ..; first | refine xcF ?_ | refine xQ (fun hcc => (by first | exact eV _ | exact eE _)) ?_ | (refine xlP ?_; refine xlQ (fun hcc m => (by first | exact eV _ | exact eE _)) ?_)) | (show SWp _ _ _ (.region _ _ true) _ _ _ _; refine xG mixed [] ?_) | (show SWp _ _ _ (.cond _ _ _) _ _ _ _; first | (refine cB (fun hc => ?_) (fun hc => ?_) <;> first | exact False.elim hc | exact absurd hc Bool.false_ne_true | exact absurd hc.symm Bool.false_ne_true | skip) | refine cU ?_ ?_)))
  (((simp only [push_cast, reduceIte, reduceDIte, reduceCtorEq, Nat.reduceLT, Nat.reduceLeDiff, Nat.reduceEqDiff, Nat.reduceAdd, Nat.reduceMul, Nat.reduceBEq, Nat.reducePow, Int.zero_add, Int.reduceAdd, Int.reduceSub, Int.reduceLT, Int.reduceLE, Int.reduceToNat, Int.reduceNeg, Nat.reduceSub, Int.reduceBNe, Int.reduceBEq]); repeat (simp (disch := omega) only [idx_nat, idx_mapT, i64w, rows_getS, rows_get, getD_set_self, famR_get]; try (simp only [push_cast, reduceIte, reduceDIte, reduceCtorEq, Nat.reduceLT, Nat.reduceLeDiff, Nat.reduceEqDiff, Nat.reduceAdd, Nat.reduceMul, Nat.reduceBEq, Nat.reducePow, Int.zero_add, Int.reduceAdd, Int.reduceSub, Int.reduceLT, Int.reduceLE, Int.reduceToNat, Int.reduceNeg, Nat.reduceSub, Int.reduceBNe, Int.reduceBEq]))))
set_option maxRecDepth 20000 in
set_option maxHeartbeats 16000000 in
theorem tail2_f (n : Net) (s : Sta) (hn : netOk n) (hs : staOk s) (hv : netB n = true) (hb : staB n s = false) : TailS n s zSta 0 1 [] 1 := by
  have eV := fun m => rNetValid_f n m hn
  have eT := fun m => rStaValid_f n s m hv hs
  simp only [hv] at eV
  simp only [hb] at eT
  have eE := fun m => sameT zSta m zOk
  unfold TailS
  change SWp _ _ _ (Code.seq _ _) _ _ _ _
  (repeat' (first | refine swp_seq [0, 1, 2, 3, 4, 5, 8, 9, 10, 11, 12, 13, 14, 15, 16, 17, 18, 19, 20, 22, 23, 24, 25, 27, 35, 57, 61, 71, 78, 84, 86, 92, 107, 116, 146, 147, 148, 149, 165] ?_ | refine st1 ?_ | (show CallQ ..; first | refine cF ?_ | refine cQ (fun hcc => (by first | exact eV _ | exact eT _ | exact eE _)) ?_ | (refine lP ?_; refine lQ (fun hcc m => (by first | exact eV _ | exact eT _ | exact eE _)) ?_)) | (show Fct ..; refine fctI (fun hf => ?_)) | (show XCallQ ..; first | refine xcF ?_ | refine xQ (fun hcc => (by first | exact eV _ | exact eT _ | exact eE _)) ?_ | (refine xlP ?_; refine xlQ (fun hcc m => (by first | exact eV _ | exact eT _ | exact eE _)) ?_)) | (show SWp _ _ _ (.region _ _ true) _ _ _ _; refine xG mixed [] ?_) | (show SWp _ _ _ (.cond _ _ _) _ _ _ _; first | (refine cB (fun hc => ?_) (fun hc => ?_) <;> first | exact False.elim hc | exact absurd hc Bool.false_ne_true | exact absurd hc.symm Bool.false_ne_true | skip) | refine cU ?_ ?_)))
  (((simp only [push_cast, reduceIte, reduceDIte, reduceCtorEq, Nat.reduceLT, Nat.reduceLeDiff, Nat.reduceEqDiff, Nat.reduceAdd, Nat.reduceMul, Nat.reduceBEq, Nat.reducePow, Int.zero_add, Int.reduceAdd, Int.reduceSub, Int.reduceLT, Int.reduceLE, Int.reduceToNat, Int.reduceNeg, Nat.reduceSub, Int.reduceBNe, Int.reduceBEq]); repeat (simp (disch := omega) only [idx_nat, idx_mapT, i64w, rows_getS, rows_get, getD_set_self, famR_get]; try (simp only [push_cast, reduceIte, reduceDIte, reduceCtorEq, Nat.reduceLT, Nat.reduceLeDiff, Nat.reduceEqDiff, Nat.reduceAdd, Nat.reduceMul, Nat.reduceBEq, Nat.reducePow, Int.zero_add, Int.reduceAdd, Int.reduceSub, Int.reduceLT, Int.reduceLE, Int.reduceToNat, Int.reduceNeg, Nat.reduceSub, Int.reduceBNe, Int.reduceBEq]))))

end Go.Proofs.Ytlbadfjonhgppaa
