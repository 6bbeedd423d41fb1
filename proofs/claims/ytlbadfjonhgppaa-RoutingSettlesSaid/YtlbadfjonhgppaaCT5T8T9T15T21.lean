/-
  Contracts of functions of the program, over the engine.
  No condition.
-/
import Derived.Test.YtlbadfjonhgppaaCT1T2T2e
import Derived.Test.YtlbadfjonhgppaaCN0Nm
import Derived.Test.YtlbadfjonhgppaaEngV
import Derived.Test.YtlbadfjonhgppaaRows
namespace Go.Proofs.Ytlbadfjonhgppaa
open Go.Eng
set_option linter.all false
attribute [local irreducible] DCallsG SWp Fct CallQ XCallQ LCallQ XLCallQ drun xrun

def nodeIx (l : List Node) (s : ByteArray) : Int := idxI (fun x => decide (x.name = s)) l
def linkIx (l : List Link) (s : ByteArray) : Int := idxI (fun x => decide (x.name = s)) l
theorem idxI_lt {α : Type} (p : α → Bool) (l : List α) : -1 ≤ idxI p l ∧ idxI p l < l.length := by
  unfold idxI
  cases h : l.findIdx? p with
  | none => simp; omega
  | some i =>
    rw [List.findIdx?_eq_some_iff_getElem] at h
    obtain ⟨hi, _⟩ := h
    simp; omega
theorem node1_f (x : Node) (s : ByteArray) (m : Nat) : DCalls Try.prog 75 [nodeD x, .ptr 0 0] (hget [(0, .blk 9 [.p (.lit (.string s))])]) m (lb (decide (x.name = s))) (hget [(0, .blk 9 [.p (.lit (.string s))])]) := by
  refine contract (n := 8) (rs := [.tmp 3]) (ts := [4]) Try.func75 rfl (by decide) 1 1 [] [] [] (lb (decide (x.name = s))) [(0, .blk 9 [.p (.lit (.string s))])] (by (exact SD)) (by (exact SD)) ?_
  (repeat' (first | refine swp_seq [0, 1, 2, 3] ?_ | refine st1 ?_ | (show Fct ..; refine fctI (fun hf => ?_)) | (show SWp _ _ _ (.region _ _ true) _ _ _ _; refine xG mixed [] ?_) | (show SWp _ _ _ (.cond _ _ _) _ _ _ _; first | (refine cB (fun hc => ?_) (fun hc => ?_) <;> first | exact False.elim hc | exact absurd hc Bool.false_ne_true | exact absurd hc.symm Bool.false_ne_true | skip) | refine cU ?_ ?_)))
  (((simp only [push_cast, reduceIte, reduceDIte, reduceCtorEq, Nat.reduceLT, Nat.reduceLeDiff, Nat.reduceEqDiff, Nat.reduceAdd, Nat.reduceMul, Nat.reduceBEq, Nat.reducePow, Int.zero_add, Int.reduceAdd, Int.reduceSub, Int.reduceLT, Int.reduceLE, Int.reduceToNat, Int.reduceNeg, Nat.reduceSub, Int.reduceBNe, Int.reduceBEq]); repeat (simp (disch := omega) only [idx_nat, idx_mapT, i64w, rows_getS, rows_get, getD_set_self, famR_get]; try (simp only [push_cast, reduceIte, reduceDIte, reduceCtorEq, Nat.reduceLT, Nat.reduceLeDiff, Nat.reduceEqDiff, Nat.reduceAdd, Nat.reduceMul, Nat.reduceBEq, Nat.reducePow, Int.zero_add, Int.reduceAdd, Int.reduceSub, Int.reduceLT, Int.reduceLE, Int.reduceToNat, Int.reduceNeg, Nat.reduceSub, Int.reduceBNe, Int.reduceBEq]))))
theorem link1_f (x : Link) (s : ByteArray) (m : Nat) : DCalls Try.prog 81 [linkD x, .ptr 0 0] (hget [(0, .blk 9 [.p (.lit (.string s))])]) m (lb (decide (x.name = s))) (hget [(0, .blk 9 [.p (.lit (.string s))])]) := by
  refine contract (n := 8) (rs := [.tmp 3]) (ts := [4]) Try.func81 rfl (by decide) 1 1 [] [] [] (lb (decide (x.name = s))) [(0, .blk 9 [.p (.lit (.string s))])] (by (exact SD)) (by (exact SD)) ?_
  (repeat' (first | refine swp_seq [0, 1, 2, 3] ?_ | refine st1 ?_ | (show Fct ..; refine fctI (fun hf => ?_)) | (show SWp _ _ _ (.region _ _ true) _ _ _ _; refine xG mixed [] ?_) | (show SWp _ _ _ (.cond _ _ _) _ _ _ _; first | (refine cB (fun hc => ?_) (fun hc => ?_) <;> first | exact False.elim hc | exact absurd hc Bool.false_ne_true | exact absurd hc.symm Bool.false_ne_true | skip) | refine cU ?_ ?_)))
  (((simp only [push_cast, reduceIte, reduceDIte, reduceCtorEq, Nat.reduceLT, Nat.reduceLeDiff, Nat.reduceEqDiff, Nat.reduceAdd, Nat.reduceMul, Nat.reduceBEq, Nat.reducePow, Int.zero_add, Int.reduceAdd, Int.reduceSub, Int.reduceLT, Int.reduceLE, Int.reduceToNat, Int.reduceNeg, Nat.reduceSub, Int.reduceBNe, Int.reduceBEq]); repeat (simp (disch := omega) only [idx_nat, idx_mapT, i64w, rows_getS, rows_get, getD_set_self, famR_get]; try (simp only [push_cast, reduceIte, reduceDIte, reduceCtorEq, Nat.reduceLT, Nat.reduceLeDiff, Nat.reduceEqDiff, Nat.reduceAdd, Nat.reduceMul, Nat.reduceBEq, Nat.reducePow, Int.zero_add, Int.reduceAdd, Int.reduceSub, Int.reduceLT, Int.reduceLE, Int.reduceToNat, Int.reduceNeg, Nat.reduceSub, Int.reduceBNe, Int.reduceBEq]))))
theorem node_f (n : Net) (s : ByteArray) (m : Nat) (hl : n.nodes.length ≤ 281474976710656) : DCalls Try.prog 57 [netD n, ls s] (hget []) m (li (nodeIx n.nodes s)) (hget []) := by
  refine pureC (n := 9) (rs := [.tmp 4]) (ts := [3]) Try.func57 rfl (by decide) [] (by (exact SD)) ?_
  (repeat' (first | refine swp_seq [0, 1, 2, 3, 4] ?_ | refine st1 ?_ | (show CallQ ..; first | refine cF ?_ | refine cQ (fun hcc => (by fail)) ?_ | (refine lP ?_; refine lQ (fun hcc m => (by fail)) ?_)) | (show Fct ..; refine fctI (fun hf => ?_)) | (show XCallQ ..; first | refine xcF ?_ | refine xQ (fun hcc => (by fail)) ?_ | (refine xlP ?_; refine xlQ (fun hcc m => (by fail)) ?_)) | (show SWp _ _ _ (.region _ _ true) _ _ _ _; refine xG mixed [] ?_) | (show SWp _ _ _ (.cond _ _ _) _ _ _ _; first | (refine cB (fun hc => ?_) (fun hc => ?_) <;> first | exact False.elim hc | exact absurd hc Bool.false_ne_true | exact absurd hc.symm Bool.false_ne_true | skip) | refine cU ?_ ?_)))
  (refine cQT [8] (fun hcc => (idxNodeC_f 75 9 [.lit (.string s)] (fun x => decide (x.name = s)) n.nodes hl (fun x _ m => node1_f x s m))) ?_)
  (repeat' (first | refine swp_seq [0, 1, 2, 3, 4] ?_ | refine st1 ?_ | (show CallQ ..; first | refine cF ?_ | refine cQ (fun hcc => (by fail)) ?_ | (refine lP ?_; refine lQ (fun hcc m => (by fail)) ?_)) | (show Fct ..; refine fctI (fun hf => ?_)) | (show XCallQ ..; first | refine xcF ?_ | refine xQ (fun hcc => (by fail)) ?_ | (refine xlP ?_; refine xlQ (fun hcc m => (by fail)) ?_)) | (show SWp _ _ _ (.region _ _ true) _ _ _ _; refine xG mixed [] ?_) | (show SWp _ _ _ (.cond _ _ _) _ _ _ _; first | (refine cB (fun hc => ?_) (fun hc => ?_) <;> first | exact False.elim hc | exact absurd hc Bool.false_ne_true | exact absurd hc.symm Bool.false_ne_true | skip) | refine cU ?_ ?_)))
  (((simp only [push_cast, reduceIte, reduceDIte, reduceCtorEq, Nat.reduceLT, Nat.reduceLeDiff, Nat.reduceEqDiff, Nat.reduceAdd, Nat.reduceMul, Nat.reduceBEq, Nat.reducePow, Int.zero_add, Int.reduceAdd, Int.reduceSub, Int.reduceLT, Int.reduceLE, Int.reduceToNat, Int.reduceNeg, Nat.reduceSub, Int.reduceBNe, Int.reduceBEq]); repeat (simp (disch := omega) only [idx_nat, idx_mapT, i64w, rows_getS, rows_get, getD_set_self, famR_get]; try (simp only [push_cast, reduceIte, reduceDIte, reduceCtorEq, Nat.reduceLT, Nat.reduceLeDiff, Nat.reduceEqDiff, Nat.reduceAdd, Nat.reduceMul, Nat.reduceBEq, Nat.reducePow, Int.zero_add, Int.reduceAdd, Int.reduceSub, Int.reduceLT, Int.reduceLE, Int.reduceToNat, Int.reduceNeg, Nat.reduceSub, Int.reduceBNe, Int.reduceBEq])))); rfl
theorem link_f (n : Net) (s : ByteArray) (m : Nat) (hl : n.links.length ≤ 281474976710656) : DCalls Try.prog 59 [netD n, ls s] (hget []) m (li (linkIx n.links s)) (hget []) := by
  refine pureC (n := 9) (rs := [.tmp 4]) (ts := [3]) Try.func59 rfl (by decide) [] (by (exact SD)) ?_
  (repeat' (first | refine swp_seq [0, 1, 2, 3, 4] ?_ | refine st1 ?_ | (show CallQ ..; first | refine cF ?_ | refine cQ (fun hcc => (by fail)) ?_ | (refine lP ?_; refine lQ (fun hcc m => (by fail)) ?_)) | (show Fct ..; refine fctI (fun hf => ?_)) | (show XCallQ ..; first | refine xcF ?_ | refine xQ (fun hcc => (by fail)) ?_ | (refine xlP ?_; refine xlQ (fun hcc m => (by fail)) ?_)) | (show SWp _ _ _ (.region _ _ true) _ _ _ _; refine xG mixed [] ?_) | (show SWp _ _ _ (.cond _ _ _) _ _ _ _; first | (refine cB (fun hc => ?_) (fun hc => ?_) <;> first | exact False.elim hc | exact absurd hc Bool.false_ne_true | exact absurd hc.symm Bool.false_ne_true | skip) | refine cU ?_ ?_)))
  (refine cQT [8] (fun hcc => (idxLinkC_f 81 9 [.lit (.string s)] (fun x => decide (x.name = s)) n.links hl (fun x _ m => link1_f x s m))) ?_)
  (repeat' (first | refine swp_seq [0, 1, 2, 3, 4] ?_ | refine st1 ?_ | (show CallQ ..; first | refine cF ?_ | refine cQ (fun hcc => (by fail)) ?_ | (refine lP ?_; refine lQ (fun hcc m => (by fail)) ?_)) | (show Fct ..; refine fctI (fun hf => ?_)) | (show XCallQ ..; first | refine xcF ?_ | refine xQ (fun hcc => (by fail)) ?_ | (refine xlP ?_; refine xlQ (fun hcc m => (by fail)) ?_)) | (show SWp _ _ _ (.region _ _ true) _ _ _ _; refine xG mixed [] ?_) | (show SWp _ _ _ (.cond _ _ _) _ _ _ _; first | (refine cB (fun hc => ?_) (fun hc => ?_) <;> first | exact False.elim hc | exact absurd hc Bool.false_ne_true | exact absurd hc.symm Bool.false_ne_true | skip) | refine cU ?_ ?_)))
  (((simp only [push_cast, reduceIte, reduceDIte, reduceCtorEq, Nat.reduceLT, Nat.reduceLeDiff, Nat.reduceEqDiff, Nat.reduceAdd, Nat.reduceMul, Nat.reduceBEq, Nat.reducePow, Int.zero_add, Int.reduceAdd, Int.reduceSub, Int.reduceLT, Int.reduceLE, Int.reduceToNat, Int.reduceNeg, Nat.reduceSub, Int.reduceBNe, Int.reduceBEq]); repeat (simp (disch := omega) only [idx_nat, idx_mapT, i64w, rows_getS, rows_get, getD_set_self, famR_get]; try (simp only [push_cast, reduceIte, reduceDIte, reduceCtorEq, Nat.reduceLT, Nat.reduceLeDiff, Nat.reduceEqDiff, Nat.reduceAdd, Nat.reduceMul, Nat.reduceBEq, Nat.reducePow, Int.zero_add, Int.reduceAdd, Int.reduceSub, Int.reduceLT, Int.reduceLE, Int.reduceToNat, Int.reduceNeg, Nat.reduceSub, Int.reduceBNe, Int.reduceBEq])))); rfl
set_option maxHeartbeats 1000000 in
theorem rFindNode_f (n : Net) (s : ByteArray) (m : Nat) (hl : n.nodes.length ≤ 281474976710656) : DCalls Try.prog 37 [netD n, ls s] (hget []) m (li (nodeIx n.nodes s)) (hget []) := by
  refine pureC (n := 22) (rs := [.tmp 4]) (ts := [3]) Try.func37 rfl (by decide) [] (by (exact SD)) ?_
  (repeat' (first | refine swp_seq [0, 1, 2, 4, 5, 10, 20] ?_ | refine st1 ?_ | (show Fct ..; refine fctI (fun hf => ?_)) | (show SWp _ _ _ (.region _ _ true) _ _ _ _; refine xG mixed [] ?_) | (show SWp _ _ _ (.cond _ _ _) _ _ _ _; first | (refine cB (fun hc => ?_) (fun hc => ?_) <;> first | exact False.elim hc | exact absurd hc Bool.false_ne_true | exact absurd hc.symm Bool.false_ne_true | skip) | refine cU ?_ ?_)))
  refine loop_swp [1, 2, 5] [0] 1 (fun q A H => ∃ i : Nat, i ≤ n.nodes.length ∧ q = n.nodes.length - i ∧ (n.nodes.take i).any (fun x => decide (x.name = s)) = false ∧ A = [(1, ls s), (2, .ptr 0 0), (5, li i)] ∧ H = [(0, .blk 25 (netC n))]) (by omega) ?_ ?_ ?_
  · rintro q A H ⟨i, h1, h2, h3, rfl, rfl⟩
    exact ⟨by (exact SD), by (exact SD)⟩
  · refine ⟨_, 0, by omega, rfl, by simp, ?_, ?_⟩
    · (((simp only [push_cast, reduceIte, reduceDIte, reduceCtorEq, Nat.reduceLT, Nat.reduceLeDiff, Nat.reduceEqDiff, Nat.reduceAdd, Nat.reduceMul, Nat.reduceBEq, Nat.reducePow, Int.zero_add, Int.reduceAdd, Int.reduceSub, Int.reduceLT, Int.reduceLE, Int.reduceToNat, Int.reduceNeg, Nat.reduceSub, Int.reduceBNe, Int.reduceBEq]); repeat (simp (disch := omega) only [idx_nat, idx_mapT, i64w, rows_getS, rows_get, getD_set_self, famR_get]; try (simp only [push_cast, reduceIte, reduceDIte, reduceCtorEq, Nat.reduceLT, Nat.reduceLeDiff, Nat.reduceEqDiff, Nat.reduceAdd, Nat.reduceMul, Nat.reduceBEq, Nat.reducePow, Int.zero_add, Int.reduceAdd, Int.reduceSub, Int.reduceLT, Int.reduceLE, Int.reduceToNat, Int.reduceNeg, Nat.reduceSub, Int.reduceBNe, Int.reduceBEq]))))
    · (((simp only [push_cast, reduceIte, reduceDIte, reduceCtorEq, Nat.reduceLT, Nat.reduceLeDiff, Nat.reduceEqDiff, Nat.reduceAdd, Nat.reduceMul, Nat.reduceBEq, Nat.reducePow, Int.zero_add, Int.reduceAdd, Int.reduceSub, Int.reduceLT, Int.reduceLE, Int.reduceToNat, Int.reduceNeg, Nat.reduceSub, Int.reduceBNe, Int.reduceBEq]); repeat (simp (disch := omega) only [idx_nat, idx_mapT, i64w, rows_getS, rows_get, getD_set_self, famR_get]; try (simp only [push_cast, reduceIte, reduceDIte, reduceCtorEq, Nat.reduceLT, Nat.reduceLeDiff, Nat.reduceEqDiff, Nat.reduceAdd, Nat.reduceMul, Nat.reduceBEq, Nat.reducePow, Int.zero_add, Int.reduceAdd, Int.reduceSub, Int.reduceLT, Int.reduceLE, Int.reduceToNat, Int.reduceNeg, Nat.reduceSub, Int.reduceBNe, Int.reduceBEq]))))
  · rintro q A H ⟨i, h1, h2, h3, rfl, rfl⟩
    (repeat' (first | refine swp_seq [0, 1, 2, 4, 5, 10, 20] ?_ | refine st1 ?_ | (show Fct ..; refine fctI (fun hf => ?_)) | (show SWp _ _ _ (.region _ _ true) _ _ _ _; refine xG mixed [] ?_) | (show SWp _ _ _ (.cond _ _ _) _ _ _ _; first | (refine cB (fun hc => ?_) (fun hc => ?_) <;> first | exact False.elim hc | exact absurd hc Bool.false_ne_true | exact absurd hc.symm Bool.false_ne_true | skip) | refine cU ?_ ?_)))
    · (((simp only [push_cast, reduceIte, reduceDIte, reduceCtorEq, Nat.reduceLT, Nat.reduceLeDiff, Nat.reduceEqDiff, Nat.reduceAdd, Nat.reduceMul, Nat.reduceBEq, Nat.reducePow, Int.zero_add, Int.reduceAdd, Int.reduceSub, Int.reduceLT, Int.reduceLE, Int.reduceToNat, Int.reduceNeg, Nat.reduceSub, Int.reduceBNe, Int.reduceBEq]); repeat (simp (disch := omega) only [idx_nat, idx_mapT, i64w, rows_getS, rows_get, getD_set_self, famR_get]; try (simp only [push_cast, reduceIte, reduceDIte, reduceCtorEq, Nat.reduceLT, Nat.reduceLeDiff, Nat.reduceEqDiff, Nat.reduceAdd, Nat.reduceMul, Nat.reduceBEq, Nat.reducePow, Int.zero_add, Int.reduceAdd, Int.reduceSub, Int.reduceLT, Int.reduceLE, Int.reduceToNat, Int.reduceNeg, Nat.reduceSub, Int.reduceBNe, Int.reduceBEq]))))
      unfold nodeIx
      rw [idxI_hit h3 (by omega) (by simpa using hc)]
    · (refine lN [0] ?_)
      exact ⟨_, by omega, i + 1, by omega, rfl, any_step h3 (by omega) (by simpa using hc), rfl, rfl⟩
    · (((simp only [push_cast, reduceIte, reduceDIte, reduceCtorEq, Nat.reduceLT, Nat.reduceLeDiff, Nat.reduceEqDiff, Nat.reduceAdd, Nat.reduceMul, Nat.reduceBEq, Nat.reducePow, Int.zero_add, Int.reduceAdd, Int.reduceSub, Int.reduceLT, Int.reduceLE, Int.reduceToNat, Int.reduceNeg, Nat.reduceSub, Int.reduceBNe, Int.reduceBEq]); repeat (simp (disch := omega) only [idx_nat, idx_mapT, i64w, rows_getS, rows_get, getD_set_self, famR_get]; try (simp only [push_cast, reduceIte, reduceDIte, reduceCtorEq, Nat.reduceLT, Nat.reduceLeDiff, Nat.reduceEqDiff, Nat.reduceAdd, Nat.reduceMul, Nat.reduceBEq, Nat.reducePow, Int.zero_add, Int.reduceAdd, Int.reduceSub, Int.reduceLT, Int.reduceLE, Int.reduceToNat, Int.reduceNeg, Nat.reduceSub, Int.reduceBNe, Int.reduceBEq]))))
      rw [List.take_of_length_le (by omega)] at h3
      unfold nodeIx
      rw [idxI_none h3]
set_option maxHeartbeats 1000000 in
theorem rFindLink_f (n : Net) (s : ByteArray) (m : Nat) (hl : n.links.length ≤ 281474976710656) : DCalls Try.prog 39 [netD n, ls s] (hget []) m (li (linkIx n.links s)) (hget []) := by
  refine pureC (n := 22) (rs := [.tmp 4]) (ts := [3]) Try.func39 rfl (by decide) [] (by (exact SD)) ?_
  (repeat' (first | refine swp_seq [0, 1, 2, 4, 5, 10, 20] ?_ | refine st1 ?_ | (show Fct ..; refine fctI (fun hf => ?_)) | (show SWp _ _ _ (.region _ _ true) _ _ _ _; refine xG mixed [] ?_) | (show SWp _ _ _ (.cond _ _ _) _ _ _ _; first | (refine cB (fun hc => ?_) (fun hc => ?_) <;> first | exact False.elim hc | exact absurd hc Bool.false_ne_true | exact absurd hc.symm Bool.false_ne_true | skip) | refine cU ?_ ?_)))
  refine loop_swp [1, 2, 5] [0] 1 (fun q A H => ∃ i : Nat, i ≤ n.links.length ∧ q = n.links.length - i ∧ (n.links.take i).any (fun x => decide (x.name = s)) = false ∧ A = [(1, ls s), (2, .ptr 0 0), (5, li i)] ∧ H = [(0, .blk 25 (netC n))]) (by omega) ?_ ?_ ?_
  · rintro q A H ⟨i, h1, h2, h3, rfl, rfl⟩
    exact ⟨by (exact SD), by (exact SD)⟩
  · refine ⟨_, 0, by omega, rfl, by simp, ?_, ?_⟩
    · (((simp only [push_cast, reduceIte, reduceDIte, reduceCtorEq, Nat.reduceLT, Nat.reduceLeDiff, Nat.reduceEqDiff, Nat.reduceAdd, Nat.reduceMul, Nat.reduceBEq, Nat.reducePow, Int.zero_add, Int.reduceAdd, Int.reduceSub, Int.reduceLT, Int.reduceLE, Int.reduceToNat, Int.reduceNeg, Nat.reduceSub, Int.reduceBNe, Int.reduceBEq]); repeat (simp (disch := omega) only [idx_nat, idx_mapT, i64w, rows_getS, rows_get, getD_set_self, famR_get]; try (simp only [push_cast, reduceIte, reduceDIte, reduceCtorEq, Nat.reduceLT, Nat.reduceLeDiff, Nat.reduceEqDiff, Nat.reduceAdd, Nat.reduceMul, Nat.reduceBEq, Nat.reducePow, Int.zero_add, Int.reduceAdd, Int.reduceSub, Int.reduceLT, Int.reduceLE, Int.reduceToNat, Int.reduceNeg, Nat.reduceSub, Int.reduceBNe, Int.reduceBEq]))))
    · (((simp only [push_cast, reduceIte, reduceDIte, reduceCtorEq, Nat.reduceLT, Nat.reduceLeDiff, Nat.reduceEqDiff, Nat.reduceAdd, Nat.reduceMul, Nat.reduceBEq, Nat.reducePow, Int.zero_add, Int.reduceAdd, Int.reduceSub, Int.reduceLT, Int.reduceLE, Int.reduceToNat, Int.reduceNeg, Nat.reduceSub, Int.reduceBNe, Int.reduceBEq]); repeat (simp (disch := omega) only [idx_nat, idx_mapT, i64w, rows_getS, rows_get, getD_set_self, famR_get]; try (simp only [push_cast, reduceIte, reduceDIte, reduceCtorEq, Nat.reduceLT, Nat.reduceLeDiff, Nat.reduceEqDiff, Nat.reduceAdd, Nat.reduceMul, Nat.reduceBEq, Nat.reducePow, Int.zero_add, Int.reduceAdd, Int.reduceSub, Int.reduceLT, Int.reduceLE, Int.reduceToNat, Int.reduceNeg, Nat.reduceSub, Int.reduceBNe, Int.reduceBEq]))))
  · rintro q A H ⟨i, h1, h2, h3, rfl, rfl⟩
    (repeat' (first | refine swp_seq [0, 1, 2, 4, 5, 10, 20] ?_ | refine st1 ?_ | (show Fct ..; refine fctI (fun hf => ?_)) | (show SWp _ _ _ (.region _ _ true) _ _ _ _; refine xG mixed [] ?_) | (show SWp _ _ _ (.cond _ _ _) _ _ _ _; first | (refine cB (fun hc => ?_) (fun hc => ?_) <;> first | exact False.elim hc | exact absurd hc Bool.false_ne_true | exact absurd hc.symm Bool.false_ne_true | skip) | refine cU ?_ ?_)))
    · (((simp only [push_cast, reduceIte, reduceDIte, reduceCtorEq, Nat.reduceLT, Nat.reduceLeDiff, Nat.reduceEqDiff, Nat.reduceAdd, Nat.reduceMul, Nat.reduceBEq, Nat.reducePow, Int.zero_add, Int.reduceAdd, Int.reduceSub, Int.reduceLT, Int.reduceLE, Int.reduceToNat, Int.reduceNeg, Nat.reduceSub, Int.reduceBNe, Int.reduceBEq]); repeat (simp (disch := omega) only [idx_nat, idx_mapT, i64w, rows_getS, rows_get, getD_set_self, famR_get]; try (simp only [push_cast, reduceIte, reduceDIte, reduceCtorEq, Nat.reduceLT, Nat.reduceLeDiff, Nat.reduceEqDiff, Nat.reduceAdd, Nat.reduceMul, Nat.reduceBEq, Nat.reducePow, Int.zero_add, Int.reduceAdd, Int.reduceSub, Int.reduceLT, Int.reduceLE, Int.reduceToNat, Int.reduceNeg, Nat.reduceSub, Int.reduceBNe, Int.reduceBEq]))))
      unfold linkIx
      rw [idxI_hit h3 (by omega) (by simpa using hc)]
    · (refine lN [0] ?_)
      exact ⟨_, by omega, i + 1, by omega, rfl, any_step h3 (by omega) (by simpa using hc), rfl, rfl⟩
    · (((simp only [push_cast, reduceIte, reduceDIte, reduceCtorEq, Nat.reduceLT, Nat.reduceLeDiff, Nat.reduceEqDiff, Nat.reduceAdd, Nat.reduceMul, Nat.reduceBEq, Nat.reducePow, Int.zero_add, Int.reduceAdd, Int.reduceSub, Int.reduceLT, Int.reduceLE, Int.reduceToNat, Int.reduceNeg, Nat.reduceSub, Int.reduceBNe, Int.reduceBEq]); repeat (simp (disch := omega) only [idx_nat, idx_mapT, i64w, rows_getS, rows_get, getD_set_self, famR_get]; try (simp only [push_cast, reduceIte, reduceDIte, reduceCtorEq, Nat.reduceLT, Nat.reduceLeDiff, Nat.reduceEqDiff, Nat.reduceAdd, Nat.reduceMul, Nat.reduceBEq, Nat.reducePow, Int.zero_add, Int.reduceAdd, Int.reduceSub, Int.reduceLT, Int.reduceLE, Int.reduceToNat, Int.reduceNeg, Nat.reduceSub, Int.reduceBNe, Int.reduceBEq]))))
      rw [List.take_of_length_le (by omega)] at h3
      unfold linkIx
      rw [idxI_none h3]
theorem sameInts_f (l k : List Int) (m : Nat) (hl : l.length ≤ 281474976710656) (hk : k.length ≤ 281474976710656) : DCalls Try.prog 42 [ints l, ints k] (hget []) m (lb (decide (l = k))) (hget []) := by
  refine pureC (n := 26) (rs := [.tmp 4]) (ts := [4]) Try.func42 rfl (by decide) [] (by (exact SD)) ?_
  (repeat' (first | refine swp_seq [0, 1, 4, 5, 10, 14, 25] ?_ | refine st1 ?_ | (show Fct ..; refine fctI (fun hf => ?_)) | (show SWp _ _ _ (.region _ _ true) _ _ _ _; refine xG mixed [] ?_) | (show SWp _ _ _ (.cond _ _ _) _ _ _ _; first | (refine cB (fun hc => ?_) (fun hc => ?_) <;> first | exact False.elim hc | exact absurd hc Bool.false_ne_true | exact absurd hc.symm Bool.false_ne_true | skip) | refine cU ?_ ?_)))
  · (((simp only [push_cast, reduceIte, reduceDIte, reduceCtorEq, Nat.reduceLT, Nat.reduceLeDiff, Nat.reduceEqDiff, Nat.reduceAdd, Nat.reduceMul, Nat.reduceBEq, Nat.reducePow, Int.zero_add, Int.reduceAdd, Int.reduceSub, Int.reduceLT, Int.reduceLE, Int.reduceToNat, Int.reduceNeg, Nat.reduceSub, Int.reduceBNe, Int.reduceBEq]); repeat (simp (disch := omega) only [idx_nat, idx_mapT, i64w, rows_getS, rows_get, getD_set_self, famR_get]; try (simp only [push_cast, reduceIte, reduceDIte, reduceCtorEq, Nat.reduceLT, Nat.reduceLeDiff, Nat.reduceEqDiff, Nat.reduceAdd, Nat.reduceMul, Nat.reduceBEq, Nat.reducePow, Int.zero_add, Int.reduceAdd, Int.reduceSub, Int.reduceLT, Int.reduceLE, Int.reduceToNat, Int.reduceNeg, Nat.reduceSub, Int.reduceBNe, Int.reduceBEq]))))
    refine lbC ?_
    have : ¬ l = k := fun e => by subst e; exact hc rfl
    simp [this]
  · refine loop_swp [0, 1, 5] [] 0 (fun q A H => ∃ i : Nat, i ≤ l.length ∧ q = l.length - i ∧ l.take i = k.take i ∧ A = [(0, ints l), (1, ints k), (5, li i)] ∧ H = []) (by omega) ?_ ?_ ?_
    · rintro q A H ⟨i, h1, h2, h3, rfl, rfl⟩
      exact ⟨by (exact SD), by (exact SD)⟩
    · refine ⟨_, 0, by omega, rfl, rfl, ?_, ?_⟩
      · (((simp only [push_cast, reduceIte, reduceDIte, reduceCtorEq, Nat.reduceLT, Nat.reduceLeDiff, Nat.reduceEqDiff, Nat.reduceAdd, Nat.reduceMul, Nat.reduceBEq, Nat.reducePow, Int.zero_add, Int.reduceAdd, Int.reduceSub, Int.reduceLT, Int.reduceLE, Int.reduceToNat, Int.reduceNeg, Nat.reduceSub, Int.reduceBNe, Int.reduceBEq]); repeat (simp (disch := omega) only [idx_nat, idx_mapT, i64w, rows_getS, rows_get, getD_set_self, famR_get]; try (simp only [push_cast, reduceIte, reduceDIte, reduceCtorEq, Nat.reduceLT, Nat.reduceLeDiff, Nat.reduceEqDiff, Nat.reduceAdd, Nat.reduceMul, Nat.reduceBEq, Nat.reducePow, Int.zero_add, Int.reduceAdd, Int.reduceSub, Int.reduceLT, Int.reduceLE, Int.reduceToNat, Int.reduceNeg, Nat.reduceSub, Int.reduceBNe, Int.reduceBEq]))))
      · (((simp only [push_cast, reduceIte, reduceDIte, reduceCtorEq, Nat.reduceLT, Nat.reduceLeDiff, Nat.reduceEqDiff, Nat.reduceAdd, Nat.reduceMul, Nat.reduceBEq, Nat.reducePow, Int.zero_add, Int.reduceAdd, Int.reduceSub, Int.reduceLT, Int.reduceLE, Int.reduceToNat, Int.reduceNeg, Nat.reduceSub, Int.reduceBNe, Int.reduceBEq]); repeat (simp (disch := omega) only [idx_nat, idx_mapT, i64w, rows_getS, rows_get, getD_set_self, famR_get]; try (simp only [push_cast, reduceIte, reduceDIte, reduceCtorEq, Nat.reduceLT, Nat.reduceLeDiff, Nat.reduceEqDiff, Nat.reduceAdd, Nat.reduceMul, Nat.reduceBEq, Nat.reducePow, Int.zero_add, Int.reduceAdd, Int.reduceSub, Int.reduceLT, Int.reduceLE, Int.reduceToNat, Int.reduceNeg, Nat.reduceSub, Int.reduceBNe, Int.reduceBEq]))))
    · rintro q A H ⟨i, h1, h2, h3, rfl, rfl⟩
      (repeat' (first | refine swp_seq [0, 1, 4, 5, 10, 14, 25] ?_ | refine st1 ?_ | (show Fct ..; refine fctI (fun hf => ?_)) | (show SWp _ _ _ (.region _ _ true) _ _ _ _; refine xG mixed [] ?_) | (show SWp _ _ _ (.cond _ _ _) _ _ _ _; first | (refine cB (fun hc => ?_) (fun hc => ?_) <;> first | exact False.elim hc | exact absurd hc Bool.false_ne_true | exact absurd hc.symm Bool.false_ne_true | skip) | refine cU ?_ ?_)))
      · (((simp only [push_cast, reduceIte, reduceDIte, reduceCtorEq, Nat.reduceLT, Nat.reduceLeDiff, Nat.reduceEqDiff, Nat.reduceAdd, Nat.reduceMul, Nat.reduceBEq, Nat.reducePow, Int.zero_add, Int.reduceAdd, Int.reduceSub, Int.reduceLT, Int.reduceLE, Int.reduceToNat, Int.reduceNeg, Nat.reduceSub, Int.reduceBNe, Int.reduceBEq]); repeat (simp (disch := omega) only [idx_nat, idx_mapT, i64w, rows_getS, rows_get, getD_set_self, famR_get]; try (simp only [push_cast, reduceIte, reduceDIte, reduceCtorEq, Nat.reduceLT, Nat.reduceLeDiff, Nat.reduceEqDiff, Nat.reduceAdd, Nat.reduceMul, Nat.reduceBEq, Nat.reducePow, Int.zero_add, Int.reduceAdd, Int.reduceSub, Int.reduceLT, Int.reduceLE, Int.reduceToNat, Int.reduceNeg, Nat.reduceSub, Int.reduceBNe, Int.reduceBEq]))))
        refine lbC ?_
        have : ¬ l = k := fun e => by subst e; simp at hc
        simp [this]
      · (refine lN [] ?_)
        exact ⟨_, by omega, i + 1, by omega, rfl, take_next h3 (by omega) (by omega) (by simpa using hc), rfl, rfl⟩
      · (((simp only [push_cast, reduceIte, reduceDIte, reduceCtorEq, Nat.reduceLT, Nat.reduceLeDiff, Nat.reduceEqDiff, Nat.reduceAdd, Nat.reduceMul, Nat.reduceBEq, Nat.reducePow, Int.zero_add, Int.reduceAdd, Int.reduceSub, Int.reduceLT, Int.reduceLE, Int.reduceToNat, Int.reduceNeg, Nat.reduceSub, Int.reduceBNe, Int.reduceBEq]); repeat (simp (disch := omega) only [idx_nat, idx_mapT, i64w, rows_getS, rows_get, getD_set_self, famR_get]; try (simp only [push_cast, reduceIte, reduceDIte, reduceCtorEq, Nat.reduceLT, Nat.reduceLeDiff, Nat.reduceEqDiff, Nat.reduceAdd, Nat.reduceMul, Nat.reduceBEq, Nat.reducePow, Int.zero_add, Int.reduceAdd, Int.reduceSub, Int.reduceLT, Int.reduceLE, Int.reduceToNat, Int.reduceNeg, Nat.reduceSub, Int.reduceBNe, Int.reduceBEq]))))
        refine lbC ?_
        have : l = k := by
          have h4 := h3
          rw [List.take_of_length_le (by omega), List.take_of_length_le (by omega)] at h4
          exact h4
        simp [this]
theorem sta_iff {x y : Sta} : x = y ↔ (x.vol = y.vol ∧ x.pon = y.pon ∧ x.set = y.set ∧ x.on = y.on) := ⟨fun h => by subst h; simp, sta_ext⟩
set_option maxHeartbeats 2000000 in
theorem same_f (a b : Sta) (m : Nat) (ha : staOk a) (hb : staOk b) : DCalls Try.prog 14 [staD a, staD b] (hget []) m (lb (decide (a = b))) (hget []) := by
  obtain ⟨⟨a1, _⟩, ⟨a2, _⟩, ⟨a3, _⟩, a4⟩ := ha
  obtain ⟨⟨b1, _⟩, ⟨b2, _⟩, ⟨b3, _⟩, b4⟩ := hb
  refine pureC (n := 50) (rs := [.tmp 4]) (ts := [4]) Try.func14 rfl (by decide) [] (by (exact SD)) ?_
  (repeat' (first | refine swp_seq [0, 1, 2, 3, 4, 5, 12, 17, 30] ?_ | refine st1 ?_ | (show Fct ..; refine fctI (fun hf => ?_)) | (show SWp _ _ _ (.region _ _ true) _ _ _ _; refine xG mixed [] ?_) | (show SWp _ _ _ (.cond _ _ _) _ _ _ _; first | (refine cB (fun hc => ?_) (fun hc => ?_) <;> first | exact False.elim hc | exact absurd hc Bool.false_ne_true | exact absurd hc.symm Bool.false_ne_true | skip) | refine cU ?_ ?_)))
  · (((simp only [push_cast, reduceIte, reduceDIte, reduceCtorEq, Nat.reduceLT, Nat.reduceLeDiff, Nat.reduceEqDiff, Nat.reduceAdd, Nat.reduceMul, Nat.reduceBEq, Nat.reducePow, Int.zero_add, Int.reduceAdd, Int.reduceSub, Int.reduceLT, Int.reduceLE, Int.reduceToNat, Int.reduceNeg, Nat.reduceSub, Int.reduceBNe, Int.reduceBEq]); repeat (simp (disch := omega) only [idx_nat, idx_mapT, i64w, rows_getS, rows_get, getD_set_self, famR_get]; try (simp only [push_cast, reduceIte, reduceDIte, reduceCtorEq, Nat.reduceLT, Nat.reduceLeDiff, Nat.reduceEqDiff, Nat.reduceAdd, Nat.reduceMul, Nat.reduceBEq, Nat.reducePow, Int.zero_add, Int.reduceAdd, Int.reduceSub, Int.reduceLT, Int.reduceLE, Int.reduceToNat, Int.reduceNeg, Nat.reduceSub, Int.reduceBNe, Int.reduceBEq]))))
    refine lbC ?_
    have : ¬ a = b := fun e => by subst e; exact hc rfl
    simp [this]
  · refine loop_swp [2, 3, 5] [0, 8] 9 (fun q A H => ∃ i : Nat, i ≤ a.on.length ∧ q = a.on.length - i ∧ a.on.take i = b.on.take i ∧ A = [(2, .ptr 0 0), (3, .ptr 8 0), (5, li i)] ∧ H = [(0, .blk 29 (staC a)), (8, .blk 29 (staC b))]) (by omega) ?_ ?_ ?_
    · rintro q A H ⟨i, h1, h2, h3, rfl, rfl⟩
      exact ⟨by (exact SD), by (exact SD)⟩
    · refine ⟨_, 0, by omega, rfl, rfl, ?_, ?_⟩
      · (((simp only [push_cast, reduceIte, reduceDIte, reduceCtorEq, Nat.reduceLT, Nat.reduceLeDiff, Nat.reduceEqDiff, Nat.reduceAdd, Nat.reduceMul, Nat.reduceBEq, Nat.reducePow, Int.zero_add, Int.reduceAdd, Int.reduceSub, Int.reduceLT, Int.reduceLE, Int.reduceToNat, Int.reduceNeg, Nat.reduceSub, Int.reduceBNe, Int.reduceBEq]); repeat (simp (disch := omega) only [idx_nat, idx_mapT, i64w, rows_getS, rows_get, getD_set_self, famR_get]; try (simp only [push_cast, reduceIte, reduceDIte, reduceCtorEq, Nat.reduceLT, Nat.reduceLeDiff, Nat.reduceEqDiff, Nat.reduceAdd, Nat.reduceMul, Nat.reduceBEq, Nat.reducePow, Int.zero_add, Int.reduceAdd, Int.reduceSub, Int.reduceLT, Int.reduceLE, Int.reduceToNat, Int.reduceNeg, Nat.reduceSub, Int.reduceBNe, Int.reduceBEq]))))
      · (((simp only [push_cast, reduceIte, reduceDIte, reduceCtorEq, Nat.reduceLT, Nat.reduceLeDiff, Nat.reduceEqDiff, Nat.reduceAdd, Nat.reduceMul, Nat.reduceBEq, Nat.reducePow, Int.zero_add, Int.reduceAdd, Int.reduceSub, Int.reduceLT, Int.reduceLE, Int.reduceToNat, Int.reduceNeg, Nat.reduceSub, Int.reduceBNe, Int.reduceBEq]); repeat (simp (disch := omega) only [idx_nat, idx_mapT, i64w, rows_getS, rows_get, getD_set_self, famR_get]; try (simp only [push_cast, reduceIte, reduceDIte, reduceCtorEq, Nat.reduceLT, Nat.reduceLeDiff, Nat.reduceEqDiff, Nat.reduceAdd, Nat.reduceMul, Nat.reduceBEq, Nat.reducePow, Int.zero_add, Int.reduceAdd, Int.reduceSub, Int.reduceLT, Int.reduceLE, Int.reduceToNat, Int.reduceNeg, Nat.reduceSub, Int.reduceBNe, Int.reduceBEq]))))
    · rintro q A H ⟨i, h1, h2, h3, rfl, rfl⟩
      (repeat' (first | refine swp_seq [0, 1, 2, 3, 4, 5, 12, 17, 30] ?_ | refine st1 ?_ | (show CallQ ..; first | refine cF ?_ | refine cQ (fun hcc => (sameInts_f _ _ _ SC SC)) ?_ | (refine lP ?_; refine lQ (fun hcc m => (sameInts_f _ _ _ SC SC)) ?_)) | (show Fct ..; refine fctI (fun hf => ?_)) | (show XCallQ ..; first | refine xcF ?_ | refine xQ (fun hcc => (sameInts_f _ _ _ SC SC)) ?_ | (refine xlP ?_; refine xlQ (fun hcc m => (sameInts_f _ _ _ SC SC)) ?_)) | (show SWp _ _ _ (.region _ _ true) _ _ _ _; refine xG mixed [] ?_) | (show SWp _ _ _ (.cond _ _ _) _ _ _ _; first | (refine cB (fun hc => ?_) (fun hc => ?_) <;> first | exact False.elim hc | exact absurd hc Bool.false_ne_true | exact absurd hc.symm Bool.false_ne_true | skip) | refine cU ?_ ?_)))
      · (((simp only [push_cast, reduceIte, reduceDIte, reduceCtorEq, Nat.reduceLT, Nat.reduceLeDiff, Nat.reduceEqDiff, Nat.reduceAdd, Nat.reduceMul, Nat.reduceBEq, Nat.reducePow, Int.zero_add, Int.reduceAdd, Int.reduceSub, Int.reduceLT, Int.reduceLE, Int.reduceToNat, Int.reduceNeg, Nat.reduceSub, Int.reduceBNe, Int.reduceBEq]); repeat (simp (disch := omega) only [idx_nat, idx_mapT, i64w, rows_getS, rows_get, getD_set_self, famR_get]; try (simp only [push_cast, reduceIte, reduceDIte, reduceCtorEq, Nat.reduceLT, Nat.reduceLeDiff, Nat.reduceEqDiff, Nat.reduceAdd, Nat.reduceMul, Nat.reduceBEq, Nat.reducePow, Int.zero_add, Int.reduceAdd, Int.reduceSub, Int.reduceLT, Int.reduceLE, Int.reduceToNat, Int.reduceNeg, Nat.reduceSub, Int.reduceBNe, Int.reduceBEq]))))
        refine lbC ?_
        have : ¬ a = b := fun e => by subst e; simp at hc
        simp [this]
      · (refine lN [0, 8] ?_)
        exact ⟨_, by omega, i + 1, by omega, rfl, take_next h3 (by omega) (by omega) (by simpa using hc), rfl, rfl⟩
      · (((simp only [push_cast, reduceIte, reduceDIte, reduceCtorEq, Nat.reduceLT, Nat.reduceLeDiff, Nat.reduceEqDiff, Nat.reduceAdd, Nat.reduceMul, Nat.reduceBEq, Nat.reducePow, Int.zero_add, Int.reduceAdd, Int.reduceSub, Int.reduceLT, Int.reduceLE, Int.reduceToNat, Int.reduceNeg, Nat.reduceSub, Int.reduceBNe, Int.reduceBEq]); repeat (simp (disch := omega) only [idx_nat, idx_mapT, i64w, rows_getS, rows_get, getD_set_self, famR_get]; try (simp only [push_cast, reduceIte, reduceDIte, reduceCtorEq, Nat.reduceLT, Nat.reduceLeDiff, Nat.reduceEqDiff, Nat.reduceAdd, Nat.reduceMul, Nat.reduceBEq, Nat.reducePow, Int.zero_add, Int.reduceAdd, Int.reduceSub, Int.reduceLT, Int.reduceLE, Int.reduceToNat, Int.reduceNeg, Nat.reduceSub, Int.reduceBNe, Int.reduceBEq]))))
        refine lbC ?_
        have : a.on = b.on := by
          have h4 := h3
          rw [List.take_of_length_le (by omega), List.take_of_length_le (by omega)] at h4
          exact h4
        rw [Bool.eq_iff_iff, decide_eq_true_eq, sta_iff]
        simp [this]
        grind
abbrev nilS : DV := .p (.lit (.slice none 0 0))
abbrev boL (l : List Bool) : HV := .lst 4 1 (rows boRow l)
abbrev inLt (l : List Int) : HV := .lst 3 1 (rows inRow l)
set_option maxHeartbeats 1000000 in
theorem cloneI_f (l : List Int) (m : Nat) (hl : l.length ≤ 1048576) : DCallsG Try.prog 53 [] [ints l] (hget []) m (.gl m) (hget [(m, inLt l)]) := by
  refine contract (n := 8) (rs := [.tmp 2]) (ts := [26]) Try.func53 rfl (by decide) 0 0 [] [] [24] (.gl 24) [(24, inLt l)] (by (exact SD)) (by (exact SD)) ?_
  cases l with
  | nil =>
    (repeat' (first | refine swp_seq [0, 2, 4] ?_ | (first | refine rF (fun hf => ?_) | refine tN ?_ | refine swp_skip ?_ | refine swp_block ?_ | refine swp_scope ?_ | refine blockK_normal ?_ | refine scopeK_normal ?_ | (refine cB (fun hc => ?_) (fun hc => ?_) <;> first | exact False.elim hc | exact absurd hc Bool.false_ne_true | exact absurd hc.symm Bool.false_ne_true | skip) | refine cU ?_ ?_)))
    · (refine sN 2 3 1 ?_)
      (refine sR 32 24 ?_)
      (repeat' (first | refine swp_seq [0, 2, 4] ?_ | (first | refine rF (fun hf => ?_) | refine tN ?_ | refine swp_skip ?_ | refine swp_ret ?_ | refine swp_exit ?_ | refine swp_block ?_ | refine swp_scope ?_ | refine thenK_ret ?_ | refine thenK_exit ?_ | refine blockK_normal ?_ | refine blockK_ret ?_ | refine blockK_here ?_ | refine bX ?_ | refine scopeK_normal ?_ | refine scopeK_ret ?_ | refine scopeK_exit ?_ | refine loopK_ret ?_ | refine loopK_exit ?_ | refine dF mixed ?_ | (refine cB (fun hc => ?_) (fun hc => ?_) <;> first | exact False.elim hc | exact absurd hc Bool.false_ne_true | exact absurd hc.symm Bool.false_ne_true | skip) | refine cU ?_ ?_)))
      (((simp only [push_cast, reduceIte, reduceDIte, reduceCtorEq, Nat.reduceLT, Nat.reduceLeDiff, Nat.reduceEqDiff, Nat.reduceAdd, Nat.reduceMul, Nat.reduceBEq, Nat.reducePow, Int.zero_add, Int.reduceAdd, Int.reduceSub, Int.reduceLT, Int.reduceLE, Int.reduceToNat, Int.reduceNeg, Nat.reduceSub, Int.reduceBNe, Int.reduceBEq]); repeat (simp (disch := omega) only [idx_nat, idx_mapT, i64w, rows_getS, rows_get, getD_set_self, famR_get]; try (simp only [push_cast, reduceIte, reduceDIte, reduceCtorEq, Nat.reduceLT, Nat.reduceLeDiff, Nat.reduceEqDiff, Nat.reduceAdd, Nat.reduceMul, Nat.reduceBEq, Nat.reducePow, Int.zero_add, Int.reduceAdd, Int.reduceSub, Int.reduceLT, Int.reduceLE, Int.reduceToNat, Int.reduceNeg, Nat.reduceSub, Int.reduceBNe, Int.reduceBEq])))) <;> (exact SD)
    · (repeat' (first | refine swp_seq [0, 2, 4] ?_ | (first | refine rF (fun hf => ?_) | refine tN ?_ | refine swp_skip ?_ | refine swp_ret ?_ | refine swp_exit ?_ | refine swp_block ?_ | refine swp_scope ?_ | refine thenK_ret ?_ | refine thenK_exit ?_ | refine blockK_normal ?_ | refine blockK_ret ?_ | refine blockK_here ?_ | refine bX ?_ | refine scopeK_normal ?_ | refine scopeK_ret ?_ | refine scopeK_exit ?_ | refine loopK_ret ?_ | refine loopK_exit ?_ | refine dF mixed ?_ | (refine cB (fun hc => ?_) (fun hc => ?_) <;> first | exact False.elim hc | exact absurd hc Bool.false_ne_true | exact absurd hc.symm Bool.false_ne_true | skip) | refine cU ?_ ?_)))
      (((simp only [push_cast, reduceIte, reduceDIte, reduceCtorEq, Nat.reduceLT, Nat.reduceLeDiff, Nat.reduceEqDiff, Nat.reduceAdd, Nat.reduceMul, Nat.reduceBEq, Nat.reducePow, Int.zero_add, Int.reduceAdd, Int.reduceSub, Int.reduceLT, Int.reduceLE, Int.reduceToNat, Int.reduceNeg, Nat.reduceSub, Int.reduceBNe, Int.reduceBEq]); repeat (simp (disch := omega) only [idx_nat, idx_mapT, i64w, rows_getS, rows_get, getD_set_self, famR_get]; try (simp only [push_cast, reduceIte, reduceDIte, reduceCtorEq, Nat.reduceLT, Nat.reduceLeDiff, Nat.reduceEqDiff, Nat.reduceAdd, Nat.reduceMul, Nat.reduceBEq, Nat.reducePow, Int.zero_add, Int.reduceAdd, Int.reduceSub, Int.reduceLT, Int.reduceLE, Int.reduceToNat, Int.reduceNeg, Nat.reduceSub, Int.reduceBNe, Int.reduceBEq])))) <;> (exact SD)
  | cons b l =>
    (repeat' (first | refine swp_seq [0, 2, 4] ?_ | (first | refine rF (fun hf => ?_) | refine tN ?_ | refine swp_skip ?_ | refine swp_ret ?_ | refine swp_exit ?_ | refine swp_block ?_ | refine swp_scope ?_ | refine thenK_ret ?_ | refine thenK_exit ?_ | refine blockK_normal ?_ | refine blockK_ret ?_ | refine blockK_here ?_ | refine bX ?_ | refine scopeK_normal ?_ | refine scopeK_ret ?_ | refine scopeK_exit ?_ | refine loopK_ret ?_ | refine loopK_exit ?_ | refine dF mixed ?_ | (refine cB (fun hc => ?_) (fun hc => ?_) <;> first | exact False.elim hc | exact absurd hc Bool.false_ne_true | exact absurd hc.symm Bool.false_ne_true | skip) | refine cU ?_ ?_)))
    (((simp only [push_cast, reduceIte, reduceDIte, reduceCtorEq, Nat.reduceLT, Nat.reduceLeDiff, Nat.reduceEqDiff, Nat.reduceAdd, Nat.reduceMul, Nat.reduceBEq, Nat.reducePow, Int.zero_add, Int.reduceAdd, Int.reduceSub, Int.reduceLT, Int.reduceLE, Int.reduceToNat, Int.reduceNeg, Nat.reduceSub, Int.reduceBNe, Int.reduceBEq]); repeat (simp (disch := omega) only [idx_nat, idx_mapT, i64w, rows_getS, rows_get, getD_set_self, famR_get]; try (simp only [push_cast, reduceIte, reduceDIte, reduceCtorEq, Nat.reduceLT, Nat.reduceLeDiff, Nat.reduceEqDiff, Nat.reduceAdd, Nat.reduceMul, Nat.reduceBEq, Nat.reducePow, Int.zero_add, Int.reduceAdd, Int.reduceSub, Int.reduceLT, Int.reduceLE, Int.reduceToNat, Int.reduceNeg, Nat.reduceSub, Int.reduceBNe, Int.reduceBEq])))) <;> (exact SD)
set_option maxHeartbeats 1000000 in
theorem cloneB_f (l : List Bool) (m : Nat) (hl : l.length ≤ 1048576) : DCallsG Try.prog 54 [] [bools l] (hget []) m (.gl m) (hget [(m, boL l)]) := by
  refine contract (n := 8) (rs := [.tmp 2]) (ts := [27]) Try.func54 rfl (by decide) 0 0 [] [] [24] (.gl 24) [(24, boL l)] (by (exact SD)) (by (exact SD)) ?_
  cases l with
  | nil =>
    (repeat' (first | refine swp_seq [0, 2, 4] ?_ | (first | refine rF (fun hf => ?_) | refine tN ?_ | refine swp_skip ?_ | refine swp_block ?_ | refine swp_scope ?_ | refine blockK_normal ?_ | refine scopeK_normal ?_ | (refine cB (fun hc => ?_) (fun hc => ?_) <;> first | exact False.elim hc | exact absurd hc Bool.false_ne_true | exact absurd hc.symm Bool.false_ne_true | skip) | refine cU ?_ ?_)))
    · (refine sN 2 4 1 ?_)
      (refine sR 32 24 ?_)
      (repeat' (first | refine swp_seq [0, 2, 4] ?_ | (first | refine rF (fun hf => ?_) | refine tN ?_ | refine swp_skip ?_ | refine swp_ret ?_ | refine swp_exit ?_ | refine swp_block ?_ | refine swp_scope ?_ | refine thenK_ret ?_ | refine thenK_exit ?_ | refine blockK_normal ?_ | refine blockK_ret ?_ | refine blockK_here ?_ | refine bX ?_ | refine scopeK_normal ?_ | refine scopeK_ret ?_ | refine scopeK_exit ?_ | refine loopK_ret ?_ | refine loopK_exit ?_ | refine dF mixed ?_ | (refine cB (fun hc => ?_) (fun hc => ?_) <;> first | exact False.elim hc | exact absurd hc Bool.false_ne_true | exact absurd hc.symm Bool.false_ne_true | skip) | refine cU ?_ ?_)))
      (((simp only [push_cast, reduceIte, reduceDIte, reduceCtorEq, Nat.reduceLT, Nat.reduceLeDiff, Nat.reduceEqDiff, Nat.reduceAdd, Nat.reduceMul, Nat.reduceBEq, Nat.reducePow, Int.zero_add, Int.reduceAdd, Int.reduceSub, Int.reduceLT, Int.reduceLE, Int.reduceToNat, Int.reduceNeg, Nat.reduceSub, Int.reduceBNe, Int.reduceBEq]); repeat (simp (disch := omega) only [idx_nat, idx_mapT, i64w, rows_getS, rows_get, getD_set_self, famR_get]; try (simp only [push_cast, reduceIte, reduceDIte, reduceCtorEq, Nat.reduceLT, Nat.reduceLeDiff, Nat.reduceEqDiff, Nat.reduceAdd, Nat.reduceMul, Nat.reduceBEq, Nat.reducePow, Int.zero_add, Int.reduceAdd, Int.reduceSub, Int.reduceLT, Int.reduceLE, Int.reduceToNat, Int.reduceNeg, Nat.reduceSub, Int.reduceBNe, Int.reduceBEq])))) <;> (exact SD)
    · (repeat' (first | refine swp_seq [0, 2, 4] ?_ | (first | refine rF (fun hf => ?_) | refine tN ?_ | refine swp_skip ?_ | refine swp_ret ?_ | refine swp_exit ?_ | refine swp_block ?_ | refine swp_scope ?_ | refine thenK_ret ?_ | refine thenK_exit ?_ | refine blockK_normal ?_ | refine blockK_ret ?_ | refine blockK_here ?_ | refine bX ?_ | refine scopeK_normal ?_ | refine scopeK_ret ?_ | refine scopeK_exit ?_ | refine loopK_ret ?_ | refine loopK_exit ?_ | refine dF mixed ?_ | (refine cB (fun hc => ?_) (fun hc => ?_) <;> first | exact False.elim hc | exact absurd hc Bool.false_ne_true | exact absurd hc.symm Bool.false_ne_true | skip) | refine cU ?_ ?_)))
      (((simp only [push_cast, reduceIte, reduceDIte, reduceCtorEq, Nat.reduceLT, Nat.reduceLeDiff, Nat.reduceEqDiff, Nat.reduceAdd, Nat.reduceMul, Nat.reduceBEq, Nat.reducePow, Int.zero_add, Int.reduceAdd, Int.reduceSub, Int.reduceLT, Int.reduceLE, Int.reduceToNat, Int.reduceNeg, Nat.reduceSub, Int.reduceBNe, Int.reduceBEq]); repeat (simp (disch := omega) only [idx_nat, idx_mapT, i64w, rows_getS, rows_get, getD_set_self, famR_get]; try (simp only [push_cast, reduceIte, reduceDIte, reduceCtorEq, Nat.reduceLT, Nat.reduceLeDiff, Nat.reduceEqDiff, Nat.reduceAdd, Nat.reduceMul, Nat.reduceBEq, Nat.reducePow, Int.zero_add, Int.reduceAdd, Int.reduceSub, Int.reduceLT, Int.reduceLE, Int.reduceToNat, Int.reduceNeg, Nat.reduceSub, Int.reduceBNe, Int.reduceBEq])))) <;> (exact SD)
  | cons b l =>
    (repeat' (first | refine swp_seq [0, 2, 4] ?_ | (first | refine rF (fun hf => ?_) | refine tN ?_ | refine swp_skip ?_ | refine swp_ret ?_ | refine swp_exit ?_ | refine swp_block ?_ | refine swp_scope ?_ | refine thenK_ret ?_ | refine thenK_exit ?_ | refine blockK_normal ?_ | refine blockK_ret ?_ | refine blockK_here ?_ | refine bX ?_ | refine scopeK_normal ?_ | refine scopeK_ret ?_ | refine scopeK_exit ?_ | refine loopK_ret ?_ | refine loopK_exit ?_ | refine dF mixed ?_ | (refine cB (fun hc => ?_) (fun hc => ?_) <;> first | exact False.elim hc | exact absurd hc Bool.false_ne_true | exact absurd hc.symm Bool.false_ne_true | skip) | refine cU ?_ ?_)))
    (((simp only [push_cast, reduceIte, reduceDIte, reduceCtorEq, Nat.reduceLT, Nat.reduceLeDiff, Nat.reduceEqDiff, Nat.reduceAdd, Nat.reduceMul, Nat.reduceBEq, Nat.reducePow, Int.zero_add, Int.reduceAdd, Int.reduceSub, Int.reduceLT, Int.reduceLE, Int.reduceToNat, Int.reduceNeg, Nat.reduceSub, Int.reduceBNe, Int.reduceBEq]); repeat (simp (disch := omega) only [idx_nat, idx_mapT, i64w, rows_getS, rows_get, getD_set_self, famR_get]; try (simp only [push_cast, reduceIte, reduceDIte, reduceCtorEq, Nat.reduceLT, Nat.reduceLeDiff, Nat.reduceEqDiff, Nat.reduceAdd, Nat.reduceMul, Nat.reduceBEq, Nat.reducePow, Int.zero_add, Int.reduceAdd, Int.reduceSub, Int.reduceLT, Int.reduceLE, Int.reduceToNat, Int.reduceNeg, Nat.reduceSub, Int.reduceBNe, Int.reduceBEq])))) <;> (exact SD)
abbrev lu (n : Nat) : DV := lv (.int .u64 (n : Int))
theorem u64_mask (z : Int) : IntKind.u64.wrap ((BitVec.ofInt IntKind.u64.bits z &&& BitVec.ofInt IntKind.u64.bits 4294967295).toNat : Int) = z % 4294967296 := by
  have e1 : (BitVec.ofInt IntKind.u64.bits z).toNat = (z % 18446744073709551616).toNat := by
    show (BitVec.ofInt 64 _).toNat = _
    rw [BitVec.toNat_ofInt]; rfl
  have e2 : (BitVec.ofInt IntKind.u64.bits (4294967295 : Int)).toNat = 2 ^ 32 - 1 := rfl
  rw [BitVec.toNat_and, e1, e2, Nat.and_two_pow_sub_one_eq_mod, u64w]
  omega
theorem u64_shr (z : Int) : z.fdiv (2 ^ min 32 IntKind.u64.bits) = z / 4294967296 := by
  have : (2 : Int) ^ min 32 IntKind.u64.bits = 4294967296 := rfl
  rw [this, Int.fdiv_eq_ediv_of_nonneg _ (by omega)]
attribute [push_cast] u64_mask u64_shr
theorem mul_hi (x y : Int) (hx : 0 ≤ x ∧ x < 18446744073709551616) (hy : 0 ≤ y ∧ y < 18446744073709551616) :
    (((x / 4294967296 * (y / 4294967296)) % 18446744073709551616 + (((x / 4294967296 * (y % 4294967296)) % 18446744073709551616 + ((x % 4294967296) * (y % 4294967296)) % 18446744073709551616 / 4294967296) % 18446744073709551616) / 4294967296) % 18446744073709551616 +
      (((((x / 4294967296 * (y % 4294967296)) % 18446744073709551616 + ((x % 4294967296) * (y % 4294967296)) % 18446744073709551616 / 4294967296) % 18446744073709551616) % 4294967296 + ((x % 4294967296) * (y / 4294967296)) % 18446744073709551616) % 18446744073709551616) / 4294967296) % 18446744073709551616 = x * y / 18446744073709551616 := by
  have d1 : x = x / 4294967296 * 4294967296 + x % 4294967296 := by omega
  have d2 : y = y / 4294967296 * 4294967296 + y % 4294967296 := by omega
  have b1 : 0 ≤ x / 4294967296 ∧ x / 4294967296 ≤ 4294967295 := by omega
  have b2 : 0 ≤ x % 4294967296 ∧ x % 4294967296 ≤ 4294967295 := by omega
  have b3 : 0 ≤ y / 4294967296 ∧ y / 4294967296 ≤ 4294967295 := by omega
  have b4 : 0 ≤ y % 4294967296 ∧ y % 4294967296 ≤ 4294967295 := by omega
  generalize x / 4294967296 = a at *
  generalize x % 4294967296 = b at *
  generalize y / 4294967296 = c at *
  generalize y % 4294967296 = d at *
  have hm : ∀ p q : Int, 0 ≤ p ∧ p ≤ 4294967295 → 0 ≤ q ∧ q ≤ 4294967295 → 0 ≤ p * q ∧ p * q ≤ 18446744065119617025 := fun p q h1 h2 =>
    ⟨Int.mul_nonneg h1.1 h2.1, Int.le_trans (Int.mul_le_mul h1.2 h2.2 h2.1 (by omega)) (by omega)⟩
  have m1 := hm a c b1 b3
  have m2 := hm a d b1 b4
  have m3 := hm b c b2 b3
  have m4 := hm b d b2 b4
  have e : x * y = a * c * 18446744073709551616 + a * d * 4294967296 + b * c * 4294967296 + b * d := by
    rw [d1, d2]; grind
  rw [e]
  generalize a * c = p at *
  generalize a * d = q at *
  generalize b * c = r at *
  generalize b * d = t at *
  clear e d1 d2 hm
  omega
theorem mul_hi' (x y : Nat) (hx : x < 18446744073709551616) (hy : y < 18446744073709551616) :
    IntKind.u64.wrap (IntKind.u64.wrap (IntKind.u64.wrap ((x : Int) / 4294967296 * ((y : Int) / 4294967296)) + IntKind.u64.wrap (IntKind.u64.wrap ((x : Int) / 4294967296 * ((y : Int) % 4294967296)) + IntKind.u64.wrap ((x : Int) % 4294967296 * ((y : Int) % 4294967296)) / 4294967296) / 4294967296) +
      IntKind.u64.wrap (IntKind.u64.wrap (IntKind.u64.wrap ((x : Int) / 4294967296 * ((y : Int) % 4294967296)) + IntKind.u64.wrap ((x : Int) % 4294967296 * ((y : Int) % 4294967296)) / 4294967296) % 4294967296 + IntKind.u64.wrap ((x : Int) % 4294967296 * ((y : Int) / 4294967296))) / 4294967296) = ((x * y / 18446744073709551616 : Nat) : Int) := by
  simp only [u64w]
  rw [mul_hi x y (by omega) (by omega)]
  rw [← Int.natCast_mul]; omega
theorem mul_lo (x y : Nat) : IntKind.u64.wrap ((x : Int) * (y : Int)) = ((x * y % 18446744073709551616 : Nat) : Int) := by
  rw [u64w, ← Int.natCast_mul]; omega
set_option maxRecDepth 20000 in
set_option maxHeartbeats 8000000 in
theorem mul64_f (x y : Nat) (m : Nat) (hx : x < 18446744073709551616) (hy : y < 18446744073709551616) : DCalls Try.prog 86 [lu x, lu y] (hget []) m (.tup [lu (x * y / 18446744073709551616), lu (x * y % 18446744073709551616)]) (hget []) := by
  refine pureC (n := 51) (rs := [.tmp 4, .tmp 5]) (ts := [108, 108]) Try.func86 rfl (by decide) [] (by (exact SD)) ?_
  (repeat' (first | refine swp_seq [0, 1, 4, 5, 6, 7, 8, 9, 10, 11, 12, 13] ?_ | refine st1 ?_ | (show Fct ..; refine fctI (fun hf => ?_)) | (show SWp _ _ _ (.region _ _ true) _ _ _ _; refine xG mixed [] ?_) | (show SWp _ _ _ (.cond _ _ _) _ _ _ _; first | (refine cB (fun hc => ?_) (fun hc => ?_) <;> first | exact False.elim hc | exact absurd hc Bool.false_ne_true | exact absurd hc.symm Bool.false_ne_true | skip) | refine cU ?_ ?_)))
  rw [mul_hi' x y hx hy, mul_lo x y]
  generalize x * y / 18446744073709551616 = a
  generalize x * y % 18446744073709551616 = b
  (((simp only [push_cast, reduceIte, reduceDIte, reduceCtorEq, Nat.reduceLT, Nat.reduceLeDiff, Nat.reduceEqDiff, Nat.reduceAdd, Nat.reduceMul, Nat.reduceBEq, Nat.reducePow, Int.zero_add, Int.reduceAdd, Int.reduceSub, Int.reduceLT, Int.reduceLE, Int.reduceToNat, Int.reduceNeg, Nat.reduceSub, Int.reduceBNe, Int.reduceBEq]); repeat (simp (disch := omega) only [idx_nat, idx_mapT, i64w, rows_getS, rows_get, getD_set_self, famR_get]; try (simp only [push_cast, reduceIte, reduceDIte, reduceCtorEq, Nat.reduceLT, Nat.reduceLeDiff, Nat.reduceEqDiff, Nat.reduceAdd, Nat.reduceMul, Nat.reduceBEq, Nat.reducePow, Int.zero_add, Int.reduceAdd, Int.reduceSub, Int.reduceLT, Int.reduceLE, Int.reduceToNat, Int.reduceNeg, Nat.reduceSub, Int.reduceBNe, Int.reduceBEq]))))
theorem div64_f (x y : Nat) (m : Nat) (hx : x < 18446744073709551616) (hy : y < 18446744073709551616) (h0 : 0 < y) : DCalls Try.prog 87 [lu 0, lu x, lu y] (hget []) m (.tup [lu (x / y), lu (x % y)]) (hget []) := by
  have n1 : ¬ ((y : Int) = 0) := by omega
  have n2 : ¬ ((y : Int) ≤ 0) := by omega
  have i0 : (0 : Int) = 0 := rfl
  (have := Nonempty.intro n1)
  (have := Nonempty.intro n2)
  (have := Nonempty.intro i0)
  have e1 : IntKind.u64.wrap ((x : Int).tdiv (y : Int)) = ((x / y : Nat) : Int) := by
    rw [u64w, Int.tdiv_eq_ediv_of_nonneg (by omega), ← Int.natCast_ediv]
    have := Nat.div_le_self x y
    generalize x / y = q at *
    omega
  have e2 : ((x : Int).tmod (y : Int)) = ((x % y : Nat) : Int) := by
    rw [Int.tmod_eq_emod_of_nonneg (by omega)]; rfl
  refine pureC (n := 135) (rs := [.tmp 6, .tmp 7]) (ts := [108, 108]) Try.func87 rfl (by decide) [] (by (exact SD)) ?_
  (repeat' (first | refine swp_seq [0, 1, 2, 6, 7, 8, 9, 10, 11, 12, 13, 14, 15, 16, 17, 18, 20, 24, 27, 78, 85, 113, 120] ?_ | refine st1 ?_ | (show Fct ..; refine fctI (fun hf => ?_)) | (show SWp _ _ _ (.region _ _ true) _ _ _ _; refine xG mixed [] ?_) | (show SWp _ _ _ (.cond _ _ _) _ _ _ _; first | (refine cB (fun hc => ?_) (fun hc => ?_) <;> first | exact False.elim hc | exact absurd hc Bool.false_ne_true | exact absurd hc.symm Bool.false_ne_true | skip) | refine cU ?_ ?_)))
  rw [e1, e2]
  generalize x / y = a
  generalize x % y = b
  (((simp only [push_cast, reduceIte, reduceDIte, reduceCtorEq, Nat.reduceLT, Nat.reduceLeDiff, Nat.reduceEqDiff, Nat.reduceAdd, Nat.reduceMul, Nat.reduceBEq, Nat.reducePow, Int.zero_add, Int.reduceAdd, Int.reduceSub, Int.reduceLT, Int.reduceLE, Int.reduceToNat, Int.reduceNeg, Nat.reduceSub, Int.reduceBNe, Int.reduceBEq]); repeat (simp (disch := omega) only [idx_nat, idx_mapT, i64w, rows_getS, rows_get, getD_set_self, famR_get]; try (simp only [push_cast, reduceIte, reduceDIte, reduceCtorEq, Nat.reduceLT, Nat.reduceLeDiff, Nat.reduceEqDiff, Nat.reduceAdd, Nat.reduceMul, Nat.reduceBEq, Nat.reducePow, Int.zero_add, Int.reduceAdd, Int.reduceSub, Int.reduceLT, Int.reduceLE, Int.reduceToNat, Int.reduceNeg, Nat.reduceSub, Int.reduceBNe, Int.reduceBEq]))))
theorem part_f (t a b : Nat) (m : Nat) (h1 : t * a < 18446744073709551616) (ht : t < 9223372036854775808) (ha : a < 9223372036854775808) (hb : 0 < b ∧ b < 9223372036854775808) (hq : t * a / b < 9223372036854775808) :
    DCalls Try.prog 68 [li t, li a, li b] (hget []) m (li ((t * a / b : Nat) : Int)) (hget []) := by
  have w1 : IntKind.u64.wrap (t : Int) = (t : Int) := by rw [u64w]; omega
  have w2 : IntKind.u64.wrap (a : Int) = (a : Int) := by rw [u64w]; omega
  have w3 : IntKind.u64.wrap (b : Int) = (b : Int) := by rw [u64w]; omega
  have cM := fun m => mul64_f t a m (by omega) (by omega)
  rw [Nat.div_eq_of_lt h1, Nat.mod_eq_of_lt h1] at cM
  have cD := fun m => div64_f (t * a) b m h1 (by omega) hb.1
  generalize t * a = p at *
  generalize p / b = q at *
  generalize p % b = r at *
  refine pureC (n := 29) (rs := [.tmp 6]) (ts := [3]) Try.func68 rfl (by decide) [] (by (exact SD)) ?_
  (repeat' (first | refine swp_seq [0, 1, 2, 6, 7, 8, 9] ?_ | refine st1 ?_ | (show Fct ..; refine fctI (fun hf => ?_)) | (show SWp _ _ _ (.region _ _ true) _ _ _ _; refine xG mixed [] ?_) | (show SWp _ _ _ (.cond _ _ _) _ _ _ _; first | (refine cB (fun hc => ?_) (fun hc => ?_) <;> first | exact False.elim hc | exact absurd hc Bool.false_ne_true | exact absurd hc.symm Bool.false_ne_true | skip) | refine cU ?_ ?_)))
  rw [w1, w2]
  (repeat' (first | refine swp_seq [0, 1, 2, 6, 7, 8, 9] ?_ | refine st1 ?_ | (show CallQ ..; first | refine cF ?_ | refine cQ (fun hcc => (cM _)) ?_ | (refine lP ?_; refine lQ (fun hcc m => (cM _)) ?_)) | (show Fct ..; refine fctI (fun hf => ?_)) | (show XCallQ ..; first | refine xcF ?_ | refine xQ (fun hcc => (cM _)) ?_ | (refine xlP ?_; refine xlQ (fun hcc m => (cM _)) ?_)) | (show SWp _ _ _ (.region _ _ true) _ _ _ _; refine xG mixed [] ?_) | (show SWp _ _ _ (.cond _ _ _) _ _ _ _; first | (refine cB (fun hc => ?_) (fun hc => ?_) <;> first | exact False.elim hc | exact absurd hc Bool.false_ne_true | exact absurd hc.symm Bool.false_ne_true | skip) | refine cU ?_ ?_)))
  rw [w3]
  (repeat' (first | refine swp_seq [0, 1, 2, 6, 7, 8, 9] ?_ | refine st1 ?_ | (show CallQ ..; first | refine cF ?_ | refine cQ (fun hcc => (cD _)) ?_ | (refine lP ?_; refine lQ (fun hcc m => (cD _)) ?_)) | (show Fct ..; refine fctI (fun hf => ?_)) | (show XCallQ ..; first | refine xcF ?_ | refine xQ (fun hcc => (cD _)) ?_ | (refine xlP ?_; refine xlQ (fun hcc m => (cD _)) ?_)) | (show SWp _ _ _ (.region _ _ true) _ _ _ _; refine xG mixed [] ?_) | (show SWp _ _ _ (.cond _ _ _) _ _ _ _; first | (refine cB (fun hc => ?_) (fun hc => ?_) <;> first | exact False.elim hc | exact absurd hc Bool.false_ne_true | exact absurd hc.symm Bool.false_ne_true | skip) | refine cU ?_ ?_)))
  (((simp only [push_cast, reduceIte, reduceDIte, reduceCtorEq, Nat.reduceLT, Nat.reduceLeDiff, Nat.reduceEqDiff, Nat.reduceAdd, Nat.reduceMul, Nat.reduceBEq, Nat.reducePow, Int.zero_add, Int.reduceAdd, Int.reduceSub, Int.reduceLT, Int.reduceLE, Int.reduceToNat, Int.reduceNeg, Nat.reduceSub, Int.reduceBNe, Int.reduceBEq]); repeat (simp (disch := omega) only [idx_nat, idx_mapT, i64w, rows_getS, rows_get, getD_set_self, famR_get]; try (simp only [push_cast, reduceIte, reduceDIte, reduceCtorEq, Nat.reduceLT, Nat.reduceLeDiff, Nat.reduceEqDiff, Nat.reduceAdd, Nat.reduceMul, Nat.reduceBEq, Nat.reducePow, Int.zero_add, Int.reduceAdd, Int.reduceSub, Int.reduceLT, Int.reduceLE, Int.reduceToNat, Int.reduceNeg, Nat.reduceSub, Int.reduceBNe, Int.reduceBEq]))))
theorem own54 : ownKnob Try.prog.godebug = none := by kernel_rfl
theorem laid54 : laidOutB Try.prog = true := by kernel_rfl
theorem exMap {α : Type} (f : α → List PV) (p : α → Prop) : ∀ (l : List (List PV)), (∀ r, r ∈ l → ∃ x, r = f x ∧ p x) → ∃ xs : List α, l = xs.map f ∧ ∀ x, x ∈ xs → p x
  | [], _ => ⟨[], rfl, by simp⟩
  | r :: l, h => by
    obtain ⟨x, hx, hp⟩ := h r (by simp)
    obtain ⟨xs, hxs, hq⟩ := exMap f p l fun r hr => h r (by simp [hr])
    refine ⟨x :: xs, by simp [hx, hxs], fun y hy => ?_⟩
    rcases List.mem_cons.1 hy with rfl | hy
    · exact hp
    · exact hq y hy
theorem PT_slice {P : Program} {n : Nat} {t e : TypeId} {xs : List PV} (hu : P.underlying t = some (.slice e)) (h : PT P (n + 1) t xs) : ∃ l, xs = [.dat (P.cellsOf e) l] ∧ l.length * P.bytesOf e ≤ reachBytes ∧ ∀ r, r ∈ l → PT P n e r := by
  unfold PT at h; rw [hu] at h; exact h
theorem PT_struct {P : Program} {n : Nat} {t : TypeId} {fs : Array Field} {xs : List PV} (hu : P.underlying t = some (.struct fs)) (h : PT P (n + 1) t xs) : PTf P (PT P n) fs.toList xs := by
  unfold PT at h; rw [hu] at h; exact h
theorem PT_int {P : Program} {n : Nat} {t : TypeId} {k : IntKind} {xs : List PV} (hu : P.underlying t = some (.int k)) (h : PT P (n + 1) t xs) : ∃ z, xs = [.lit (.int k z)] ∧ (Lit.int k z).wf = true := by
  unfold PT at h; rw [hu] at h; exact h
theorem PT_str {P : Program} {n : Nat} {t : TypeId} {xs : List PV} (hu : P.underlying t = some .string) (h : PT P (n + 1) t xs) : ∃ s : ByteArray, xs = [.lit (.string s)] ∧ s.size ≤ reachBytes := by
  unfold PT at h; rw [hu] at h; exact h
theorem PT_bool {P : Program} {n : Nat} {t : TypeId} {xs : List PV} (hu : P.underlying t = some .bool) (h : PT P (n + 1) t xs) : ∃ b : Bool, xs = [.lit (.bool b)] := by
  unfold PT at h; rw [hu] at h; exact h
attribute [local irreducible] PT
theorem reachB : reachBytes ≤ 281474976710656 := by decide
theorem len_le {l k : Nat} (hk : 0 < k) (h : l * k ≤ reachBytes) : l ≤ 281474976710656 := Nat.le_trans (Nat.le_mul_of_pos_right l hk) (Nat.le_trans h reachB)
theorem pt_int {n : Nat} {xs : List PV} (h : PT Try.prog (n + 1) 3 xs) : ∃ z : Int, xs = [.lit (.int .i64 z)] ∧ i64ok z := by
  obtain ⟨z, rfl, hz⟩ := PT_int (P := Try.prog) (t := 3) Try.underlying3 h
  refine ⟨z, rfl, ?_⟩
  unfold i64ok
  simpa [Lit.wf, IntKind.min, IntKind.max, IntKind.signed, IntKind.bits] using hz
theorem pt_bool {n : Nat} {xs : List PV} (h : PT Try.prog (n + 1) 4 xs) : ∃ b : Bool, xs = [.lit (.bool b)] := PT_bool (P := Try.prog) (t := 4) Try.underlying4 h
theorem pt_str {n : Nat} {xs : List PV} (h : PT Try.prog (n + 1) 9 xs) : ∃ s : ByteArray, xs = [.lit (.string s)] ∧ s.size ≤ 281474976710656 := by
  obtain ⟨z, rfl, hz⟩ := PT_str (P := Try.prog) (t := 9) Try.underlying9 h
  exact ⟨z, rfl, Nat.le_trans hz reachB⟩
theorem cells_ints : Try.prog.cellsOf 3 = 1 := by kernel_rfl
theorem bytes_ints : 0 < Try.prog.bytesOf 3 := by rw [show Try.prog.bytesOf 3 = 8 from by kernel_rfl]; decide
theorem pt_ints {n : Nat} {xs : List PV} (h : PT Try.prog (n + 2) 26 xs) : ∃ l : List Int, xs = [.dat 1 (l.map inRow)] ∧ intsOk l := by
  obtain ⟨l, rfl, hl, hr⟩ := PT_slice (P := Try.prog) (t := 26) Try.underlying26 h
  obtain ⟨zs, rfl, hz⟩ := exMap inRow i64ok l fun r hr2 => by
    obtain ⟨z, rfl, hz⟩ := pt_int (hr r hr2)
    exact ⟨z, rfl, hz⟩
  rw [cells_ints]
  have := len_le bytes_ints hl
  rw [List.length_map] at this
  exact ⟨zs, rfl, this, hz⟩
theorem cells_bools : Try.prog.cellsOf 4 = 1 := by kernel_rfl
theorem bytes_bools : 0 < Try.prog.bytesOf 4 := by rw [show Try.prog.bytesOf 4 = 1 from by kernel_rfl]; decide
theorem pt_bools {n : Nat} {xs : List PV} (h : PT Try.prog (n + 2) 27 xs) : ∃ l : List Bool, xs = [.dat 1 (l.map boRow)] ∧ l.length ≤ 281474976710656 := by
  obtain ⟨l, rfl, hl, hr⟩ := PT_slice (P := Try.prog) (t := 27) Try.underlying27 h
  obtain ⟨zs, rfl, hz⟩ := exMap boRow (fun _ => True) l fun r hr2 => by
    obtain ⟨z, rfl⟩ := pt_bool (hr r hr2)
    exact ⟨z, rfl, trivial⟩
  rw [cells_bools]
  have := len_le bytes_bools hl
  rw [List.length_map] at this
  exact ⟨zs, rfl, this⟩
theorem pt_knot {n : Nat} {xs : List PV} (h : PT Try.prog (n + 2) 83 xs) : ∃ x : Knot, xs = knotP x ∧ knotOk x := by
  replace h := PT_struct (P := Try.prog) (t := 83) Try.underlying83 h
  obtain ⟨_, _, rfl, h0, _, _, rfl, h1, rfl⟩ := h
  obtain ⟨a0, rfl, k0⟩ := pt_int h0
  obtain ⟨a1, rfl, k1⟩ := pt_int h1
  exact ⟨⟨a0, a1⟩, rfl, ⟨k0, k1⟩⟩
theorem cells_knots : Try.prog.cellsOf 83 = 2 := by kernel_rfl
theorem bytes_knots : 0 < Try.prog.bytesOf 83 := by rw [show Try.prog.bytesOf 83 = 16 from by kernel_rfl]; decide
theorem pt_knots {n : Nat} {xs : List PV} (h : PT Try.prog (n + 3) 52 xs) : ∃ l : List Knot, xs = [.dat 2 (l.map knotP)] ∧ l.length ≤ 281474976710656 ∧ ∀ x, x ∈ l → knotOk x := by
  obtain ⟨l, rfl, hl, hr⟩ := PT_slice (P := Try.prog) (t := 52) Try.underlying52 h
  obtain ⟨zs, rfl, hz⟩ := exMap knotP knotOk l fun r hr2 => by
    obtain ⟨z, rfl, hz⟩ := pt_knot (hr r hr2)
    exact ⟨z, rfl, hz⟩
  rw [cells_knots]
  have := len_le bytes_knots hl
  rw [List.length_map] at this
  exact ⟨zs, rfl, this, hz⟩
theorem pt_point {n : Nat} {xs : List PV} (h : PT Try.prog (n + 2) 50 xs) : ∃ x : Point, xs = pointP x ∧ pointOk x := by
  replace h := PT_struct (P := Try.prog) (t := 50) Try.underlying50 h
  obtain ⟨_, _, rfl, h0, _, _, rfl, h1, rfl⟩ := h
  obtain ⟨a0, rfl, k0⟩ := pt_int h0
  obtain ⟨a1, rfl, k1⟩ := pt_int h1
  exact ⟨⟨a0, a1⟩, rfl, ⟨k0, k1⟩⟩
theorem pt_node {n : Nat} {xs : List PV} (h : PT Try.prog (n + 4) 54 xs) : ∃ x : Node, xs = nodeP x ∧ nodeOk x := by
  replace h := PT_struct (P := Try.prog) (t := 54) Try.underlying54 h
  obtain ⟨_, _, rfl, h0, _, _, rfl, h1, _, _, rfl, h2, _, _, rfl, h3, _, _, rfl, h4, _, _, rfl, h5, _, _, rfl, h6, _, _, rfl, h7, rfl⟩ := h
  obtain ⟨a0, rfl, k0⟩ := pt_str h0
  obtain ⟨a1, rfl, k1⟩ := pt_int h1
  obtain ⟨a2, rfl, k2⟩ := pt_point h2
  obtain ⟨a3, rfl, k3⟩ := pt_int h3
  obtain ⟨a4, rfl, k4⟩ := pt_int h4
  obtain ⟨a5, rfl, k5⟩ := pt_knots h5
  obtain ⟨a6, rfl⟩ := pt_bool h6
  obtain ⟨a7, rfl, k7⟩ := pt_int h7
  exact ⟨⟨a0, a1, a2, a3, a4, a5, a6, a7⟩, rfl, ⟨k0, k1, k2, k3, k4, k5, k7⟩⟩
theorem cells_nodes : Try.prog.cellsOf 54 = 9 := by kernel_rfl
theorem bytes_nodes : 0 < Try.prog.bytesOf 54 := by rw [show Try.prog.bytesOf 54 = 96 from by kernel_rfl]; decide
theorem pt_nodes {n : Nat} {xs : List PV} (h : PT Try.prog (n + 5) 22 xs) : ∃ l : List Node, xs = [.dat 9 (l.map nodeP)] ∧ l.length ≤ 281474976710656 ∧ ∀ x, x ∈ l → nodeOk x := by
  obtain ⟨l, rfl, hl, hr⟩ := PT_slice (P := Try.prog) (t := 22) Try.underlying22 h
  obtain ⟨zs, rfl, hz⟩ := exMap nodeP nodeOk l fun r hr2 => by
    obtain ⟨z, rfl, hz⟩ := pt_node (hr r hr2)
    exact ⟨z, rfl, hz⟩
  rw [cells_nodes]
  have := len_le bytes_nodes hl
  rw [List.length_map] at this
  exact ⟨zs, rfl, this, hz⟩
theorem pt_link {n : Nat} {xs : List PV} (h : PT Try.prog (n + 4) 65 xs) : ∃ x : Link, xs = linkP x ∧ linkOk x := by
  replace h := PT_struct (P := Try.prog) (t := 65) Try.underlying65 h
  obtain ⟨_, _, rfl, h0, _, _, rfl, h1, _, _, rfl, h2, _, _, rfl, h3, _, _, rfl, h4, _, _, rfl, h5, _, _, rfl, h6, _, _, rfl, h7, _, _, rfl, h8, _, _, rfl, h9, _, _, rfl, h10, rfl⟩ := h
  obtain ⟨a0, rfl, k0⟩ := pt_str h0
  obtain ⟨a1, rfl, k1⟩ := pt_str h1
  obtain ⟨a2, rfl, k2⟩ := pt_str h2
  obtain ⟨a3, rfl, k3⟩ := pt_int h3
  obtain ⟨a4, rfl, k4⟩ := pt_int h4
  obtain ⟨a5, rfl, k5⟩ := pt_int h5
  obtain ⟨a6, rfl, k6⟩ := pt_int h6
  obtain ⟨a7, rfl, k7⟩ := pt_str h7
  obtain ⟨a8, rfl, k8⟩ := pt_int h8
  obtain ⟨a9, rfl, k9⟩ := pt_int h9
  obtain ⟨a10, rfl, k10⟩ := pt_knots h10
  exact ⟨⟨a0, a1, a2, a3, a4, a5, a6, a7, a8, a9, a10⟩, rfl, ⟨k0, k1, k2, k3, k4, k5, k6, k7, k8, k9, k10⟩⟩
theorem cells_links : Try.prog.cellsOf 65 = 11 := by kernel_rfl
theorem bytes_links : 0 < Try.prog.bytesOf 65 := by rw [show Try.prog.bytesOf 65 = 136 from by kernel_rfl]; decide
theorem pt_links {n : Nat} {xs : List PV} (h : PT Try.prog (n + 5) 23 xs) : ∃ l : List Link, xs = [.dat 11 (l.map linkP)] ∧ l.length ≤ 281474976710656 ∧ ∀ x, x ∈ l → linkOk x := by
  obtain ⟨l, rfl, hl, hr⟩ := PT_slice (P := Try.prog) (t := 23) Try.underlying23 h
  obtain ⟨zs, rfl, hz⟩ := exMap linkP linkOk l fun r hr2 => by
    obtain ⟨z, rfl, hz⟩ := pt_link (hr r hr2)
    exact ⟨z, rfl, hz⟩
  rw [cells_links]
  have := len_le bytes_links hl
  rw [List.length_map] at this
  exact ⟨zs, rfl, this, hz⟩
theorem pt_net {n : Nat} {xs : List PV} (h : PT Try.prog (n + 6) 25 xs) : ∃ x : Net, xs = netP x ∧ netOk x := by
  replace h := PT_struct (P := Try.prog) (t := 25) Try.underlying25 h
  obtain ⟨_, _, rfl, h0, _, _, rfl, h1, rfl⟩ := h
  obtain ⟨a0, rfl, k0⟩ := pt_nodes h0
  obtain ⟨a1, rfl, k1⟩ := pt_links h1
  exact ⟨⟨a0, a1⟩, rfl, ⟨k0, k1⟩⟩
theorem pt_sta {n : Nat} {xs : List PV} (h : PT Try.prog (n + 3) 29 xs) : ∃ x : Sta, xs = staP x ∧ staOk x := by
  replace h := PT_struct (P := Try.prog) (t := 29) Try.underlying29 h
  obtain ⟨_, _, rfl, h0, _, _, rfl, h1, _, _, rfl, h2, _, _, rfl, h3, rfl⟩ := h
  obtain ⟨a0, rfl, k0⟩ := pt_ints h0
  obtain ⟨a1, rfl, k1⟩ := pt_ints h1
  obtain ⟨a2, rfl, k2⟩ := pt_ints h2
  obtain ⟨a3, rfl, k3⟩ := pt_bools h3
  exact ⟨⟨a0, a1, a2, a3⟩, rfl, ⟨k0, k1, k2, k3⟩⟩
theorem dv_net (n : Net) : dvT Try.prog 25 (netP n) = netD n := by unfold dvT; rw [Try.underlying25]; rfl
theorem dv_sta (s : Sta) : dvT Try.prog 29 (staP s) = staD s := by unfold dvT; rw [Try.underlying29]; rfl
theorem dv_ints (l : List Int) : dvT Try.prog 26 [.dat 1 (l.map inRow)] = ints l := by unfold dvT; rw [Try.underlying26]; rfl
theorem dv_int (n : Int) : dvT Try.prog 3 [.lit (.int .i64 n)] = li n := by unfold dvT; rw [Try.underlying3]; rfl

end Go.Proofs.Ytlbadfjonhgppaa
