/-
  Contracts of functions of the program, over the engine.
  No condition.
-/
import Derived.Test.YtlbadfjonhgppaaCT9bT9c
namespace Go.Proofs.Ytlbadfjonhgppaa
open Go.Eng
set_option linter.all false
attribute [local irreducible] DCallsG SWp Fct CallQ XCallQ LCallQ XLCallQ drun xrun
set_option maxRecDepth 20000 in
set_option maxHeartbeats 8000000 in
theorem rSettled_f (n : Net) (s : Sta) (held : List Int) (m : Nat) (hs : lenOk s) (hv : netB n = true) (l1 : held.length = n.nodes.length) (l2 : s.vol.length = n.nodes.length) (l3 : s.pon.length = n.nodes.length) (hb : ∀ i, i < n.nodes.length → 0 ≤ held.getD i default ∧ held.getD i default ≤ 1152921504606846976) :
    DCalls Try.prog 15 [netD n, staD s, ints held] (hget []) m (.tup [staD ⟨vS n held, pS n held, s.set, s.on⟩, lb (fitS n held)]) (hget []) := by
  have a1 := netB_len hv
  have q2 : (vS n held).length = s.vol.length := by simp [vS, l2]
  have q3 : (pS n held).length = s.pon.length := by simp [pS, l3]
  refine pureC (n := 70) (rs := [.cell 6 29, .tmp 7]) (ts := [29, 4]) Try.func15 rfl (by decide) [40, 41, 42, 43] (by (exact SD)) ?_
  (repeat' (first | refine swp_seq [0, 1, 2, 3, 4, 6, 7, 8, 9, 10, 11, 17, 43] ?_ | refine st1 ?_ | (show CallQ ..; first | refine cF ?_ | refine cQ (fun hcc => (rCopy_f _ _ hs)) ?_ | (refine lP ?_; refine lQ (fun hcc m => (rCopy_f _ _ hs)) ?_)) | (show Fct ..; refine fctI (fun hf => ?_)) | (show XCallQ ..; first | refine xcF ?_ | refine xQ (fun hcc => (rCopy_f _ _ hs)) ?_ | (refine xlP ?_; refine xlQ (fun hcc m => (rCopy_f _ _ hs)) ?_)) | (show SWp _ _ _ (.region _ _ true) _ _ _ _; refine xG mixed [] ?_) | (show SWp _ _ _ (.cond _ _ _) _ _ _ _; first | (refine cB (fun hc => ?_) (fun hc => ?_) <;> first | exact False.elim hc | exact absurd hc Bool.false_ne_true | exact absurd hc.symm Bool.false_ne_true | skip) | refine cU ?_ ?_)))
  refine loop_swp [2, 3, 6, 8, 9, 10] [0, 16, 40, 41, 42, 43, 48] 49 (fun q A H => ∃ i : Nat, i ≤ n.nodes.length ∧ q = n.nodes.length - i ∧ A = [(2, ints held), (3, .ptr 0 0), (6, .ptr 16 0), (8, .ptr 48 0), (9, lb (fitI (pS n held) i)), (10, li i)] ∧ H = [(0, .blk 25 (netC n)), (16, .blk 29 [nilS, nilS, nilS, nilS]), (40, inLt ((vS n held).take i ++ s.vol.drop i)), (41, inLt ((pS n held).take i ++ s.pon.drop i)), (42, inLt s.set), (43, boL s.on), (48, .blk 29 [.gl 40, .gl 41, .gl 42, .gl 43])]) (by omega) ?_ ?_ ?_
  · rintro q A H ⟨i, h1, h2, rfl, rfl⟩
    exact ⟨by (exact SD), by (exact SD)⟩
  · refine ⟨_, 0, by omega, rfl, ?_, ?_⟩
    · (((simp only [push_cast, reduceIte, reduceDIte, reduceCtorEq, Nat.reduceLT, Nat.reduceLeDiff, Nat.reduceEqDiff, Nat.reduceAdd, Nat.reduceMul, Nat.reduceBEq, Nat.reducePow, Int.zero_add, Int.reduceAdd, Int.reduceSub, Int.reduceLT, Int.reduceLE, Int.reduceToNat, Int.reduceNeg, Nat.reduceSub, Int.reduceBNe, Int.reduceBEq]); repeat (simp (disch := omega) only [idx_nat, idx_mapT, i64w, rows_getS, rows_get, getD_set_self, famR_get]; try (simp only [push_cast, reduceIte, reduceDIte, reduceCtorEq, Nat.reduceLT, Nat.reduceLeDiff, Nat.reduceEqDiff, Nat.reduceAdd, Nat.reduceMul, Nat.reduceBEq, Nat.reducePow, Int.zero_add, Int.reduceAdd, Int.reduceSub, Int.reduceLT, Int.reduceLE, Int.reduceToNat, Int.reduceNeg, Nat.reduceSub, Int.reduceBNe, Int.reduceBEq])))); rfl
    · (((simp only [push_cast, reduceIte, reduceDIte, reduceCtorEq, Nat.reduceLT, Nat.reduceLeDiff, Nat.reduceEqDiff, Nat.reduceAdd, Nat.reduceMul, Nat.reduceBEq, Nat.reducePow, Int.zero_add, Int.reduceAdd, Int.reduceSub, Int.reduceLT, Int.reduceLE, Int.reduceToNat, Int.reduceNeg, Nat.reduceSub, Int.reduceBNe, Int.reduceBEq]); repeat (simp (disch := omega) only [idx_nat, idx_mapT, i64w, rows_getS, rows_get, getD_set_self, famR_get]; try (simp only [push_cast, reduceIte, reduceDIte, reduceCtorEq, Nat.reduceLT, Nat.reduceLeDiff, Nat.reduceEqDiff, Nat.reduceAdd, Nat.reduceMul, Nat.reduceBEq, Nat.reducePow, Int.zero_add, Int.reduceAdd, Int.reduceSub, Int.reduceLT, Int.reduceLE, Int.reduceToNat, Int.reduceNeg, Nat.reduceSub, Int.reduceBNe, Int.reduceBEq]))))
  rintro q A H ⟨i, h1, h2, rfl, rfl⟩
  by_cases hi : i < n.nodes.length
  · have hbi := hb i hi
    have hcap := capN_le hv hi
    have cc := fun m => rCapacity_f (n.nodes.getD i default) m (nodeR_shape (netB_node hv hi))
    have L2 := upd_len q2 (i := i) (by omega)
    have L3 := upd_len q3 (i := i) (by omega)
    have S2 := fun x hx => upd_step (i := i) (x := x) q2 (by omega) hx
    have S3 := fun x hx => upd_step (i := i) (x := x) q3 (by omega) hx
    have ev : (vS n held).getD i default = if capN (n.nodes.getD i default) < held.getD i default then capN (n.nodes.getD i default) else held.getD i default := map_at hi
    have ep : (pS n held).getD i default = held.getD i default - (if capN (n.nodes.getD i default) < held.getD i default then capN (n.nodes.getD i default) else held.getD i default) := map_at hi
    have ef := fitI_next (pS n held) i
    generalize hF : fitI (pS n held) i = F at *
    generalize hX2 : (vS n held).take i ++ s.vol.drop i = X2 at *
    generalize hX3 : (pS n held).take i ++ s.pon.drop i = X3 at *
    by_cases hcp : capN (n.nodes.getD i default) < held.getD i default
    · rw [if_pos hcp] at ev ep
      (have := Nonempty.intro hcp)
      (repeat' (first | refine swp_seq [0, 1, 2, 3, 4, 6, 7, 8, 9, 10, 11, 17, 43] ?_ | refine st1 ?_ | (show CallQ ..; first | refine cF ?_ | refine cQ (fun hcc => (cc _)) ?_ | (refine lP ?_; refine lQ (fun hcc m => (cc _)) ?_)) | (show Fct ..; refine fctI (fun hf => ?_)) | (show XCallQ ..; first | refine xcF ?_ | refine xQ (fun hcc => (cc _)) ?_ | (refine xlP ?_; refine xlQ (fun hcc m => (cc _)) ?_)) | (show SWp _ _ _ (.region _ _ true) _ _ _ _; refine xG mixed [40, 41] ?_) | (show SWp _ _ _ (.cond _ _ _) _ _ _ _; first | (refine cB (fun hc => ?_) (fun hc => ?_) <;> first | exact False.elim hc | exact absurd hc Bool.false_ne_true | exact absurd hc.symm Bool.false_ne_true | skip) | refine cU ?_ ?_)))
      · (refine lN [0, 16, 40, 41, 42, 43, 48] ?_)
        refine ⟨_, by omega, i + 1, by omega, rfl, ?_, ?_⟩
        · rw [ef, ep]; cases F <;> rfl
        · rw [← S2 _ ev.symm, ← S3 _ ep.symm]
      · omega
    · rw [if_neg hcp] at ev ep
      rw [Int.sub_self] at ep
      (have := Nonempty.intro hcp)
      (repeat' (first | refine swp_seq [0, 1, 2, 3, 4, 6, 7, 8, 9, 10, 11, 17, 43] ?_ | refine st1 ?_ | (show CallQ ..; first | refine cF ?_ | refine cQ (fun hcc => (cc _)) ?_ | (refine lP ?_; refine lQ (fun hcc m => (cc _)) ?_)) | (show Fct ..; refine fctI (fun hf => ?_)) | (show XCallQ ..; first | refine xcF ?_ | refine xQ (fun hcc => (cc _)) ?_ | (refine xlP ?_; refine xlQ (fun hcc m => (cc _)) ?_)) | (show SWp _ _ _ (.region _ _ true) _ _ _ _; refine xG mixed [40, 41] ?_) | (show SWp _ _ _ (.cond _ _ _) _ _ _ _; first | (refine cB (fun hc => ?_) (fun hc => ?_) <;> first | exact False.elim hc | exact absurd hc Bool.false_ne_true | exact absurd hc.symm Bool.false_ne_true | skip) | refine cU ?_ ?_)))
      · (refine lN [0, 16, 40, 41, 42, 43, 48] ?_)
        refine ⟨_, by omega, i + 1, by omega, rfl, ?_, ?_⟩
        · rw [ef, ep]; cases F <;> rfl
        · rw [← S2 _ ev.symm, ← S3 _ ep.symm]
      · omega
  have hi2 : i = n.nodes.length := by omega
  subst hi2
  have e2 := upd_end q2
  have e3 := upd_end q3
  rw [l2] at e2
  rw [l3] at e3
  rw [e2, e3]
  (repeat' (first | refine swp_seq [0, 1, 2, 3, 4, 6, 7, 8, 9, 10, 11, 17, 43] ?_ | refine st1 ?_ | (show Fct ..; refine fctI (fun hf => ?_)) | (show SWp _ _ _ (.region _ _ true) _ _ _ _; refine xG mixed [] ?_) | (show SWp _ _ _ (.cond _ _ _) _ _ _ _; first | (refine cB (fun hc => ?_) (fun hc => ?_) <;> first | exact False.elim hc | exact absurd hc Bool.false_ne_true | exact absurd hc.symm Bool.false_ne_true | skip) | refine cU ?_ ?_)))
  · omega
  (((simp only [push_cast, reduceIte, reduceDIte, reduceCtorEq, Nat.reduceLT, Nat.reduceLeDiff, Nat.reduceEqDiff, Nat.reduceAdd, Nat.reduceMul, Nat.reduceBEq, Nat.reducePow, Int.zero_add, Int.reduceAdd, Int.reduceSub, Int.reduceLT, Int.reduceLE, Int.reduceToNat, Int.reduceNeg, Nat.reduceSub, Int.reduceBNe, Int.reduceBEq]); repeat (simp (disch := omega) only [idx_nat, idx_mapT, i64w, rows_getS, rows_get, getD_set_self, famR_get]; try (simp only [push_cast, reduceIte, reduceDIte, reduceCtorEq, Nat.reduceLT, Nat.reduceLeDiff, Nat.reduceEqDiff, Nat.reduceAdd, Nat.reduceMul, Nat.reduceBEq, Nat.reducePow, Int.zero_add, Int.reduceAdd, Int.reduceSub, Int.reduceLT, Int.reduceLE, Int.reduceToNat, Int.reduceNeg, Nat.reduceSub, Int.reduceBNe, Int.reduceBEq])))) <;> rfl

end Go.Proofs.Ytlbadfjonhgppaa
