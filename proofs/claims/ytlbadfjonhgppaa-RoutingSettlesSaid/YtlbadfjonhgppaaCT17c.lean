/-
  Contracts of functions of the program, over the engine.
  No condition.
-/
import Derived.Test.YtlbadfjonhgppaaCT16T17a
namespace Go.Proofs.Ytlbadfjonhgppaa
open Go.Eng
set_option linter.all false
attribute [local irreducible] DCallsG SWp Fct CallQ XCallQ LCallQ XLCallQ drun xrun
set_option maxRecDepth 20000 in
set_option maxHeartbeats 16000000 in
theorem tail3_f (n : Net) (s : Sta) (hn : netOk n) (hs : staOk s) (hv : netB n = true) (hb : staB n s = true) : TailS n s ⟨vS n (heldL s), pS n (heldL s), s.set, s.on⟩ (sumI (pS n (heldL s)) n.nodes.length) 0 (wetI n s n.nodes.length) 0 := by
  have a1 := netB_len hv
  have eV := fun m => rNetValid_f n m hn
  have eT := fun m => rStaValid_f n s m hv hs
  simp only [hv] at eV
  simp only [hb] at eT
  obtain ⟨hh, hlk, l1, l2⟩ := sta_hold hv hb
  have hle := heldL_le hh
  have hlh := heldL_len s
  have hbS : ∀ i, i < n.nodes.length → 0 ≤ (heldL s).getD i default ∧ (heldL s).getD i default ≤ 1152921504606846976 := fun i hi => by have := hle i (by omega); omega
  have hbP := pS_le (held := heldL s) hv hbS
  have lp : (pS n (heldL s)).length = n.nodes.length := by simp [pS]
  have hsum := sumI_le (l := pS n (heldL s)) (b := 2251799813685248) (fun i hi => by
    have := hbP i (by omega)
    have := hle i (by omega)
    omega)
  have hok := stS_ok hv hs l1 (fun i hi => hle i (by omega))
  have eE := fun m => sameT _ m hok
  have eH := fun m => rHeld_f s m hh
  have eU := fun m => rSettled_f n s (heldL s) m hlk hv (by omega) l1 l2 hbS
  have hwl := wetI_len n s n.nodes.length
  have eN := fun m => eqlT (wetI n s n.nodes.length) m (by omega)
  generalize fitS n (heldL s) = fit at *
  generalize hVE : vS n (heldL s) = VE at *
  generalize hPE : pS n (heldL s) = PE at *
  unfold TailS
  change SWp _ _ _ (Code.seq _ _) _ _ _ _
  (repeat' (first | refine swp_seq [0, 1, 2, 3, 4, 5, 8, 9, 10, 11, 12, 13, 14, 15, 16, 17, 18, 19, 20, 22, 23, 24, 25, 27, 35, 57, 61, 71, 78, 84, 86, 92, 107, 116, 146, 147, 148, 149, 165] ?_ | refine st1 ?_ | (show CallQ ..; first | refine cF ?_ | refine cQ (fun hcc => (by first | exact eV _ | exact eT _ | exact eE _ | exact eH _ | exact eU _)) ?_ | (refine lP ?_; refine lQ (fun hcc m => (by first | exact eV _ | exact eT _ | exact eE _ | exact eH _ | exact eU _)) ?_)) | (show Fct ..; refine fctI (fun hf => ?_)) | (show XCallQ ..; first | refine xcF ?_ | refine xQ (fun hcc => (by first | exact eV _ | exact eT _ | exact eE _ | exact eH _ | exact eU _)) ?_ | (refine xlP ?_; refine xlQ (fun hcc m => (by first | exact eV _ | exact eT _ | exact eE _ | exact eH _ | exact eU _)) ?_)) | (show SWp _ _ _ (.region _ _ true) _ _ _ _; refine xG mixed [297] ?_) | (show SWp _ _ _ (.cond _ _ _) _ _ _ _; first | (refine cB (fun hc => ?_) (fun hc => ?_) <;> first | exact False.elim hc | exact absurd hc Bool.false_ne_true | exact absurd hc.symm Bool.false_ne_true | skip) | refine cU ?_ ?_)))
  (refine sR 297 24 ?_)
  generalize hSm : sumI PE n.nodes.length = Sm at *
  generalize hWw : wetI n s n.nodes.length = Ww at *
  refine loop_swp [4, 5, 9, 10, 11, 12, 13, 20, 22, 23, 146, 147, 148] [0, 8, 24, 160, 32] 161 (fun q A H => ∃ (i : Nat) (d : DV), i ≤ n.nodes.length ∧ q = n.nodes.length - i ∧ ((wetI n s i = [] ∧ d = nilS ∧ H = [(0, .blk 25 (netC n)), (8, .blk 29 (staC s)), (24, .blk 29 (staC ⟨VE, PE, s.set, s.on⟩)), (160, .blk 29 (staC ⟨VE, PE, s.set, s.on⟩))]) ∨ (d = .gl 32 ∧ H = [(0, .blk 25 (netC n)), (8, .blk 29 (staC s)), (24, .blk 29 (staC ⟨VE, PE, s.set, s.on⟩)), (160, .blk 29 (staC ⟨VE, PE, s.set, s.on⟩)), (32, strL (wetI n s i))])) ∧ A = [(4, .ptr 0 0), (5, .ptr 8 0), (9, .ptr 160 0), (10, li Sm), (11, li 0), (12, strs Ww), (13, li 0), (20, .ptr 24 0), (22, li (sumI PE i)), (23, d), (146, nodeL n.nodes), (147, li n.nodes.length), (148, li i)]) (by omega) ?_ ?_ ?_
  · rintro q A H ⟨i, d, h1, h2, h3, rfl⟩
    rcases h3 with ⟨_, rfl, rfl⟩ | ⟨rfl, rfl⟩
    · exact ⟨by (exact SD), by (exact SD)⟩
    · exact ⟨by (exact SD), by (exact SD)⟩
  · refine ⟨_, 0, nilS, by omega, rfl, .inl ⟨rfl, rfl, ?_⟩, ?_⟩
    · (((simp only [push_cast, reduceIte, reduceDIte, reduceCtorEq, Nat.reduceLT, Nat.reduceLeDiff, Nat.reduceEqDiff, Nat.reduceAdd, Nat.reduceMul, Nat.reduceBEq, Nat.reducePow, Int.zero_add, Int.reduceAdd, Int.reduceSub, Int.reduceLT, Int.reduceLE, Int.reduceToNat, Int.reduceNeg, Nat.reduceSub, Int.reduceBNe, Int.reduceBEq]); repeat (simp (disch := omega) only [idx_nat, idx_mapT, i64w, rows_getS, rows_get, getD_set_self, famR_get]; try (simp only [push_cast, reduceIte, reduceDIte, reduceCtorEq, Nat.reduceLT, Nat.reduceLeDiff, Nat.reduceEqDiff, Nat.reduceAdd, Nat.reduceMul, Nat.reduceBEq, Nat.reducePow, Int.zero_add, Int.reduceAdd, Int.reduceSub, Int.reduceLT, Int.reduceLE, Int.reduceToNat, Int.reduceNeg, Nat.reduceSub, Int.reduceBNe, Int.reduceBEq]))))
    · (((simp only [push_cast, reduceIte, reduceDIte, reduceCtorEq, Nat.reduceLT, Nat.reduceLeDiff, Nat.reduceEqDiff, Nat.reduceAdd, Nat.reduceMul, Nat.reduceBEq, Nat.reducePow, Int.zero_add, Int.reduceAdd, Int.reduceSub, Int.reduceLT, Int.reduceLE, Int.reduceToNat, Int.reduceNeg, Nat.reduceSub, Int.reduceBNe, Int.reduceBEq]); repeat (simp (disch := omega) only [idx_nat, idx_mapT, i64w, rows_getS, rows_get, getD_set_self, famR_get]; try (simp only [push_cast, reduceIte, reduceDIte, reduceCtorEq, Nat.reduceLT, Nat.reduceLeDiff, Nat.reduceEqDiff, Nat.reduceAdd, Nat.reduceMul, Nat.reduceBEq, Nat.reducePow, Int.zero_add, Int.reduceAdd, Int.reduceSub, Int.reduceLT, Int.reduceLE, Int.reduceToNat, Int.reduceNeg, Nat.reduceSub, Int.reduceBNe, Int.reduceBEq])))); rfl
  rintro q A H ⟨i, d, h1, h2, h3, rfl⟩
  have hwi := wetI_len n s i
  by_cases hi : i < n.nodes.length
  · have hs1 := hsum i (by omega)
    have hs2 := sumI_next PE (i := i) (by omega)
    have hs3 := hbP i hi
    have hs4 := hle i (by omega)
    have hp0 := (hh.2.2 i (by omega)).2
    have hnext : wetI n s (i + 1) = if s.pon.getD i default = 0 then wetI n s i else wetI n s i ++ [(n.nodes.getD i default).name] := rfl
    generalize hF : sumI PE i = F at *
    by_cases h0 : s.pon.getD i default = 0
    · rw [if_pos h0] at hnext
      have h9 : ¬ (0 < s.pon.getD i default) := by omega
      (have := Nonempty.intro h9)
      rcases h3 with ⟨hw, rfl, rfl⟩ | ⟨rfl, rfl⟩
      · (repeat' (first | refine swp_seq [0, 1, 2, 3, 4, 5, 8, 9, 10, 11, 12, 13, 14, 15, 16, 17, 18, 19, 20, 22, 23, 24, 25, 27, 35, 57, 61, 71, 78, 84, 86, 92, 107, 116, 146, 147, 148, 149, 165] ?_ | refine st1 ?_ | (show Fct ..; refine fctI (fun hf => ?_)) | (show SWp _ _ _ (.region _ _ true) _ _ _ _; refine xG mixed [] ?_) | (show SWp _ _ _ (.cond _ _ _) _ _ _ _; first | (refine cB (fun hc => ?_) (fun hc => ?_) <;> first | exact False.elim hc | exact absurd hc Bool.false_ne_true | exact absurd hc.symm Bool.false_ne_true | skip) | refine cU ?_ ?_)))
        · (refine lN [0, 8, 24, 160, 32] ?_)
          exact ⟨_, by omega, i + 1, _, by omega, rfl, .inl ⟨by rw [hnext, hw], rfl, rfl⟩, by rw [hs2]; rfl⟩
        · omega
      · generalize hW : wetI n s i = W at *
        (repeat' (first | refine swp_seq [0, 1, 2, 3, 4, 5, 8, 9, 10, 11, 12, 13, 14, 15, 16, 17, 18, 19, 20, 22, 23, 24, 25, 27, 35, 57, 61, 71, 78, 84, 86, 92, 107, 116, 146, 147, 148, 149, 165] ?_ | refine st1 ?_ | (show Fct ..; refine fctI (fun hf => ?_)) | (show SWp _ _ _ (.region _ _ true) _ _ _ _; refine xG mixed [] ?_) | (show SWp _ _ _ (.cond _ _ _) _ _ _ _; first | (refine cB (fun hc => ?_) (fun hc => ?_) <;> first | exact False.elim hc | exact absurd hc Bool.false_ne_true | exact absurd hc.symm Bool.false_ne_true | skip) | refine cU ?_ ?_)))
        · (refine lN [0, 8, 24, 160, 32] ?_)
          exact ⟨_, by omega, i + 1, _, by omega, rfl, .inr ⟨rfl, by rw [hnext]⟩, by rw [hs2]; rfl⟩
        · omega
    · rw [if_neg h0] at hnext
      have h9 : 0 < s.pon.getD i default := by omega
      (have := Nonempty.intro h9)
      rcases h3 with ⟨hw, rfl, rfl⟩ | ⟨rfl, rfl⟩
      · rw [hw] at hnext
        (repeat' (first | refine swp_seq [0, 1, 2, 3, 4, 5, 8, 9, 10, 11, 12, 13, 14, 15, 16, 17, 18, 19, 20, 22, 23, 24, 25, 27, 35, 57, 61, 71, 78, 84, 86, 92, 107, 116, 146, 147, 148, 149, 165] ?_ | refine st1 ?_ | (show Fct ..; refine fctI (fun hf => ?_)) | (show SWp _ _ _ (.region _ _ true) _ _ _ _; refine xG mixed [] ?_) | (show SWp _ _ _ (.cond _ _ _) _ _ _ _; first | (refine cB (fun hc => ?_) (fun hc => ?_) <;> first | exact False.elim hc | exact absurd hc Bool.false_ne_true | exact absurd hc.symm Bool.false_ne_true | skip) | refine cU ?_ ?_)))
        · (refine lR 361 32 [0, 8, 24, 160, 361] ?_)
          exact ⟨_, by omega, i + 1, _, by omega, rfl, .inr ⟨rfl, by rw [hnext]; rfl⟩, by rw [hs2]; rfl⟩
        · omega
      · generalize hW : wetI n s i = W at *
        (repeat' (first | refine swp_seq [0, 1, 2, 3, 4, 5, 8, 9, 10, 11, 12, 13, 14, 15, 16, 17, 18, 19, 20, 22, 23, 24, 25, 27, 35, 57, 61, 71, 78, 84, 86, 92, 107, 116, 146, 147, 148, 149, 165] ?_ | refine st1 ?_ | (show Fct ..; refine fctI (fun hf => ?_)) | (show SWp _ _ _ (.region _ _ true) _ _ _ _; refine xG mixed [] ?_) | (show SWp _ _ _ (.cond _ _ _) _ _ _ _; first | (refine cB (fun hc => ?_) (fun hc => ?_) <;> first | exact False.elim hc | exact absurd hc Bool.false_ne_true | exact absurd hc.symm Bool.false_ne_true | skip) | refine cU ?_ ?_)))
        · (refine lN [0, 8, 24, 160, 32] ?_)
          exact ⟨_, by omega, i + 1, _, by omega, rfl, .inr ⟨rfl, by rw [hnext]⟩, by rw [hs2]; rfl⟩
        · omega
  have hi2 : i = n.nodes.length := by omega
  subst hi2
  rw [hSm]
  have hSS : Sm = Sm := rfl
  (have := Nonempty.intro hSS)
  rcases h3 with ⟨h0, rfl, rfl⟩ | ⟨rfl, rfl⟩
  · rw [hWw] at h0
    subst h0
    (repeat' (first | refine swp_seq [0, 1, 2, 3, 4, 5, 8, 9, 10, 11, 12, 13, 14, 15, 16, 17, 18, 19, 20, 22, 23, 24, 25, 27, 35, 57, 61, 71, 78, 84, 86, 92, 107, 116, 146, 147, 148, 149, 165] ?_ | refine st1 ?_ | (show CallQ ..; first | refine cF ?_ | refine cQ (fun hcc => (by first | exact eE _ | exact eN _)) ?_ | (refine lP ?_; refine lQ (fun hcc m => (by first | exact eE _ | exact eN _)) ?_)) | (show Fct ..; refine fctI (fun hf => ?_)) | (show XCallQ ..; first | refine xcF ?_ | refine xQ (fun hcc => (by first | exact eE _ | exact eN _)) ?_ | (refine xlP ?_; refine xlQ (fun hcc m => (by first | exact eE _ | exact eN _)) ?_)) | (show SWp _ _ _ (.region _ _ true) _ _ _ _; refine xG mixed [] ?_) | (show SWp _ _ _ (.cond _ _ _) _ _ _ _; first | (refine cB (fun hc => ?_) (fun hc => ?_) <;> first | exact False.elim hc | exact absurd hc Bool.false_ne_true | exact absurd hc.symm Bool.false_ne_true | skip) | refine cU ?_ ?_)))
    · omega
    (((simp only [push_cast, reduceIte, reduceDIte, reduceCtorEq, Nat.reduceLT, Nat.reduceLeDiff, Nat.reduceEqDiff, Nat.reduceAdd, Nat.reduceMul, Nat.reduceBEq, Nat.reducePow, Int.zero_add, Int.reduceAdd, Int.reduceSub, Int.reduceLT, Int.reduceLE, Int.reduceToNat, Int.reduceNeg, Nat.reduceSub, Int.reduceBNe, Int.reduceBEq]); repeat (simp (disch := omega) only [idx_nat, idx_mapT, i64w, rows_getS, rows_get, getD_set_self, famR_get]; try (simp only [push_cast, reduceIte, reduceDIte, reduceCtorEq, Nat.reduceLT, Nat.reduceLeDiff, Nat.reduceEqDiff, Nat.reduceAdd, Nat.reduceMul, Nat.reduceBEq, Nat.reducePow, Int.zero_add, Int.reduceAdd, Int.reduceSub, Int.reduceLT, Int.reduceLE, Int.reduceToNat, Int.reduceNeg, Nat.reduceSub, Int.reduceBNe, Int.reduceBEq]))))
  · rw [hWw]
    (repeat' (first | refine swp_seq [0, 1, 2, 3, 4, 5, 8, 9, 10, 11, 12, 13, 14, 15, 16, 17, 18, 19, 20, 22, 23, 24, 25, 27, 35, 57, 61, 71, 78, 84, 86, 92, 107, 116, 146, 147, 148, 149, 165] ?_ | refine st1 ?_ | (show CallQ ..; first | refine cF ?_ | refine cQ (fun hcc => (by first | exact eE _ | exact eN _)) ?_ | (refine lP ?_; refine lQ (fun hcc m => (by first | exact eE _ | exact eN _)) ?_)) | (show Fct ..; refine fctI (fun hf => ?_)) | (show XCallQ ..; first | refine xcF ?_ | refine xQ (fun hcc => (by first | exact eE _ | exact eN _)) ?_ | (refine xlP ?_; refine xlQ (fun hcc m => (by first | exact eE _ | exact eN _)) ?_)) | (show SWp _ _ _ (.region _ _ true) _ _ _ _; refine xG mixed [] ?_) | (show SWp _ _ _ (.cond _ _ _) _ _ _ _; first | (refine cB (fun hc => ?_) (fun hc => ?_) <;> first | exact False.elim hc | exact absurd hc Bool.false_ne_true | exact absurd hc.symm Bool.false_ne_true | skip) | refine cU ?_ ?_)))
    · omega
    (((simp only [push_cast, reduceIte, reduceDIte, reduceCtorEq, Nat.reduceLT, Nat.reduceLeDiff, Nat.reduceEqDiff, Nat.reduceAdd, Nat.reduceMul, Nat.reduceBEq, Nat.reducePow, Int.zero_add, Int.reduceAdd, Int.reduceSub, Int.reduceLT, Int.reduceLE, Int.reduceToNat, Int.reduceNeg, Nat.reduceSub, Int.reduceBNe, Int.reduceBEq]); repeat (simp (disch := omega) only [idx_nat, idx_mapT, i64w, rows_getS, rows_get, getD_set_self, famR_get]; try (simp only [push_cast, reduceIte, reduceDIte, reduceCtorEq, Nat.reduceLT, Nat.reduceLeDiff, Nat.reduceEqDiff, Nat.reduceAdd, Nat.reduceMul, Nat.reduceBEq, Nat.reducePow, Int.zero_add, Int.reduceAdd, Int.reduceSub, Int.reduceLT, Int.reduceLE, Int.reduceToNat, Int.reduceNeg, Nat.reduceSub, Int.reduceBNe, Int.reduceBEq]))))

end Go.Proofs.Ytlbadfjonhgppaa
