/-
  Contracts of functions of the program, over the engine.
  No condition.
-/
import Derived.Test.YtlbadfjonhgppaaCT9bT9c
namespace Go.Proofs.Ytlbadfjonhgppaa
open Go.Eng
set_option linter.all false
attribute [local irreducible] DCallsG SWp Fct CallQ XCallQ LCallQ XLCallQ drun xrun

def sumI (l : List Int) (i : Nat) : Int := (l.take i).sum
theorem sumI_next (l : List Int) {i : Nat} (h : i < l.length) : sumI l (i + 1) = sumI l i + l.getD i default := by
  unfold sumI
  rw [List.take_succ_eq_append_getElem h, List.sum_append]
  simp [List.getD_eq_getElem?_getD, List.getElem?_eq_getElem h]
theorem sumI_le {l : List Int} {b : Int} (h : ∀ i, i < l.length → 0 ≤ l.getD i default ∧ l.getD i default ≤ b) : ∀ i, i ≤ l.length → 0 ≤ sumI l i ∧ sumI l i ≤ i * b
  | 0, _ => by simp [sumI]
  | i + 1, hi => by
    have h1 := sumI_le h i (by omega)
    have h2 := h i (by omega)
    rw [sumI_next l (by omega)]
    have : ((i + 1 : Nat) : Int) * b = i * b + b := by push_cast; rw [Int.add_mul]; omega
    omega
theorem staB_in {n : Net} {s : Sta} (hv : netB n = true) (h : staB n s = true) : lensB n s = true ∧ (∀ i, i < n.nodes.length → okSN n s i = true) ∧ ∀ i, i < n.links.length → okSL n s i = true := by
  unfold staB at h; simp only [Bool.and_eq_true, List.all_eq_true, List.mem_range] at h; exact ⟨h.1.1, h.1.2, h.2⟩
theorem sta_hold {n : Net} {s : Sta} (hv : netB n = true) (h : staB n s = true) : holdOk s ∧ lenOk s ∧ s.vol.length = n.nodes.length ∧ s.pon.length = n.nodes.length := by
  obtain ⟨h1, h2, h3⟩ := staB_in hv h
  obtain ⟨l1, l2, l3, l4⟩ := lensB_of h1
  have a1 := netB_len hv
  refine ⟨⟨by omega, by omega, fun i hi => ?_⟩, ⟨by omega, by omega, by omega, by omega⟩, l1, l2⟩
  have hk := h2 i (by omega)
  have hc := capN_le hv (i := i) (by omega)
  unfold okSN btwB volB at hk
  simp only [Bool.and_eq_true, decide_eq_true_eq] at hk
  omega
theorem heldL_le {s : Sta} (h : holdOk s) : ∀ i, i < s.vol.length → 0 ≤ (heldL s).getD i default ∧ (heldL s).getD i default ≤ 2251799813685248 := fun i hi => by
  have := h.2.2 i hi
  rw [heldL_at s hi]; omega
def stS (n : Net) (s : Sta) : Sta := ⟨vS n (hS n (heldL s)), pS n (hS n (heldL s)), s.set, s.on⟩
theorem pS_le {n : Net} {held : List Int} (hv : netB n = true) (h : ∀ i, i < n.nodes.length → 0 ≤ held.getD i default ∧ held.getD i default ≤ 1152921504606846976) : ∀ i, i < n.nodes.length → 0 ≤ (pS n held).getD i default ∧ (pS n held).getD i default ≤ held.getD i default := fun i hi => by
  have h1 := h i hi
  have h2 := capN_le hv hi
  have e : (pS n held).getD i default = held.getD i default - (if capN (n.nodes.getD i default) < held.getD i default then capN (n.nodes.getD i default) else held.getD i default) := map_at hi
  rw [e]; omega
theorem hS_at {n : Net} {held : List Int} {i : Nat} (hi : i < n.nodes.length) : (hS n held).getD i default = if (n.nodes.getD i default).kind = 3 then 0 else held.getD i default := map_at hi
set_option maxRecDepth 20000 in
set_option maxHeartbeats 8000000 in
theorem settleX_f (n : Net) (s : Sta) (m : Nat) (hn : netOk n) (hs : staOk s) : DCalls Try.prog 7 [netD n, staD s] (hget []) m
    (if netB n && staB n s then .tup [staD (stS n s), li (sumI (pS n (hS n (heldL s))) n.nodes.length), li 0] else .tup [staD ⟨[], [], [], []⟩, li 0, li 1]) (hget []) := by
  have cs := fun m => staValid_f n s m hn hs
  cases hb : netB n && staB n s
  · simp only [hb] at cs
    refine pureC (n := 35) (rs := [.cell 4 29, .tmp 5, .tmp 6]) (ts := [29, 3, 33]) Try.func7 rfl (by decide) [] (by (exact SD)) ?_
    (repeat' (first | refine swp_seq [0, 1, 2, 3, 4, 5, 6, 7, 8, 10, 14, 23, 24, 25, 26] ?_ | refine st1 ?_ | (show CallQ ..; first | refine cF ?_ | refine cQ (fun hcc => (cs _)) ?_ | (refine lP ?_; refine lQ (fun hcc m => (cs _)) ?_)) | (show Fct ..; refine fctI (fun hf => ?_)) | (show XCallQ ..; first | refine xcF ?_ | refine xQ (fun hcc => (cs _)) ?_ | (refine xlP ?_; refine xlQ (fun hcc m => (cs _)) ?_)) | (show SWp _ _ _ (.region _ _ true) _ _ _ _; refine xG mixed [] ?_) | (show SWp _ _ _ (.cond _ _ _) _ _ _ _; first | (refine cB (fun hc => ?_) (fun hc => ?_) <;> first | exact False.elim hc | exact absurd hc Bool.false_ne_true | exact absurd hc.symm Bool.false_ne_true | skip) | refine cU ?_ ?_)))
    (((simp only [push_cast, reduceIte, reduceDIte, reduceCtorEq, Nat.reduceLT, Nat.reduceLeDiff, Nat.reduceEqDiff, Nat.reduceAdd, Nat.reduceMul, Nat.reduceBEq, Nat.reducePow, Int.zero_add, Int.reduceAdd, Int.reduceSub, Int.reduceLT, Int.reduceLE, Int.reduceToNat, Int.reduceNeg, Nat.reduceSub, Int.reduceBNe, Int.reduceBEq]); repeat (simp (disch := omega) only [idx_nat, idx_mapT, i64w, rows_getS, rows_get, getD_set_self, famR_get]; try (simp only [push_cast, reduceIte, reduceDIte, reduceCtorEq, Nat.reduceLT, Nat.reduceLeDiff, Nat.reduceEqDiff, Nat.reduceAdd, Nat.reduceMul, Nat.reduceBEq, Nat.reducePow, Int.zero_add, Int.reduceAdd, Int.reduceSub, Int.reduceLT, Int.reduceLE, Int.reduceToNat, Int.reduceNeg, Nat.reduceSub, Int.reduceBNe, Int.reduceBEq])))); rfl
  simp only [hb] at cs
  rw [Bool.and_eq_true] at hb
  obtain ⟨hv, hst⟩ := hb
  obtain ⟨hh, hl, l1, l2⟩ := sta_hold hv hst
  have a1 := netB_len hv
  have hle := heldL_le hh
  have hlh := heldL_len s
  have hbS : ∀ i, i < n.nodes.length → 0 ≤ (heldL s).getD i default ∧ (heldL s).getD i default ≤ 1152921504606846976 := fun i hi => by have := hle i (by omega); omega
  have hbH : ∀ i, i < n.nodes.length → 0 ≤ (hS n (heldL s)).getD i default ∧ (hS n (heldL s)).getD i default ≤ 2251799813685248 := fun i hi => by
    have := hle i (by omega)
    rw [hS_at hi]; split <;> omega
  have hbP := pS_le (held := hS n (heldL s)) hv (fun i hi => by have := hbH i hi; omega)
  have lp : (pS n (hS n (heldL s))).length = n.nodes.length := by simp [pS]
  have hsum := sumI_le (l := pS n (hS n (heldL s))) (b := 2251799813685248) (fun i hi => by
    have := hbP i (by omega)
    have := hbH i (by omega)
    omega)
  rw [if_pos rfl]
  generalize hP : pS n (hS n (heldL s)) = P at *
  refine pureC (n := 35) (rs := [.cell 4 29, .tmp 5, .tmp 6]) (ts := [29, 3, 33]) Try.func7 rfl (by decide) [80, 81, 82, 83] (by (exact SD)) ?_
  (repeat' (first | refine swp_seq [0, 1, 2, 3, 4, 5, 6, 7, 8, 10, 14, 23, 24, 25, 26] ?_ | refine st1 ?_ | (show CallQ ..; first | refine cF ?_ | refine cQ (fun hcc => (by first | exact cs _ | exact copied_f s _ hl | exact holds_f s _ hh)) ?_ | (refine lP ?_; refine lQ (fun hcc m => (by first | exact cs _ | exact copied_f s _ hl | exact holds_f s _ hh)) ?_)) | (show Fct ..; refine fctI (fun hf => ?_)) | (show XCallQ ..; first | refine xcF ?_ | refine xQ (fun hcc => (by first | exact cs _ | exact copied_f s _ hl | exact holds_f s _ hh)) ?_ | (refine xlP ?_; refine xlQ (fun hcc m => (by first | exact cs _ | exact copied_f s _ hl | exact holds_f s _ hh)) ?_)) | (show SWp _ _ _ (.region _ _ true) _ _ _ _; refine xG mixed [80, 81, 82, 83, 88, 120] ?_) | (show SWp _ _ _ (.cond _ _ _) _ _ _ _; first | (refine cB (fun hc => ?_) (fun hc => ?_) <;> first | exact False.elim hc | exact absurd hc Bool.false_ne_true | exact absurd hc.symm Bool.false_ne_true | skip) | refine cU ?_ ?_)))
  (refine xQT [88, 120, 80, 81, 82, 83] (fun hcc => (settle_f n (heldL s) s.vol s.pon s.set s.on _ hn hv (by omega) l1 l2 hbS)) ?_)
  rw [hP]
  (repeat' (first | refine swp_seq [0, 1, 2, 3, 4, 5, 6, 7, 8, 10, 14, 23, 24, 25, 26] ?_ | refine st1 ?_ | (show CallQ ..; first | refine cF ?_ | refine cQ (fun hcc => (by fail)) ?_ | (refine lP ?_; refine lQ (fun hcc m => (by fail)) ?_)) | (show Fct ..; refine fctI (fun hf => ?_)) | (show XCallQ ..; first | refine xcF ?_ | refine xQ (fun hcc => (by fail)) ?_ | (refine xlP ?_; refine xlQ (fun hcc m => (by fail)) ?_)) | (show SWp _ _ _ (.region _ _ true) _ _ _ _; refine xG mixed [] ?_) | (show SWp _ _ _ (.cond _ _ _) _ _ _ _; first | (refine cB (fun hc => ?_) (fun hc => ?_) <;> first | exact False.elim hc | exact absurd hc Bool.false_ne_true | exact absurd hc.symm Bool.false_ne_true | skip) | refine cU ?_ ?_)))
  refine loop_swp [4, 7, 8, 23, 24, 25] [16, 80, 81, 82, 83, 88] 89 (fun q A H => ∃ i : Nat, i ≤ n.nodes.length ∧ q = n.nodes.length - i ∧ A = [(4, .ptr 16 0), (7, .ptr 88 0), (8, li (sumI P i)), (23, .gl 81), (24, li P.length), (25, li i)] ∧ H = [(16, .blk 29 [nilS, nilS, nilS, nilS]), (80, inLt (vS n (hS n (heldL s)))), (81, inLt P), (82, inLt s.set), (83, boL s.on), (88, .blk 29 [.gl 80, .gl 81, .gl 82, .gl 83])]) (by omega) ?_ ?_ ?_
  · rintro q A H ⟨i, h1, h2, rfl, rfl⟩
    exact ⟨by (exact SD), by (exact SD)⟩
  · refine ⟨_, 0, by omega, rfl, ?_, ?_⟩
    · (((simp only [push_cast, reduceIte, reduceDIte, reduceCtorEq, Nat.reduceLT, Nat.reduceLeDiff, Nat.reduceEqDiff, Nat.reduceAdd, Nat.reduceMul, Nat.reduceBEq, Nat.reducePow, Int.zero_add, Int.reduceAdd, Int.reduceSub, Int.reduceLT, Int.reduceLE, Int.reduceToNat, Int.reduceNeg, Nat.reduceSub, Int.reduceBNe, Int.reduceBEq]); repeat (simp (disch := omega) only [idx_nat, idx_mapT, i64w, rows_getS, rows_get, getD_set_self, famR_get]; try (simp only [push_cast, reduceIte, reduceDIte, reduceCtorEq, Nat.reduceLT, Nat.reduceLeDiff, Nat.reduceEqDiff, Nat.reduceAdd, Nat.reduceMul, Nat.reduceBEq, Nat.reducePow, Int.zero_add, Int.reduceAdd, Int.reduceSub, Int.reduceLT, Int.reduceLE, Int.reduceToNat, Int.reduceNeg, Nat.reduceSub, Int.reduceBNe, Int.reduceBEq])))); rfl
    · (((simp only [push_cast, reduceIte, reduceDIte, reduceCtorEq, Nat.reduceLT, Nat.reduceLeDiff, Nat.reduceEqDiff, Nat.reduceAdd, Nat.reduceMul, Nat.reduceBEq, Nat.reducePow, Int.zero_add, Int.reduceAdd, Int.reduceSub, Int.reduceLT, Int.reduceLE, Int.reduceToNat, Int.reduceNeg, Nat.reduceSub, Int.reduceBNe, Int.reduceBEq]); repeat (simp (disch := omega) only [idx_nat, idx_mapT, i64w, rows_getS, rows_get, getD_set_self, famR_get]; try (simp only [push_cast, reduceIte, reduceDIte, reduceCtorEq, Nat.reduceLT, Nat.reduceLeDiff, Nat.reduceEqDiff, Nat.reduceAdd, Nat.reduceMul, Nat.reduceBEq, Nat.reducePow, Int.zero_add, Int.reduceAdd, Int.reduceSub, Int.reduceLT, Int.reduceLE, Int.reduceToNat, Int.reduceNeg, Nat.reduceSub, Int.reduceBNe, Int.reduceBEq]))))
  rintro q A H ⟨i, h1, h2, rfl, rfl⟩
  by_cases hi : i < n.nodes.length
  · have hs1 := hsum i (by omega)
    have hs2 := sumI_next P (i := i) (by omega)
    have hs3 := hbP i hi
    have hs4 := hbH i hi
    generalize hF : sumI P i = F at *
    (repeat' (first | refine swp_seq [0, 1, 2, 3, 4, 5, 6, 7, 8, 10, 14, 23, 24, 25, 26] ?_ | refine st1 ?_ | (show Fct ..; refine fctI (fun hf => ?_)) | (show SWp _ _ _ (.region _ _ true) _ _ _ _; refine xG mixed [] ?_) | (show SWp _ _ _ (.cond _ _ _) _ _ _ _; first | (refine cB (fun hc => ?_) (fun hc => ?_) <;> first | exact False.elim hc | exact absurd hc Bool.false_ne_true | exact absurd hc.symm Bool.false_ne_true | skip) | refine cU ?_ ?_)))
    · (refine lN [16, 80, 81, 82, 83, 88] ?_)
      refine ⟨_, by omega, i + 1, by omega, rfl, ?_, ?_⟩
      · rw [hs2]; rfl
      · rfl
    · omega
  have hi2 : i = n.nodes.length := by omega
  subst hi2
  (repeat' (first | refine swp_seq [0, 1, 2, 3, 4, 5, 6, 7, 8, 10, 14, 23, 24, 25, 26] ?_ | refine st1 ?_ | (show Fct ..; refine fctI (fun hf => ?_)) | (show SWp _ _ _ (.region _ _ true) _ _ _ _; refine xG mixed [] ?_) | (show SWp _ _ _ (.cond _ _ _) _ _ _ _; first | (refine cB (fun hc => ?_) (fun hc => ?_) <;> first | exact False.elim hc | exact absurd hc Bool.false_ne_true | exact absurd hc.symm Bool.false_ne_true | skip) | refine cU ?_ ?_)))
  · omega
  (((simp only [push_cast, reduceIte, reduceDIte, reduceCtorEq, Nat.reduceLT, Nat.reduceLeDiff, Nat.reduceEqDiff, Nat.reduceAdd, Nat.reduceMul, Nat.reduceBEq, Nat.reducePow, Int.zero_add, Int.reduceAdd, Int.reduceSub, Int.reduceLT, Int.reduceLE, Int.reduceToNat, Int.reduceNeg, Nat.reduceSub, Int.reduceBNe, Int.reduceBEq]); repeat (simp (disch := omega) only [idx_nat, idx_mapT, i64w, rows_getS, rows_get, getD_set_self, famR_get]; try (simp only [push_cast, reduceIte, reduceDIte, reduceCtorEq, Nat.reduceLT, Nat.reduceLeDiff, Nat.reduceEqDiff, Nat.reduceAdd, Nat.reduceMul, Nat.reduceBEq, Nat.reducePow, Int.zero_add, Int.reduceAdd, Int.reduceSub, Int.reduceLT, Int.reduceLE, Int.reduceToNat, Int.reduceNeg, Nat.reduceSub, Int.reduceBNe, Int.reduceBEq]))))
  unfold stS
  rw [hP]
  rfl

end Go.Proofs.Ytlbadfjonhgppaa
