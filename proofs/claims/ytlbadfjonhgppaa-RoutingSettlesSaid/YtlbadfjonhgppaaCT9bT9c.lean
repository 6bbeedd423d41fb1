/-
  Contracts of functions of the program, over the engine.
  No condition.
-/
import Derived.Test.YtlbadfjonhgppaaCT5T8T9T15T21
import Derived.Test.YtlbadfjonhgppaaCT7T7b
namespace Go.Proofs.Ytlbadfjonhgppaa
open Go.Eng
set_option linter.all false
attribute [local irreducible] DCallsG SWp Fct CallQ XCallQ LCallQ XLCallQ drun xrun
def lenOk (s : Sta) : Prop := s.vol.length ≤ 1048576 ∧ s.pon.length ≤ 1048576 ∧ s.set.length ≤ 1048576 ∧ s.on.length ≤ 1048576
set_option maxHeartbeats 1000000 in
theorem copied_f (s : Sta) (m : Nat) (hs : lenOk s) : DCallsG Try.prog 28 [] [staD s] (hget []) m (.agg [.gl m, .gl (m + 1), .gl (m + 2), .gl (m + 3)]) (hget [(m, inLt s.vol), (m + 1, inLt s.pon), (m + 2, inLt s.set), (m + 3, boL s.on)]) := by
  obtain ⟨h1, h2, h3, h4⟩ := hs
  refine contract (n := 16) (rs := [.cell 2 29]) (ts := [29]) Try.func28 rfl (by decide) 0 0 [] [] [32, 56, 80, 104] (.agg [.gl 32, .gl 56, .gl 80, .gl 104]) [(32, inLt s.vol), (56, inLt s.pon), (80, inLt s.set), (104, boL s.on)] (by (exact SD)) (by (exact SD)) ?_
  (repeat' (first | refine swp_seq [0, 1, 2] ?_ | refine st1 ?_ | (show CallQ ..; first | refine cF ?_ | refine cQ (fun hcc => (by first | exact cloneI_f _ _ SC | exact cloneB_f _ _ SC)) ?_ | (refine lP ?_; refine lQ (fun hcc m => (by first | exact cloneI_f _ _ SC | exact cloneB_f _ _ SC)) ?_)) | (show Fct ..; refine fctI (fun hf => ?_)) | (show XCallQ ..; first | refine xcF ?_ | refine xQ (fun hcc => (by first | exact cloneI_f _ _ SC | exact cloneB_f _ _ SC)) ?_ | (refine xlP ?_; refine xlQ (fun hcc m => (by first | exact cloneI_f _ _ SC | exact cloneB_f _ _ SC)) ?_)) | (show SWp _ _ _ (.region _ _ true) _ _ _ _; refine xG mixed [8] ?_) | (show SWp _ _ _ (.cond _ _ _) _ _ _ _; first | (refine cB (fun hc => ?_) (fun hc => ?_) <;> first | exact False.elim hc | exact absurd hc Bool.false_ne_true | exact absurd hc.symm Bool.false_ne_true | skip) | refine cU ?_ ?_)))
  (((simp only [push_cast, reduceIte, reduceDIte, reduceCtorEq, Nat.reduceLT, Nat.reduceLeDiff, Nat.reduceEqDiff, Nat.reduceAdd, Nat.reduceMul, Nat.reduceBEq, Nat.reducePow, Int.zero_add, Int.reduceAdd, Int.reduceSub, Int.reduceLT, Int.reduceLE, Int.reduceToNat, Int.reduceNeg, Nat.reduceSub, Int.reduceBNe, Int.reduceBEq]); repeat (simp (disch := omega) only [idx_nat, idx_mapT, i64w, rows_getS, rows_get, getD_set_self, famR_get]; try (simp only [push_cast, reduceIte, reduceDIte, reduceCtorEq, Nat.reduceLT, Nat.reduceLeDiff, Nat.reduceEqDiff, Nat.reduceAdd, Nat.reduceMul, Nat.reduceBEq, Nat.reducePow, Int.zero_add, Int.reduceAdd, Int.reduceSub, Int.reduceLT, Int.reduceLE, Int.reduceToNat, Int.reduceNeg, Nat.reduceSub, Int.reduceBNe, Int.reduceBEq])))) <;> (exact SD)
set_option maxHeartbeats 1000000 in
theorem rCopy_f (s : Sta) (m : Nat) (hs : lenOk s) : DCallsG Try.prog 43 [] [staD s] (hget []) m (.agg [.gl m, .gl (m + 1), .gl (m + 2), .gl (m + 3)]) (hget [(m, inLt s.vol), (m + 1, inLt s.pon), (m + 2, inLt s.set), (m + 3, boL s.on)]) := by
  obtain ⟨h1, h2, h3, h4⟩ := hs
  refine contract (n := 20) (rs := [.cell 2 29]) (ts := [29]) Try.func43 rfl (by decide) 0 0 [] [] [40, 72, 104, 136] (.agg [.gl 40, .gl 72, .gl 104, .gl 136]) [(40, inLt s.vol), (72, inLt s.pon), (104, inLt s.set), (136, boL s.on)] (by (exact SD)) (by (exact SD)) ?_
  (repeat' (first | refine swp_seq [0, 1, 2] ?_ | refine st1 ?_ | (show Fct ..; refine fctI (fun hf => ?_)) | (show SWp _ _ _ (.region _ _ true) _ _ _ _; refine xG mixed [8, 16, 48, 80, 112] ?_) | (show SWp _ _ _ (.cond _ _ _) _ _ _ _; first | (refine cB (fun hc => ?_) (fun hc => ?_) <;> first | exact False.elim hc | exact absurd hc Bool.false_ne_true | exact absurd hc.symm Bool.false_ne_true | skip) | refine cU ?_ ?_)))
  (((simp only [push_cast, reduceIte, reduceDIte, reduceCtorEq, Nat.reduceLT, Nat.reduceLeDiff, Nat.reduceEqDiff, Nat.reduceAdd, Nat.reduceMul, Nat.reduceBEq, Nat.reducePow, Int.zero_add, Int.reduceAdd, Int.reduceSub, Int.reduceLT, Int.reduceLE, Int.reduceToNat, Int.reduceNeg, Nat.reduceSub, Int.reduceBNe, Int.reduceBEq]); repeat (simp (disch := omega) only [idx_nat, idx_mapT, i64w, rows_getS, rows_get, getD_set_self, famR_get]; try (simp only [push_cast, reduceIte, reduceDIte, reduceCtorEq, Nat.reduceLT, Nat.reduceLeDiff, Nat.reduceEqDiff, Nat.reduceAdd, Nat.reduceMul, Nat.reduceBEq, Nat.reducePow, Int.zero_add, Int.reduceAdd, Int.reduceSub, Int.reduceLT, Int.reduceLE, Int.reduceToNat, Int.reduceNeg, Nat.reduceSub, Int.reduceBNe, Int.reduceBEq])))) <;> (exact SD)
theorem upd_get {α : Type} {h v : List α} {i : Nat} (d : α) (hl : h.length = v.length) (hi : i < v.length) : (h.take i ++ v.drop i).getD i d = v.getD i d := by
  simp only [List.getD_eq_getElem?_getD]
  rw [List.getElem?_append_right (by simp; omega)]
  simp; congr 2; omega
theorem upd_step {α : Type} [Inhabited α] {h v : List α} {i : Nat} {x : α} (hl : h.length = v.length) (hi : i < v.length) (hx : x = h.getD i default) : (h.take i ++ v.drop i).set i x = h.take (i + 1) ++ v.drop (i + 1) := by
  have e : h.getD i default = h[i]'(by omega) := by simp [List.getD_eq_getElem?_getD, List.getElem?_eq_getElem (by omega : i < h.length)]
  rw [hx, e, List.drop_eq_getElem_cons hi, List.take_succ_eq_append_getElem (by omega : i < h.length), List.set_append_right _ _ (by simp; omega)]
  have : i - (h.take i).length = 0 := by simp; omega
  rw [this, List.set_cons_zero]; simp only [List.append_assoc, List.cons_append, List.nil_append]
theorem upd_len {α : Type} {h v : List α} {i : Nat} (hl : h.length = v.length) (hi : i ≤ v.length) : (h.take i ++ v.drop i).length = v.length := by simp; omega
theorem upd_end {α : Type} {h v : List α} (hl : h.length = v.length) : h.take v.length ++ v.drop v.length = h := by
  rw [← hl, List.take_length, hl, List.drop_length, List.append_nil]
def heldL (s : Sta) : List Int := (List.range s.vol.length).map fun i => s.vol.getD i default + s.pon.getD i default
theorem heldL_len (s : Sta) : (heldL s).length = s.vol.length := by simp [heldL]
theorem heldL_at (s : Sta) {i : Nat} (hi : i < s.vol.length) : (heldL s).getD i default = s.vol.getD i default + s.pon.getD i default := by
  simp [heldL, List.getD_eq_getElem?_getD, hi]
def holdOk (s : Sta) : Prop := s.vol.length ≤ 1048576 ∧ s.pon.length = s.vol.length ∧ ∀ i, i < s.vol.length → (0 ≤ s.vol.getD i default ∧ s.vol.getD i default ≤ 1125899906842624) ∧ 0 ≤ s.pon.getD i default ∧ s.pon.getD i default ≤ 1125899906842624
set_option maxHeartbeats 2000000 in
theorem holds_f (s : Sta) (m : Nat) (hs : holdOk s) : DCallsG Try.prog 30 [] [staD s] (hget []) m (.gl m) (hget [(m, inLt (heldL s))]) := by
  obtain ⟨k1, k2, k3⟩ := hs
  have hl := heldL_len s
  refine contract (n := 26) (rs := [.tmp 2]) (ts := [26]) Try.func30 rfl (by decide) 0 0 [] [] [32] (.gl 32) [(32, inLt (heldL s))] (by (exact SD)) (by (exact SD)) ?_
  (repeat' (first | refine swp_seq [0, 1, 2, 3, 4, 5, 10, 11, 12, 13] ?_ | refine st1 ?_ | (show CallQ ..; first | refine cF ?_ | refine cQ (fun hcc => (cloneI_f _ _ SC)) ?_ | (refine lP ?_; refine lQ (fun hcc m => (cloneI_f _ _ SC)) ?_)) | (show Fct ..; refine fctI (fun hf => ?_)) | (show XCallQ ..; first | refine xcF ?_ | refine xQ (fun hcc => (cloneI_f _ _ SC)) ?_ | (refine xlP ?_; refine xlQ (fun hcc m => (cloneI_f _ _ SC)) ?_)) | (show SWp _ _ _ (.region _ _ true) _ _ _ _; refine xG mixed [] ?_) | (show SWp _ _ _ (.cond _ _ _) _ _ _ _; first | (refine cB (fun hc => ?_) (fun hc => ?_) <;> first | exact False.elim hc | exact absurd hc Bool.false_ne_true | exact absurd hc.symm Bool.false_ne_true | skip) | refine cU ?_ ?_)))
  refine loop_swp [3, 10, 11, 12] [32] 33 (fun q A H => ∃ i : Nat, i ≤ s.vol.length ∧ q = s.vol.length - i ∧ A = [(3, .gl 32), (10, ints s.pon), (11, li s.pon.length), (12, li i)] ∧ H = [(32, inLt ((heldL s).take i ++ s.vol.drop i))]) (by omega) ?_ ?_ ?_
  · rintro q A H ⟨i, h1, h2, rfl, rfl⟩
    exact ⟨by (exact SD), by (exact SD)⟩
  · refine ⟨_, 0, by omega, rfl, ?_, ?_⟩
    · (((simp only [push_cast, reduceIte, reduceDIte, reduceCtorEq, Nat.reduceLT, Nat.reduceLeDiff, Nat.reduceEqDiff, Nat.reduceAdd, Nat.reduceMul, Nat.reduceBEq, Nat.reducePow, Int.zero_add, Int.reduceAdd, Int.reduceSub, Int.reduceLT, Int.reduceLE, Int.reduceToNat, Int.reduceNeg, Nat.reduceSub, Int.reduceBNe, Int.reduceBEq]); repeat (simp (disch := omega) only [idx_nat, idx_mapT, i64w, rows_getS, rows_get, getD_set_self, famR_get]; try (simp only [push_cast, reduceIte, reduceDIte, reduceCtorEq, Nat.reduceLT, Nat.reduceLeDiff, Nat.reduceEqDiff, Nat.reduceAdd, Nat.reduceMul, Nat.reduceBEq, Nat.reducePow, Int.zero_add, Int.reduceAdd, Int.reduceSub, Int.reduceLT, Int.reduceLE, Int.reduceToNat, Int.reduceNeg, Nat.reduceSub, Int.reduceBNe, Int.reduceBEq]))))
    · (((simp only [push_cast, reduceIte, reduceDIte, reduceCtorEq, Nat.reduceLT, Nat.reduceLeDiff, Nat.reduceEqDiff, Nat.reduceAdd, Nat.reduceMul, Nat.reduceBEq, Nat.reducePow, Int.zero_add, Int.reduceAdd, Int.reduceSub, Int.reduceLT, Int.reduceLE, Int.reduceToNat, Int.reduceNeg, Nat.reduceSub, Int.reduceBNe, Int.reduceBEq]); repeat (simp (disch := omega) only [idx_nat, idx_mapT, i64w, rows_getS, rows_get, getD_set_self, famR_get]; try (simp only [push_cast, reduceIte, reduceDIte, reduceCtorEq, Nat.reduceLT, Nat.reduceLeDiff, Nat.reduceEqDiff, Nat.reduceAdd, Nat.reduceMul, Nat.reduceBEq, Nat.reducePow, Int.zero_add, Int.reduceAdd, Int.reduceSub, Int.reduceLT, Int.reduceLE, Int.reduceToNat, Int.reduceNeg, Nat.reduceSub, Int.reduceBNe, Int.reduceBEq]))))
  rintro q A H ⟨i, h1, h2, rfl, rfl⟩
  by_cases hi : i < s.vol.length
  · have hb := k3 i hi
    have hL := upd_len hl h1
    have hg := upd_get (i := i) default hl hi
    have hst := fun x hx => upd_step (x := x) hl hi hx
    have hat := heldL_at s hi
    generalize hX : (heldL s).take i ++ s.vol.drop i = X at *
    (repeat' (first | refine swp_seq [0, 1, 2, 3, 4, 5, 10, 11, 12, 13] ?_ | refine st1 ?_ | (show Fct ..; refine fctI (fun hf => ?_)) | (show SWp _ _ _ (.region _ _ true) _ _ _ _; refine xG mixed [] ?_) | (show SWp _ _ _ (.cond _ _ _) _ _ _ _; first | (refine cB (fun hc => ?_) (fun hc => ?_) <;> first | exact False.elim hc | exact absurd hc Bool.false_ne_true | exact absurd hc.symm Bool.false_ne_true | skip) | refine cU ?_ ?_)))
    · rw [hg]
      (refine lN [32] ?_)
      exact ⟨_, by omega, i + 1, by omega, rfl, rfl, by rw [← hst _ hat.symm]⟩
    · omega
  have hi2 : i = s.vol.length := by omega
  subst hi2
  rw [upd_end hl]
  (repeat' (first | refine swp_seq [0, 1, 2, 3, 4, 5, 10, 11, 12, 13] ?_ | refine st1 ?_ | (show Fct ..; refine fctI (fun hf => ?_)) | (show SWp _ _ _ (.region _ _ true) _ _ _ _; refine xG mixed [] ?_) | (show SWp _ _ _ (.cond _ _ _) _ _ _ _; first | (refine cB (fun hc => ?_) (fun hc => ?_) <;> first | exact False.elim hc | exact absurd hc Bool.false_ne_true | exact absurd hc.symm Bool.false_ne_true | skip) | refine cU ?_ ?_)))
  · omega
  (((simp only [push_cast, reduceIte, reduceDIte, reduceCtorEq, Nat.reduceLT, Nat.reduceLeDiff, Nat.reduceEqDiff, Nat.reduceAdd, Nat.reduceMul, Nat.reduceBEq, Nat.reducePow, Int.zero_add, Int.reduceAdd, Int.reduceSub, Int.reduceLT, Int.reduceLE, Int.reduceToNat, Int.reduceNeg, Nat.reduceSub, Int.reduceBNe, Int.reduceBEq]); repeat (simp (disch := omega) only [idx_nat, idx_mapT, i64w, rows_getS, rows_get, getD_set_self, famR_get]; try (simp only [push_cast, reduceIte, reduceDIte, reduceCtorEq, Nat.reduceLT, Nat.reduceLeDiff, Nat.reduceEqDiff, Nat.reduceAdd, Nat.reduceMul, Nat.reduceBEq, Nat.reducePow, Int.zero_add, Int.reduceAdd, Int.reduceSub, Int.reduceLT, Int.reduceLE, Int.reduceToNat, Int.reduceNeg, Nat.reduceSub, Int.reduceBNe, Int.reduceBEq])))) <;> (exact SD)
set_option maxHeartbeats 2000000 in
theorem rHeld_f (s : Sta) (m : Nat) (hs : holdOk s) : DCalls Try.prog 16 [staD s] (hget []) m (ints (heldL s)) (hget []) := by
  obtain ⟨k1, k2, k3⟩ := hs
  have hl := heldL_len s
  refine pureC (n := 27) (rs := [.tmp 2]) (ts := [26]) Try.func16 rfl (by decide) [40] (by (exact SD)) ?_
  (repeat' (first | refine swp_seq [0, 1, 2, 3, 4, 9] ?_ | refine st1 ?_ | (show Fct ..; refine fctI (fun hf => ?_)) | (show SWp _ _ _ (.region _ _ true) _ _ _ _; refine xG mixed [] ?_) | (show SWp _ _ _ (.cond _ _ _) _ _ _ _; first | (refine cB (fun hc => ?_) (fun hc => ?_) <;> first | exact False.elim hc | exact absurd hc Bool.false_ne_true | exact absurd hc.symm Bool.false_ne_true | skip) | refine cU ?_ ?_)))
  refine loop_swp [1, 3, 4] [0, 40] 41 (fun q A H => ∃ (i : Nat) (d : DV), i ≤ s.vol.length ∧ q = s.vol.length - i ∧ ((i = 0 ∧ d = nilS ∧ H = [(0, .blk 29 (staC s))]) ∨ (d = .gl 40 ∧ H = [(0, .blk 29 (staC s)), (40, inLt ((heldL s).take i))])) ∧ A = [(1, .ptr 0 0), (3, d), (4, li i)]) (by omega) ?_ ?_ ?_
  · rintro q A H ⟨i, d, h1, h2, h3, rfl⟩
    rcases h3 with ⟨_, rfl, rfl⟩ | ⟨rfl, rfl⟩
    · exact ⟨by (exact SD), by (exact SD)⟩
    · exact ⟨by (exact SD), by (exact SD)⟩
  · refine ⟨_, 0, nilS, by omega, rfl, .inl ⟨rfl, rfl, ?_⟩, ?_⟩
    · (((simp only [push_cast, reduceIte, reduceDIte, reduceCtorEq, Nat.reduceLT, Nat.reduceLeDiff, Nat.reduceEqDiff, Nat.reduceAdd, Nat.reduceMul, Nat.reduceBEq, Nat.reducePow, Int.zero_add, Int.reduceAdd, Int.reduceSub, Int.reduceLT, Int.reduceLE, Int.reduceToNat, Int.reduceNeg, Nat.reduceSub, Int.reduceBNe, Int.reduceBEq]); repeat (simp (disch := omega) only [idx_nat, idx_mapT, i64w, rows_getS, rows_get, getD_set_self, famR_get]; try (simp only [push_cast, reduceIte, reduceDIte, reduceCtorEq, Nat.reduceLT, Nat.reduceLeDiff, Nat.reduceEqDiff, Nat.reduceAdd, Nat.reduceMul, Nat.reduceBEq, Nat.reducePow, Int.zero_add, Int.reduceAdd, Int.reduceSub, Int.reduceLT, Int.reduceLE, Int.reduceToNat, Int.reduceNeg, Nat.reduceSub, Int.reduceBNe, Int.reduceBEq]))))
    · (((simp only [push_cast, reduceIte, reduceDIte, reduceCtorEq, Nat.reduceLT, Nat.reduceLeDiff, Nat.reduceEqDiff, Nat.reduceAdd, Nat.reduceMul, Nat.reduceBEq, Nat.reducePow, Int.zero_add, Int.reduceAdd, Int.reduceSub, Int.reduceLT, Int.reduceLE, Int.reduceToNat, Int.reduceNeg, Nat.reduceSub, Int.reduceBNe, Int.reduceBEq]); repeat (simp (disch := omega) only [idx_nat, idx_mapT, i64w, rows_getS, rows_get, getD_set_self, famR_get]; try (simp only [push_cast, reduceIte, reduceDIte, reduceCtorEq, Nat.reduceLT, Nat.reduceLeDiff, Nat.reduceEqDiff, Nat.reduceAdd, Nat.reduceMul, Nat.reduceBEq, Nat.reducePow, Int.zero_add, Int.reduceAdd, Int.reduceSub, Int.reduceLT, Int.reduceLE, Int.reduceToNat, Int.reduceNeg, Nat.reduceSub, Int.reduceBNe, Int.reduceBEq]))))
  rintro q A H ⟨i, d, h1, h2, h3, rfl⟩
  by_cases hi : i < s.vol.length
  · have hb := k3 i hi
    have hnext : (heldL s).take i ++ [s.vol.getD i default + s.pon.getD i default] = (heldL s).take (i + 1) := by
      rw [List.take_succ_eq_append_getElem (by omega), ← heldL_at s hi]
      simp [List.getD_eq_getElem?_getD, List.getElem?_eq_getElem (by omega : i < (heldL s).length)]
    rcases h3 with ⟨rfl, rfl, rfl⟩ | ⟨rfl, rfl⟩
    · (repeat' (first | refine swp_seq [0, 1, 2, 3, 4, 9] ?_ | refine st1 ?_ | (show Fct ..; refine fctI (fun hf => ?_)) | (show SWp _ _ _ (.region _ _ true) _ _ _ _; refine xG mixed [] ?_) | (show SWp _ _ _ (.cond _ _ _) _ _ _ _; first | (refine cB (fun hc => ?_) (fun hc => ?_) <;> first | exact False.elim hc | exact absurd hc Bool.false_ne_true | exact absurd hc.symm Bool.false_ne_true | skip) | refine cU ?_ ?_)))
      · (refine lR 185 40 [0, 185] ?_)
        exact ⟨_, by omega, 1, _, by omega, rfl, .inr ⟨rfl, by rw [← hnext]; rfl⟩, rfl⟩
      · omega
    · (repeat' (first | refine swp_seq [0, 1, 2, 3, 4, 9] ?_ | refine st1 ?_ | (show Fct ..; refine fctI (fun hf => ?_)) | (show SWp _ _ _ (.region _ _ true) _ _ _ _; refine xG mixed [40] ?_) | (show SWp _ _ _ (.cond _ _ _) _ _ _ _; first | (refine cB (fun hc => ?_) (fun hc => ?_) <;> first | exact False.elim hc | exact absurd hc Bool.false_ne_true | exact absurd hc.symm Bool.false_ne_true | skip) | refine cU ?_ ?_)))
      · (refine lR 185 40 [0, 185] ?_)
        exact ⟨_, by omega, i + 1, _, by omega, rfl, .inr ⟨rfl, by rw [← hnext]⟩, rfl⟩
      · omega
  have hi2 : i = s.vol.length := by omega
  subst hi2
  rcases h3 with ⟨h0, rfl, rfl⟩ | ⟨rfl, rfl⟩
  · (repeat' (first | refine swp_seq [0, 1, 2, 3, 4, 9] ?_ | refine st1 ?_ | (show Fct ..; refine fctI (fun hf => ?_)) | (show SWp _ _ _ (.region _ _ true) _ _ _ _; refine xG mixed [] ?_) | (show SWp _ _ _ (.cond _ _ _) _ _ _ _; first | (refine cB (fun hc => ?_) (fun hc => ?_) <;> first | exact False.elim hc | exact absurd hc Bool.false_ne_true | exact absurd hc.symm Bool.false_ne_true | skip) | refine cU ?_ ?_)))
    · omega
    (((simp only [push_cast, reduceIte, reduceDIte, reduceCtorEq, Nat.reduceLT, Nat.reduceLeDiff, Nat.reduceEqDiff, Nat.reduceAdd, Nat.reduceMul, Nat.reduceBEq, Nat.reducePow, Int.zero_add, Int.reduceAdd, Int.reduceSub, Int.reduceLT, Int.reduceLE, Int.reduceToNat, Int.reduceNeg, Nat.reduceSub, Int.reduceBNe, Int.reduceBEq]); repeat (simp (disch := omega) only [idx_nat, idx_mapT, i64w, rows_getS, rows_get, getD_set_self, famR_get]; try (simp only [push_cast, reduceIte, reduceDIte, reduceCtorEq, Nat.reduceLT, Nat.reduceLeDiff, Nat.reduceEqDiff, Nat.reduceAdd, Nat.reduceMul, Nat.reduceBEq, Nat.reducePow, Int.zero_add, Int.reduceAdd, Int.reduceSub, Int.reduceLT, Int.reduceLE, Int.reduceToNat, Int.reduceNeg, Nat.reduceSub, Int.reduceBNe, Int.reduceBEq]))))
    have : heldL s = [] := List.eq_nil_of_length_eq_zero (by omega)
    rw [this]
    rfl
  · (repeat' (first | refine swp_seq [0, 1, 2, 3, 4, 9] ?_ | refine st1 ?_ | (show Fct ..; refine fctI (fun hf => ?_)) | (show SWp _ _ _ (.region _ _ true) _ _ _ _; refine xG mixed [] ?_) | (show SWp _ _ _ (.cond _ _ _) _ _ _ _; first | (refine cB (fun hc => ?_) (fun hc => ?_) <;> first | exact False.elim hc | exact absurd hc Bool.false_ne_true | exact absurd hc.symm Bool.false_ne_true | skip) | refine cU ?_ ?_)))
    · omega
    rw [List.take_of_length_le (by omega)]
    (((simp only [push_cast, reduceIte, reduceDIte, reduceCtorEq, Nat.reduceLT, Nat.reduceLeDiff, Nat.reduceEqDiff, Nat.reduceAdd, Nat.reduceMul, Nat.reduceBEq, Nat.reducePow, Int.zero_add, Int.reduceAdd, Int.reduceSub, Int.reduceLT, Int.reduceLE, Int.reduceToNat, Int.reduceNeg, Nat.reduceSub, Int.reduceBNe, Int.reduceBEq]); repeat (simp (disch := omega) only [idx_nat, idx_mapT, i64w, rows_getS, rows_get, getD_set_self, famR_get]; try (simp only [push_cast, reduceIte, reduceDIte, reduceCtorEq, Nat.reduceLT, Nat.reduceLeDiff, Nat.reduceEqDiff, Nat.reduceAdd, Nat.reduceMul, Nat.reduceBEq, Nat.reducePow, Int.zero_add, Int.reduceAdd, Int.reduceSub, Int.reduceLT, Int.reduceLE, Int.reduceToNat, Int.reduceNeg, Nat.reduceSub, Int.reduceBNe, Int.reduceBEq])))) <;> rfl
def hS (n : Net) (held : List Int) : List Int := (List.range n.nodes.length).map fun i => if (n.nodes.getD i default).kind = 3 then 0 else held.getD i default
def vS (n : Net) (held : List Int) : List Int := (List.range n.nodes.length).map fun i => if capN (n.nodes.getD i default) < held.getD i default then capN (n.nodes.getD i default) else held.getD i default
def pS (n : Net) (held : List Int) : List Int := (List.range n.nodes.length).map fun i => held.getD i default - (if capN (n.nodes.getD i default) < held.getD i default then capN (n.nodes.getD i default) else held.getD i default)
def fitI (l : List Int) (i : Nat) : Bool := (List.range i).all fun j => decide (l.getD j default ≤ 1125899906842624)
def fitS (n : Net) (held : List Int) : Bool := fitI (pS n held) n.nodes.length
theorem fitI_next (l : List Int) (i : Nat) : fitI l (i + 1) = (fitI l i && decide (l.getD i default ≤ 1125899906842624)) := by simp [fitI, List.range_succ]
theorem map_at {n i : Nat} {f : Nat → Int} (h : i < n) : ((List.range n).map f).getD i default = f i := by simp [List.getD_eq_getElem?_getD, h]
theorem upd_skip {α : Type} [Inhabited α] {h v : List α} {i : Nat} (hl : h.length = v.length) (hi : i < v.length) (hx : h.getD i default = v.getD i default) : h.take (i + 1) ++ v.drop (i + 1) = h.take i ++ v.drop i := by
  rw [← upd_step (x := v.getD i default) hl hi hx.symm]
  have hg := upd_get (h := h) (v := v) (i := i) default hl hi
  refine List.ext_getElem? fun j => ?_
  rw [List.getElem?_set]
  have hl2 := upd_len (i := i) hl (by omega)
  split
  · next e =>
    subst e
    rw [if_pos (by omega), ← hg]
    simp only [List.getD_eq_getElem?_getD]
    rw [List.getElem?_eq_getElem (by omega)]; rfl
  · rfl
theorem capN_le {n : Net} (hv : netB n = true) {i : Nat} (hi : i < n.nodes.length) : 0 ≤ capN (n.nodes.getD i default) ∧ capN (n.nodes.getD i default) ≤ 1125899906842624 := by
  have hr := netB_node hv hi
  generalize n.nodes.getD i default = x at *
  unfold capN
  by_cases h3 : x.kind = 3
  · rw [if_pos h3]; omega
  · rw [if_neg h3]
    unfold nodeR kindB at hr
    simp only [h3, if_false, Bool.and_eq_true] at hr
    have hk : x.kind = 1 ∨ x.kind = 2 := by
      have := hr.2
      by_cases hk : x.kind = 1 ∨ x.kind = 2
      · exact hk
      · simp [hk] at this
    have h2 := hr.2
    simp only [hk, if_true, Bool.and_eq_true] at h2
    have hs := h2.1.1.2
    unfold shapeB at hs
    simp only [Bool.and_eq_true, decide_eq_true_eq] at hs
    have hm := tab_mono hs.1.1.1.1 (x.shape.length - 1) 0 (by omega) (by have := tabB_len hs.1.1.1.1; omega)
    omega
abbrev owS : HV := .blk 29 [.gl 2, .gl 3, .gl 4, .gl 5]
set_option maxRecDepth 20000 in
set_option maxHeartbeats 8000000 in
theorem settle_f (n : Net) (held vol pon st : List Int) (on : List Bool) (m : Nat) (hn : netOk n) (hv : netB n = true) (l1 : held.length = n.nodes.length) (l2 : vol.length = n.nodes.length) (l3 : pon.length = n.nodes.length) (hb : ∀ i, i < n.nodes.length → 0 ≤ held.getD i default ∧ held.getD i default ≤ 1152921504606846976) :
    DCallsG Try.prog 29 [] [netD n, .ptr 0 0, .gl 1] (hget [(0, owS), (1, inLt held), (2, inLt vol), (3, inLt pon), (4, inLt st), (5, boL on)]) m (lb (fitS n (hS n held))) (hget [(0, owS), (1, inLt (hS n held)), (2, inLt (vS n (hS n held))), (3, inLt (pS n (hS n held))), (4, inLt st), (5, boL on)]) := by
  have a1 := netB_len hv
  have q1 : (hS n held).length = held.length := by simp [hS, l1]
  have q2 : (vS n (hS n held)).length = vol.length := by simp [vS, l2]
  have q3 : (pS n (hS n held)).length = pon.length := by simp [pS, l3]
  refine contract (n := 74) (rs := [.tmp 6]) (ts := [4]) Try.func29 rfl (by decide) 6 6 [] [] [] (lb (fitS n (hS n held))) [(0, owS), (1, inLt (hS n held)), (2, inLt (vS n (hS n held))), (3, inLt (pS n (hS n held))), (4, inLt st), (5, boL on)] (by (exact SD)) (by (exact SD)) ?_
  (repeat' (first | refine swp_seq [0, 1, 2, 3, 6, 7, 8, 9, 10, 13, 14, 15, 16, 27] ?_ | refine st1 ?_ | (show Fct ..; refine fctI (fun hf => ?_)) | (show SWp _ _ _ (.region _ _ true) _ _ _ _; refine xG mixed [] ?_) | (show SWp _ _ _ (.cond _ _ _) _ _ _ _; first | (refine cB (fun hc => ?_) (fun hc => ?_) <;> first | exact False.elim hc | exact absurd hc Bool.false_ne_true | exact absurd hc.symm Bool.false_ne_true | skip) | refine cU ?_ ?_)))
  refine loop_swp [1, 2, 7, 13, 14, 15] [0, 1, 2, 3, 4, 5] 6 (fun q A H => ∃ i : Nat, i ≤ n.nodes.length ∧ q = n.nodes.length - i ∧ A = [(1, .ptr 0 0), (2, .gl 1), (7, lb (fitI (pS n (hS n held)) i)), (13, nodeL n.nodes), (14, li n.nodes.length), (15, li i)] ∧ H = [(0, owS), (1, inLt ((hS n held).take i ++ held.drop i)), (2, inLt ((vS n (hS n held)).take i ++ vol.drop i)), (3, inLt ((pS n (hS n held)).take i ++ pon.drop i)), (4, inLt st), (5, boL on)]) (by omega) ?_ ?_ ?_
  · rintro q A H ⟨i, h1, h2, rfl, rfl⟩
    exact ⟨by (exact SD), by (exact SD)⟩
  · refine ⟨_, 0, by omega, rfl, ?_, ?_⟩
    · (((simp only [push_cast, reduceIte, reduceDIte, reduceCtorEq, Nat.reduceLT, Nat.reduceLeDiff, Nat.reduceEqDiff, Nat.reduceAdd, Nat.reduceMul, Nat.reduceBEq, Nat.reducePow, Int.zero_add, Int.reduceAdd, Int.reduceSub, Int.reduceLT, Int.reduceLE, Int.reduceToNat, Int.reduceNeg, Nat.reduceSub, Int.reduceBNe, Int.reduceBEq]); repeat (simp (disch := omega) only [idx_nat, idx_mapT, i64w, rows_getS, rows_get, getD_set_self, famR_get]; try (simp only [push_cast, reduceIte, reduceDIte, reduceCtorEq, Nat.reduceLT, Nat.reduceLeDiff, Nat.reduceEqDiff, Nat.reduceAdd, Nat.reduceMul, Nat.reduceBEq, Nat.reducePow, Int.zero_add, Int.reduceAdd, Int.reduceSub, Int.reduceLT, Int.reduceLE, Int.reduceToNat, Int.reduceNeg, Nat.reduceSub, Int.reduceBNe, Int.reduceBEq])))); rfl
    · (((simp only [push_cast, reduceIte, reduceDIte, reduceCtorEq, Nat.reduceLT, Nat.reduceLeDiff, Nat.reduceEqDiff, Nat.reduceAdd, Nat.reduceMul, Nat.reduceBEq, Nat.reducePow, Int.zero_add, Int.reduceAdd, Int.reduceSub, Int.reduceLT, Int.reduceLE, Int.reduceToNat, Int.reduceNeg, Nat.reduceSub, Int.reduceBNe, Int.reduceBEq]); repeat (simp (disch := omega) only [idx_nat, idx_mapT, i64w, rows_getS, rows_get, getD_set_self, famR_get]; try (simp only [push_cast, reduceIte, reduceDIte, reduceCtorEq, Nat.reduceLT, Nat.reduceLeDiff, Nat.reduceEqDiff, Nat.reduceAdd, Nat.reduceMul, Nat.reduceBEq, Nat.reducePow, Int.zero_add, Int.reduceAdd, Int.reduceSub, Int.reduceLT, Int.reduceLE, Int.reduceToNat, Int.reduceNeg, Nat.reduceSub, Int.reduceBNe, Int.reduceBEq]))))
  rintro q A H ⟨i, h1, h2, rfl, rfl⟩
  by_cases hi : i < n.nodes.length
  · have hbi := hb i hi
    have hcap := capN_le hv hi
    have hnr := netB_node hv hi
    have cc := fun m => Capacity_f (n.nodes.getD i default) m (hn.1.2 _ (getD_mem hi))
    simp only [hnr, if_true] at cc
    have L1 := upd_len q1 (i := i) (by omega)
    have L2 := upd_len q2 (i := i) (by omega)
    have L3 := upd_len q3 (i := i) (by omega)
    have G1 := upd_get (i := i) default q1 (by omega)
    have S1 := fun x hx => upd_step (i := i) (x := x) q1 (by omega) hx
    have S2 := fun x hx => upd_step (i := i) (x := x) q2 (by omega) hx
    have S3 := fun x hx => upd_step (i := i) (x := x) q3 (by omega) hx
    have K1 := upd_skip (i := i) q1 (by omega)
    have eh : (hS n held).getD i default = if (n.nodes.getD i default).kind = 3 then 0 else held.getD i default := map_at hi
    have ev : (vS n (hS n held)).getD i default = if capN (n.nodes.getD i default) < (hS n held).getD i default then capN (n.nodes.getD i default) else (hS n held).getD i default := map_at hi
    have ep : (pS n (hS n held)).getD i default = (hS n held).getD i default - (if capN (n.nodes.getD i default) < (hS n held).getD i default then capN (n.nodes.getD i default) else (hS n held).getD i default) := map_at hi
    have ef := fitI_next (pS n (hS n held)) i
    generalize hF : fitI (pS n (hS n held)) i = F at *
    generalize hX1 : (hS n held).take i ++ held.drop i = X1 at *
    generalize hX2 : (vS n (hS n held)).take i ++ vol.drop i = X2 at *
    generalize hX3 : (pS n (hS n held)).take i ++ pon.drop i = X3 at *
    by_cases hk : (n.nodes.getD i default).kind = 3
    · rw [if_pos hk] at eh
      have hc0 : capN (n.nodes.getD i default) = 0 := by unfold capN; rw [if_pos hk]
      rw [hc0, eh] at ev ep
      rw [hc0] at cc
      (have := Nonempty.intro hk)
      (repeat' (first | refine swp_seq [0, 1, 2, 3, 6, 7, 8, 9, 10, 13, 14, 15, 16, 27] ?_ | refine st1 ?_ | (show CallQ ..; first | refine cF ?_ | refine cQ (fun hcc => (cc _)) ?_ | (refine lP ?_; refine lQ (fun hcc m => (cc _)) ?_)) | (show Fct ..; refine fctI (fun hf => ?_)) | (show XCallQ ..; first | refine xcF ?_ | refine xQ (fun hcc => (cc _)) ?_ | (refine xlP ?_; refine xlQ (fun hcc m => (cc _)) ?_)) | (show SWp _ _ _ (.region _ _ true) _ _ _ _; refine xG mixed [2, 3] ?_) | (show SWp _ _ _ (.cond _ _ _) _ _ _ _; first | (refine cB (fun hc => ?_) (fun hc => ?_) <;> first | exact False.elim hc | exact absurd hc Bool.false_ne_true | exact absurd hc.symm Bool.false_ne_true | skip) | refine cU ?_ ?_)))
      · (refine lN [0, 1, 2, 3, 4, 5] ?_)
        refine ⟨_, by omega, i + 1, by omega, rfl, ?_, ?_⟩
        · rw [ef, ep]; cases F <;> rfl
        · rw [← S1 0 eh.symm, ← S2 0 (by rw [ev]; rfl), ← S3 0 (by rw [ep]; rfl)]
      · omega
    · rw [if_neg hk] at eh
      rw [eh, ← G1] at ev ep
      (have := Nonempty.intro hk)
      (repeat' (first | refine swp_seq [0, 1, 2, 3, 6, 7, 8, 9, 10, 13, 14, 15, 16, 27] ?_ | refine st1 ?_ | (show CallQ ..; first | refine cF ?_ | refine cQ (fun hcc => (cc _)) ?_ | (refine lP ?_; refine lQ (fun hcc m => (cc _)) ?_)) | (show Fct ..; refine fctI (fun hf => ?_)) | (show XCallQ ..; first | refine xcF ?_ | refine xQ (fun hcc => (cc _)) ?_ | (refine xlP ?_; refine xlQ (fun hcc m => (cc _)) ?_)) | (show SWp _ _ _ (.region _ _ true) _ _ _ _; refine xG mixed [2, 3] ?_) | (show SWp _ _ _ (.cond _ _ _) _ _ _ _; first | (refine cB (fun hc => ?_) (fun hc => ?_) <;> first | exact False.elim hc | exact absurd hc Bool.false_ne_true | exact absurd hc.symm Bool.false_ne_true | skip) | refine cU ?_ ?_)))
      · (refine lN [0, 1, 2, 3, 4, 5] ?_)
        refine ⟨_, by omega, i + 1, by omega, rfl, ?_, ?_⟩
        · rw [ef, ep]; cases F <;> rfl
        · rw [K1 (by rw [eh]), ← S2 _ ev.symm, ← S3 _ ep.symm]
      · omega
  have hi2 : i = n.nodes.length := by omega
  subst hi2
  have e1 := upd_end q1
  have e2 := upd_end q2
  have e3 := upd_end q3
  rw [l1] at e1
  rw [l2] at e2
  rw [l3] at e3
  rw [e1, e2, e3]
  (repeat' (first | refine swp_seq [0, 1, 2, 3, 6, 7, 8, 9, 10, 13, 14, 15, 16, 27] ?_ | refine st1 ?_ | (show Fct ..; refine fctI (fun hf => ?_)) | (show SWp _ _ _ (.region _ _ true) _ _ _ _; refine xG mixed [] ?_) | (show SWp _ _ _ (.cond _ _ _) _ _ _ _; first | (refine cB (fun hc => ?_) (fun hc => ?_) <;> first | exact False.elim hc | exact absurd hc Bool.false_ne_true | exact absurd hc.symm Bool.false_ne_true | skip) | refine cU ?_ ?_)))
  · omega
  (((simp only [push_cast, reduceIte, reduceDIte, reduceCtorEq, Nat.reduceLT, Nat.reduceLeDiff, Nat.reduceEqDiff, Nat.reduceAdd, Nat.reduceMul, Nat.reduceBEq, Nat.reducePow, Int.zero_add, Int.reduceAdd, Int.reduceSub, Int.reduceLT, Int.reduceLE, Int.reduceToNat, Int.reduceNeg, Nat.reduceSub, Int.reduceBNe, Int.reduceBEq]); repeat (simp (disch := omega) only [idx_nat, idx_mapT, i64w, rows_getS, rows_get, getD_set_self, famR_get]; try (simp only [push_cast, reduceIte, reduceDIte, reduceCtorEq, Nat.reduceLT, Nat.reduceLeDiff, Nat.reduceEqDiff, Nat.reduceAdd, Nat.reduceMul, Nat.reduceBEq, Nat.reducePow, Int.zero_add, Int.reduceAdd, Int.reduceSub, Int.reduceLT, Int.reduceLE, Int.reduceToNat, Int.reduceNeg, Nat.reduceSub, Int.reduceBNe, Int.reduceBEq])))) <;> (exact SD)

end Go.Proofs.Ytlbadfjonhgppaa
