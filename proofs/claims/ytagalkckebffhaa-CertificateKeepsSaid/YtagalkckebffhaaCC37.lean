/-
  Contracts of functions of the program, over the engine.
  No condition.
-/
import Derived.Test.YtagalkckebffhaaCC17
import Derived.Test.YtagalkckebffhaaCC23
import Derived.Test.YtagalkckebffhaaCC24
import Derived.Test.YtagalkckebffhaaCC27C28
import Derived.Test.YtagalkckebffhaaCKS
namespace Go.Proofs.Ytagalkckebffhaa
open Go.Eng
set_option linter.all false
attribute [local irreducible] DCallsG SWp Fct CallQ XCallQ LCallQ XLCallQ drun xrun

set_option maxRecDepth 20000 in
set_option maxHeartbeats 8000000 in
theorem encode_o (l : List (List Int)) (m : Nat) (hl : rowsOk l) (h0 : rightE l = 0) (hs : sizeI l l.length ≤ 1048576) : DCallsG Try.prog 20 [] [intss l] (hget []) m (.tup [.gl m, li 0]) (hget [(m, byL (encAll l))]) := by
  have h1 := hl.1
  have cr := fun m => right_f l m hl
  simp only [h0] at cr
  have hfu : fullB l 201 = false := by
    unfold rightE at h0
    split at h0
    · exact absurd h0 (by decide)
    · simpa using ‹¬ fullB l 201 = true›
  have hev : l.any badB = false := by
    unfold rightE at h0
    rw [if_neg (by rw [hfu]; simp)] at h0
    split at h0
    · exact absurd h0 (by decide)
    · simpa using ‹¬ l.any badB = true›
  have hrow := fun i (hi : i < l.length) => full_row hfu hi
  have h201 : l.length ≤ 201 := by
    unfold fullB at hfu; simp at hfu; omega
  have hsz := sizeI_le (fun i hi => (hrow i hi).2)
  have hlen := encBody_len l
  refine contract (n := 75) (rs := [.tmp 2, .tmp 3]) (ts := [28, 32]) Try.func20 rfl (by decide) 0 0 [] [] [145] (.tup [.gl 145, li 0]) [(145, byL (encAll l))] (by (exact SD)) (by (exact SD)) ?_
  (repeat' (first | refine swp_seq [0, 2, 3, 4, 5, 7, 8, 10, 12, 13, 14, 18, 23, 24, 25, 26, 37, 42, 43, 44, 45, 53, 54, 55, 56, 70] ?_ | refine st1 ?_ | (show CallQ ..; first | refine cF ?_ | refine cQ (fun hcc => (by first | exact cr _ | exact head_f _)) ?_ | (refine lP ?_; refine lQ (fun hcc m => (by first | exact cr _ | exact head_f _)) ?_)) | (show Fct ..; refine fctI (fun hf => ?_)) | (show XCallQ ..; first | refine xcF ?_ | refine xQ (fun hcc => (by first | exact cr _ | exact head_f _)) ?_ | (refine xlP ?_; refine xlQ (fun hcc m => (by first | exact cr _ | exact head_f _)) ?_)) | (show SWp _ _ _ (.region _ _ true) _ _ _ _; refine xG mixed [] ?_) | (show SWp _ _ _ (.cond _ _ _) _ _ _ _; first | (refine cB (fun hc => ?_) (fun hc => ?_) <;> first | exact False.elim hc | exact absurd hc Bool.false_ne_true | exact absurd hc.symm Bool.false_ne_true | skip) | refine cU ?_ ?_)))
  refine loop_swp [0, 5, 23, 24, 25] [] 0 (fun q A H => ∃ i : Nat, i ≤ l.length ∧ q = l.length - i ∧ A = [(0, intss l), (5, li (sizeI l i)), (23, intss l), (24, li l.length), (25, li i)] ∧ H = []) (by omega) ?_ ?_ ?_
  · rintro q A H ⟨i, g1, g2, rfl, rfl⟩
    exact ⟨by (exact SD), by (exact SD)⟩
  · refine ⟨_, 0, by omega, rfl, ?_, ?_⟩
    · (((simp only [push_cast, reduceIte, reduceDIte, reduceCtorEq, Nat.reduceLT, Nat.reduceLeDiff, Nat.reduceEqDiff, Nat.reduceAdd, Nat.reduceMul, Nat.reduceBEq, Nat.reducePow, Int.zero_add, Int.reduceAdd, Int.reduceSub, Int.reduceLT, Int.reduceLE, Int.reduceToNat, Int.reduceNeg, Nat.reduceSub, Int.reduceBNe, Int.reduceBEq, Int.reduceTDiv, Int.reduceTMod, Int.reduceMul]); repeat (simp (disch := omega) only [idx_nat, idx_mapT, i64w, rows_getS, rows_get, getD_set_self, famR_get]; try (simp only [push_cast, reduceIte, reduceDIte, reduceCtorEq, Nat.reduceLT, Nat.reduceLeDiff, Nat.reduceEqDiff, Nat.reduceAdd, Nat.reduceMul, Nat.reduceBEq, Nat.reducePow, Int.zero_add, Int.reduceAdd, Int.reduceSub, Int.reduceLT, Int.reduceLE, Int.reduceToNat, Int.reduceNeg, Nat.reduceSub, Int.reduceBNe, Int.reduceBEq, Int.reduceTDiv, Int.reduceTMod, Int.reduceMul])))) <;> rfl
    · (((simp only [push_cast, reduceIte, reduceDIte, reduceCtorEq, Nat.reduceLT, Nat.reduceLeDiff, Nat.reduceEqDiff, Nat.reduceAdd, Nat.reduceMul, Nat.reduceBEq, Nat.reducePow, Int.zero_add, Int.reduceAdd, Int.reduceSub, Int.reduceLT, Int.reduceLE, Int.reduceToNat, Int.reduceNeg, Nat.reduceSub, Int.reduceBNe, Int.reduceBEq, Int.reduceTDiv, Int.reduceTMod, Int.reduceMul]); repeat (simp (disch := omega) only [idx_nat, idx_mapT, i64w, rows_getS, rows_get, getD_set_self, famR_get]; try (simp only [push_cast, reduceIte, reduceDIte, reduceCtorEq, Nat.reduceLT, Nat.reduceLeDiff, Nat.reduceEqDiff, Nat.reduceAdd, Nat.reduceMul, Nat.reduceBEq, Nat.reducePow, Int.zero_add, Int.reduceAdd, Int.reduceSub, Int.reduceLT, Int.reduceLE, Int.reduceToNat, Int.reduceNeg, Nat.reduceSub, Int.reduceBNe, Int.reduceBEq, Int.reduceTDiv, Int.reduceTMod, Int.reduceMul])))) <;> rfl
  rintro q A H ⟨i, g1, g2, rfl, rfl⟩
  by_cases hi : i < l.length
  · have hr := (hrow i hi).2
    have e1 := sizeI_next l hi
    have e2 := hsz i (by omega)
    have hi3 : (i : Int) < (l.length : Int) := by omega
    (have := Nonempty.intro hi3)
    (repeat' (first | refine swp_seq [0, 2, 3, 4, 5, 7, 8, 10, 12, 13, 14, 18, 23, 24, 25, 26, 37, 42, 43, 44, 45, 53, 54, 55, 56, 70] ?_ | refine st1 ?_ | (show Fct ..; refine fctI (fun hf => ?_)) | (show SWp _ _ _ (.region _ _ true) _ _ _ _; refine xG mixed [] ?_) | (show SWp _ _ _ (.cond _ _ _) _ _ _ _; first | (refine cB (fun hc => ?_) (fun hc => ?_) <;> first | exact False.elim hc | exact absurd hc Bool.false_ne_true | exact absurd hc.symm Bool.false_ne_true | skip) | refine cU ?_ ?_)))
    (refine lN [] ?_)
    exact ⟨_, by omega, i + 1, by omega, rfl, by rw [e1]; push_cast; rfl, rfl⟩
  have hi2 : i = l.length := by omega
  subst hi2
  have e2 := hsz l.length (Nat.le_refl _)
  have hx3 : ¬ ((l.length : Int) < (l.length : Int)) := by omega
  (have := Nonempty.intro hx3)
  have h9 : ¬ ((1048576 : Int) < (sizeI l l.length : Nat)) := by omega
  (have := Nonempty.intro h9)
  (repeat' (first | refine swp_seq [0, 2, 3, 4, 5, 7, 8, 10, 12, 13, 14, 18, 23, 24, 25, 26, 37, 42, 43, 44, 45, 53, 54, 55, 56, 70] ?_ | refine st1 ?_ | (show CallQ ..; first | refine cF ?_ | refine cQ (fun hcc => (by first | exact head_f _)) ?_ | (refine lP ?_; refine lQ (fun hcc m => (by first | exact head_f _)) ?_)) | (show Fct ..; refine fctI (fun hf => ?_)) | (show XCallQ ..; first | refine xcF ?_ | refine xQ (fun hcc => (by first | exact head_f _)) ?_ | (refine xlP ?_; refine xlQ (fun hcc m => (by first | exact head_f _)) ?_)) | (show SWp _ _ _ (.region _ _ true) _ _ _ _; refine xG mixed [] ?_) | (show SWp _ _ _ (.cond _ _ _) _ _ _ _; first | (refine cB (fun hc => ?_) (fun hc => ?_) <;> first | exact False.elim hc | exact absurd hc Bool.false_ne_true | exact absurd hc.symm Bool.false_ne_true | skip) | refine cU ?_ ?_)))
  (refine cQT [24] (fun hcc => (put_f [82, 67, 1] _ 2 _ (by omega) (by simp))) ?_)
  (repeat' (first | refine swp_seq [0, 2, 3, 4, 5, 7, 8, 10, 12, 13, 14, 18, 23, 24, 25, 26, 37, 42, 43, 44, 45, 53, 54, 55, 56, 70] ?_ | refine st1 ?_ | (show CallQ ..; first | refine cF ?_ | refine cQ (fun hcc => (by fail)) ?_ | (refine lP ?_; refine lQ (fun hcc m => (by fail)) ?_)) | (show Fct ..; refine fctI (fun hf => ?_)) | (show XCallQ ..; first | refine xcF ?_ | refine xQ (fun hcc => (by fail)) ?_ | (refine xlP ?_; refine xlQ (fun hcc m => (by fail)) ?_)) | (show SWp _ _ _ (.region _ _ true) _ _ _ _; refine xG mixed [] ?_) | (show SWp _ _ _ (.cond _ _ _) _ _ _ _; first | (refine cB (fun hc => ?_) (fun hc => ?_) <;> first | exact False.elim hc | exact absurd hc Bool.false_ne_true | exact absurd hc.symm Bool.false_ne_true | skip) | refine cU ?_ ?_)))
  refine loop_swp [8, 42, 43, 44] [48] 49 (fun q A H => ∃ i : Nat, i ≤ l.length ∧ q = l.length - i ∧ A = [(8, .gl 48), (42, intss l), (43, li l.length), (44, li i)] ∧ H = [(48, byL (encHead l ++ (l.take i).flatMap encRow))]) (by omega) ?_ ?_ ?_
  · rintro q A H ⟨i, g1, g2, rfl, rfl⟩
    exact ⟨by (exact SD), by (exact SD)⟩
  · refine ⟨_, 0, by omega, rfl, ?_, ?_⟩
    · (((simp only [push_cast, reduceIte, reduceDIte, reduceCtorEq, Nat.reduceLT, Nat.reduceLeDiff, Nat.reduceEqDiff, Nat.reduceAdd, Nat.reduceMul, Nat.reduceBEq, Nat.reducePow, Int.zero_add, Int.reduceAdd, Int.reduceSub, Int.reduceLT, Int.reduceLE, Int.reduceToNat, Int.reduceNeg, Nat.reduceSub, Int.reduceBNe, Int.reduceBEq, Int.reduceTDiv, Int.reduceTMod, Int.reduceMul]); repeat (simp (disch := omega) only [idx_nat, idx_mapT, i64w, rows_getS, rows_get, getD_set_self, famR_get]; try (simp only [push_cast, reduceIte, reduceDIte, reduceCtorEq, Nat.reduceLT, Nat.reduceLeDiff, Nat.reduceEqDiff, Nat.reduceAdd, Nat.reduceMul, Nat.reduceBEq, Nat.reducePow, Int.zero_add, Int.reduceAdd, Int.reduceSub, Int.reduceLT, Int.reduceLE, Int.reduceToNat, Int.reduceNeg, Nat.reduceSub, Int.reduceBNe, Int.reduceBEq, Int.reduceTDiv, Int.reduceTMod, Int.reduceMul])))) <;> rfl
    · have : encHead l ++ (l.take 0).flatMap encRow = [82, 67, 1] ++ beBytes 2 (un64 (l.length : Int)) := by simp [encHead]
      rw [this]
      (((simp only [push_cast, reduceIte, reduceDIte, reduceCtorEq, Nat.reduceLT, Nat.reduceLeDiff, Nat.reduceEqDiff, Nat.reduceAdd, Nat.reduceMul, Nat.reduceBEq, Nat.reducePow, Int.zero_add, Int.reduceAdd, Int.reduceSub, Int.reduceLT, Int.reduceLE, Int.reduceToNat, Int.reduceNeg, Nat.reduceSub, Int.reduceBNe, Int.reduceBEq, Int.reduceTDiv, Int.reduceTMod, Int.reduceMul]); repeat (simp (disch := omega) only [idx_nat, idx_mapT, i64w, rows_getS, rows_get, getD_set_self, famR_get]; try (simp only [push_cast, reduceIte, reduceDIte, reduceCtorEq, Nat.reduceLT, Nat.reduceLeDiff, Nat.reduceEqDiff, Nat.reduceAdd, Nat.reduceMul, Nat.reduceBEq, Nat.reducePow, Int.zero_add, Int.reduceAdd, Int.reduceSub, Int.reduceLT, Int.reduceLE, Int.reduceToNat, Int.reduceNeg, Nat.reduceSub, Int.reduceBNe, Int.reduceBEq, Int.reduceTDiv, Int.reduceTMod, Int.reduceMul])))) <;> rfl
  rintro q A H ⟨i, g1, g2, rfl, rfl⟩
  by_cases hi : i < l.length
  · have hr := (hrow i hi).2
    have e1 := sizeI_next l hi
    have e2 := hsz i (by omega)
    have hpl := part_len l i
    have hi3 : (i : Int) < (l.length : Int) := by omega
    (have := Nonempty.intro hi3)
    have hfl : encHead l ++ (l.take (i + 1)).flatMap encRow = encHead l ++ (l.take i).flatMap encRow ++ encRow (l.getD i default) := by rw [flat_snoc encRow l hi, List.append_assoc]
    rw [show encRow (l.getD i default) = beBytes 2 (un64 (((l.getD i default).length : Int) / 2)) ++ nums (l.getD i default) from rfl] at hfl
    generalize hB : encHead l ++ (l.take i).flatMap encRow = B at *
    have e3 : IntKind.i64.wrap (((l.getD i default).length : Int).tdiv 2) = ((l.getD i default).length : Int) / 2 := by
      rw [Int.tdiv_eq_ediv_of_nonneg (by omega), i64w (by omega)]
    (repeat' (first | refine swp_seq [0, 2, 3, 4, 5, 7, 8, 10, 12, 13, 14, 18, 23, 24, 25, 26, 37, 42, 43, 44, 45, 53, 54, 55, 56, 70] ?_ | refine st1 ?_ | (show CallQ ..; first | refine cF ?_ | refine cQ (fun hcc => (by fail)) ?_ | (refine lP ?_; refine lQ (fun hcc m => (by fail)) ?_)) | (show Fct ..; refine fctI (fun hf => ?_)) | (show XCallQ ..; first | refine xcF ?_ | refine xQ (fun hcc => (by fail)) ?_ | (refine xlP ?_; refine xlQ (fun hcc m => (by fail)) ?_)) | (show SWp _ _ _ (.region _ _ true) _ _ _ _; refine xG mixed [] ?_) | (show SWp _ _ _ (.cond _ _ _) _ _ _ _; first | (refine cB (fun hc => ?_) (fun hc => ?_) <;> first | exact False.elim hc | exact absurd hc Bool.false_ne_true | exact absurd hc.symm Bool.false_ne_true | skip) | refine cU ?_ ?_)))
    rw [e3]
    (refine cQT [48] (fun hcc => (put_f B _ 2 _ (by omega) (by omega))) ?_)
    (repeat' (first | refine swp_seq [0, 2, 3, 4, 5, 7, 8, 10, 12, 13, 14, 18, 23, 24, 25, 26, 37, 42, 43, 44, 45, 53, 54, 55, 56, 70] ?_ | refine st1 ?_ | (show CallQ ..; first | refine cF ?_ | refine cQ (fun hcc => (by fail)) ?_ | (refine lP ?_; refine lQ (fun hcc m => (by fail)) ?_)) | (show Fct ..; refine fctI (fun hf => ?_)) | (show XCallQ ..; first | refine xcF ?_ | refine xQ (fun hcc => (by fail)) ?_ | (refine xlP ?_; refine xlQ (fun hcc m => (by fail)) ?_)) | (show SWp _ _ _ (.region _ _ true) _ _ _ _; refine xG mixed [] ?_) | (show SWp _ _ _ (.cond _ _ _) _ _ _ _; first | (refine cB (fun hc => ?_) (fun hc => ?_) <;> first | exact False.elim hc | exact absurd hc Bool.false_ne_true | exact absurd hc.symm Bool.false_ne_true | skip) | refine cU ?_ ?_)))
    (refine sR 113 48 ?_)
    refine loop_swp [8, 42, 43, 44, 53, 54, 55] [48] 49 (fun q A H => ∃ j : Nat, j ≤ (l.getD i default).length ∧ q = (l.getD i default).length - j ∧ A = [(8, .gl 48), (42, intss l), (43, li l.length), (44, li i), (53, ints (l.getD i default)), (54, li (l.getD i default).length), (55, li j)] ∧ H = [(48, byL (B ++ beBytes 2 (un64 (((l.getD i default).length : Int) / 2)) ++ nums ((l.getD i default).take j)))]) (by omega) ?_ ?_ ?_
    · rintro q A H ⟨j, g3, g4, rfl, rfl⟩
      exact ⟨by (exact SD), by (exact SD)⟩
    · refine ⟨_, 0, by omega, rfl, ?_, ?_⟩
      · (((simp only [push_cast, reduceIte, reduceDIte, reduceCtorEq, Nat.reduceLT, Nat.reduceLeDiff, Nat.reduceEqDiff, Nat.reduceAdd, Nat.reduceMul, Nat.reduceBEq, Nat.reducePow, Int.zero_add, Int.reduceAdd, Int.reduceSub, Int.reduceLT, Int.reduceLE, Int.reduceToNat, Int.reduceNeg, Nat.reduceSub, Int.reduceBNe, Int.reduceBEq, Int.reduceTDiv, Int.reduceTMod, Int.reduceMul]); repeat (simp (disch := omega) only [idx_nat, idx_mapT, i64w, rows_getS, rows_get, getD_set_self, famR_get]; try (simp only [push_cast, reduceIte, reduceDIte, reduceCtorEq, Nat.reduceLT, Nat.reduceLeDiff, Nat.reduceEqDiff, Nat.reduceAdd, Nat.reduceMul, Nat.reduceBEq, Nat.reducePow, Int.zero_add, Int.reduceAdd, Int.reduceSub, Int.reduceLT, Int.reduceLE, Int.reduceToNat, Int.reduceNeg, Nat.reduceSub, Int.reduceBNe, Int.reduceBEq, Int.reduceTDiv, Int.reduceTMod, Int.reduceMul])))) <;> rfl
      · rw [List.take_zero, show nums [] = [] from rfl, List.append_nil]
        (((simp only [push_cast, reduceIte, reduceDIte, reduceCtorEq, Nat.reduceLT, Nat.reduceLeDiff, Nat.reduceEqDiff, Nat.reduceAdd, Nat.reduceMul, Nat.reduceBEq, Nat.reducePow, Int.zero_add, Int.reduceAdd, Int.reduceSub, Int.reduceLT, Int.reduceLE, Int.reduceToNat, Int.reduceNeg, Nat.reduceSub, Int.reduceBNe, Int.reduceBEq, Int.reduceTDiv, Int.reduceTMod, Int.reduceMul]); repeat (simp (disch := omega) only [idx_nat, idx_mapT, i64w, rows_getS, rows_get, getD_set_self, famR_get]; try (simp only [push_cast, reduceIte, reduceDIte, reduceCtorEq, Nat.reduceLT, Nat.reduceLeDiff, Nat.reduceEqDiff, Nat.reduceAdd, Nat.reduceMul, Nat.reduceBEq, Nat.reducePow, Int.zero_add, Int.reduceAdd, Int.reduceSub, Int.reduceLT, Int.reduceLE, Int.reduceToNat, Int.reduceNeg, Nat.reduceSub, Int.reduceBNe, Int.reduceBEq, Int.reduceTDiv, Int.reduceTMod, Int.reduceMul])))) <;> rfl
    rintro q A H ⟨j, g3, g4, rfl, rfl⟩
    by_cases hj : j < (l.getD i default).length
    · have hj3 : (j : Int) < ((l.getD i default).length : Int) := by omega
      (have := Nonempty.intro hj3)
      have hnl := nums_len ((l.getD i default).take j)
      have htl : ((l.getD i default).take j).length ≤ 8000 := by rw [List.length_take]; omega
      have hns := flat_snoc (fun n => beBytes 8 (un64 n)) (l.getD i default) hj
      (repeat' (first | refine swp_seq [0, 2, 3, 4, 5, 7, 8, 10, 12, 13, 14, 18, 23, 24, 25, 26, 37, 42, 43, 44, 45, 53, 54, 55, 56, 70] ?_ | refine st1 ?_ | (show CallQ ..; first | refine cF ?_ | refine cQ (fun hcc => (by fail)) ?_ | (refine lP ?_; refine lQ (fun hcc m => (by fail)) ?_)) | (show Fct ..; refine fctI (fun hf => ?_)) | (show XCallQ ..; first | refine xcF ?_ | refine xQ (fun hcc => (by fail)) ?_ | (refine xlP ?_; refine xlQ (fun hcc m => (by fail)) ?_)) | (show SWp _ _ _ (.region _ _ true) _ _ _ _; refine xG mixed [] ?_) | (show SWp _ _ _ (.cond _ _ _) _ _ _ _; first | (refine cB (fun hc => ?_) (fun hc => ?_) <;> first | exact False.elim hc | exact absurd hc Bool.false_ne_true | exact absurd hc.symm Bool.false_ne_true | skip) | refine cU ?_ ?_)))
      have hpl2 : (B ++ beBytes 2 (un64 (((l.getD i default).length : Int) / 2)) ++ nums ((l.getD i default).take j)).length ≤ 281474976710 := by
        simp only [List.length_append, beBytes_length]; omega
      (refine cQT [48] (fun hcc => (put_f _ _ 8 _ (by omega) hpl2)) ?_)
      (repeat' (first | refine swp_seq [0, 2, 3, 4, 5, 7, 8, 10, 12, 13, 14, 18, 23, 24, 25, 26, 37, 42, 43, 44, 45, 53, 54, 55, 56, 70] ?_ | refine st1 ?_ | (show CallQ ..; first | refine cF ?_ | refine cQ (fun hcc => (by fail)) ?_ | (refine lP ?_; refine lQ (fun hcc m => (by fail)) ?_)) | (show Fct ..; refine fctI (fun hf => ?_)) | (show XCallQ ..; first | refine xcF ?_ | refine xQ (fun hcc => (by fail)) ?_ | (refine xlP ?_; refine xlQ (fun hcc m => (by fail)) ?_)) | (show SWp _ _ _ (.region _ _ true) _ _ _ _; refine xG mixed [] ?_) | (show SWp _ _ _ (.cond _ _ _) _ _ _ _; first | (refine cB (fun hc => ?_) (fun hc => ?_) <;> first | exact False.elim hc | exact absurd hc Bool.false_ne_true | exact absurd hc.symm Bool.false_ne_true | skip) | refine cU ?_ ?_)))
      (refine lR 97 48 [97] ?_)
      exact ⟨_, by omega, j + 1, by omega, rfl, rfl, by unfold nums; rw [hns]; simp only [List.append_assoc]⟩
    have hj2 : j = (l.getD i default).length := by omega
    have hj3 : ¬ ((j : Int) < ((l.getD i default).length : Int)) := by omega
    (have := Nonempty.intro hj3)
    rw [hj2, List.take_length] at *
    (repeat' (first | refine swp_seq [0, 2, 3, 4, 5, 7, 8, 10, 12, 13, 14, 18, 23, 24, 25, 26, 37, 42, 43, 44, 45, 53, 54, 55, 56, 70] ?_ | refine st1 ?_ | (show Fct ..; refine fctI (fun hf => ?_)) | (show SWp _ _ _ (.region _ _ true) _ _ _ _; refine xG mixed [] ?_) | (show SWp _ _ _ (.cond _ _ _) _ _ _ _; first | (refine cB (fun hc => ?_) (fun hc => ?_) <;> first | exact False.elim hc | exact absurd hc Bool.false_ne_true | exact absurd hc.symm Bool.false_ne_true | skip) | refine cU ?_ ?_)))
    (refine lN [48] ?_)
    exact ⟨_, by omega, i + 1, by omega, rfl, rfl, by rw [hfl]; simp only [List.append_assoc]⟩
  have hi2 : i = l.length := by omega
  have hx5 : ¬ ((i : Int) < (l.length : Int)) := by omega
  (have := Nonempty.intro hx5)
  rw [hi2, List.take_length]
  show SWp _ _ _ _ _ _ [(48, byL (encBody l))] _
  (repeat' (first | refine swp_seq [0, 2, 3, 4, 5, 7, 8, 10, 12, 13, 14, 18, 23, 24, 25, 26, 37, 42, 43, 44, 45, 53, 54, 55, 56, 70] ?_ | refine st1 ?_ | (show CallQ ..; first | refine cF ?_ | refine cQ (fun hcc => (aSum_f _ _ (by omega))) ?_ | (refine lP ?_; refine lQ (fun hcc m => (aSum_f _ _ (by omega))) ?_)) | (show Fct ..; refine fctI (fun hf => ?_)) | (show XCallQ ..; first | refine xcF ?_ | refine xQ (fun hcc => (aSum_f _ _ (by omega))) ?_ | (refine xlP ?_; refine xlQ (fun hcc m => (aSum_f _ _ (by omega))) ?_)) | (show SWp _ _ _ (.region _ _ true) _ _ _ _; refine xG mixed [] ?_) | (show SWp _ _ _ (.cond _ _ _) _ _ _ _; first | (refine cB (fun hc => ?_) (fun hc => ?_) <;> first | exact False.elim hc | exact absurd hc Bool.false_ne_true | exact absurd hc.symm Bool.false_ne_true | skip) | refine cU ?_ ?_)))
  (refine cQT [48] (fun hcc => (put_f (encBody l) _ 4 _ (by omega) (by omega))) ?_)
  (repeat' (first | refine swp_seq [0, 2, 3, 4, 5, 7, 8, 10, 12, 13, 14, 18, 23, 24, 25, 26, 37, 42, 43, 44, 45, 53, 54, 55, 56, 70] ?_ | refine st1 ?_ | (show CallQ ..; first | refine cF ?_ | refine cQ (fun hcc => (by fail)) ?_ | (refine lP ?_; refine lQ (fun hcc m => (by fail)) ?_)) | (show Fct ..; refine fctI (fun hf => ?_)) | (show XCallQ ..; first | refine xcF ?_ | refine xQ (fun hcc => (by fail)) ?_ | (refine xlP ?_; refine xlQ (fun hcc m => (by fail)) ?_)) | (show SWp _ _ _ (.region _ _ true) _ _ _ _; refine xG mixed [] ?_) | (show SWp _ _ _ (.cond _ _ _) _ _ _ _; first | (refine cB (fun hc => ?_) (fun hc => ?_) <;> first | exact False.elim hc | exact absurd hc Bool.false_ne_true | exact absurd hc.symm Bool.false_ne_true | skip) | refine cU ?_ ?_)))
  (((simp only [push_cast, reduceIte, reduceDIte, reduceCtorEq, Nat.reduceLT, Nat.reduceLeDiff, Nat.reduceEqDiff, Nat.reduceAdd, Nat.reduceMul, Nat.reduceBEq, Nat.reducePow, Int.zero_add, Int.reduceAdd, Int.reduceSub, Int.reduceLT, Int.reduceLE, Int.reduceToNat, Int.reduceNeg, Nat.reduceSub, Int.reduceBNe, Int.reduceBEq, Int.reduceTDiv, Int.reduceTMod, Int.reduceMul]); repeat (simp (disch := omega) only [idx_nat, idx_mapT, i64w, rows_getS, rows_get, getD_set_self, famR_get]; try (simp only [push_cast, reduceIte, reduceDIte, reduceCtorEq, Nat.reduceLT, Nat.reduceLeDiff, Nat.reduceEqDiff, Nat.reduceAdd, Nat.reduceMul, Nat.reduceBEq, Nat.reducePow, Int.zero_add, Int.reduceAdd, Int.reduceSub, Int.reduceLT, Int.reduceLE, Int.reduceToNat, Int.reduceNeg, Nat.reduceSub, Int.reduceBNe, Int.reduceBEq, Int.reduceTDiv, Int.reduceTMod, Int.reduceMul])))) <;> rfl
theorem rows_mm {α : Type} (f : α → List PV) (l : List α) : rows f l = (l.map f).map (List.map DV.p) := by unfold rows; rw [List.map_map]; rfl
theorem swp_lentR {P : Program} {N pin nx : Nat} {x y z : Code} {Q : Exit → LE → LH → Nat → Prop} {A : LE} {o n : Nat} {t : TypeId} {α : Type} {f : α → List PV} {l : List α} (G : List Nat)
    (h : SWp P N nx x (thenK P N nx G y (meltK P N pin o (.lst t n (rows f l)) z Q)) A [(o, .lent n (l.map f))] nx) : SWp P N pin (.seq x (.seq y z)) Q A [(o, .lst t n (rows f l))] nx := by
  rw [rows_mm] at h ⊢; exact swp_lent G h
def tmN (a : Int) (n : Nat) : Nat := a.toNat % n
theorem tm_eq (a : Int) (n : Nat) [h : Nonempty (0 ≤ a)] : a.tmod (n : Int) = (tmN a n : Int) := by
  obtain ⟨z, rfl⟩ : ∃ z : Nat, a = z := ⟨a.toNat, by have := h.elim id; omega⟩
  rw [Int.tmod_eq_emod_of_nonneg (by omega)]; simp [tmN]
attribute [push_cast] tm_eq
theorem dec_l (l : List UInt8) (m : Nat) (d : DV) (hc : ∀ m, DCalls Try.prog 16 [bys l] (hget []) m d (hget [])) : DCalls Try.prog 16 [.gl 0] (hget [(0, .lent 1 (l.map byRow))]) m d (hget [(0, .lent 1 (l.map byRow))]) :=
  DCallsG.lent (fun m => hc m)
set_option maxRecDepth 20000 in
set_option maxHeartbeats 8000000 in
theorem keeps_f (l : List (List Int)) (at1 : Int) (by1 : UInt8) (m : Nat) (hl : rowsOk l) (ha : 0 ≤ at1 ∧ at1 ≤ 65535) : DCalls Try.prog 7 [intss l, lv (.int .u16 at1), lv (.int .u8 (by1.toNat : Int))] (hget []) m (lb true) (hget []) := by
  have h1 := hl.1
  by_cases h12 : (12 : Int) < (l.length : Int)
  · (have := Nonempty.intro h12)
    refine pureC (n := 71) (rs := [.tmp 6]) (ts := [4]) Try.func7 rfl (by decide) [] (by (exact SD)) ?_
    (repeat' (first | refine swp_seq [0, 1, 2, 6, 7, 8, 9, 10, 12, 14, 22, 29, 50, 52] ?_ | refine st1 ?_ | (show CallQ ..; first | refine cF ?_ | refine cQ (fun hcc => (by first | exact awake_f _)) ?_ | (refine lP ?_; refine lQ (fun hcc m => (by first | exact awake_f _)) ?_)) | (show Fct ..; refine fctI (fun hf => ?_)) | (show XCallQ ..; first | refine xcF ?_ | refine xQ (fun hcc => (by first | exact awake_f _)) ?_ | (refine xlP ?_; refine xlQ (fun hcc m => (by first | exact awake_f _)) ?_)) | (show SWp _ _ _ (.region _ _ true) _ _ _ _; refine xG mixed [] ?_) | (show SWp _ _ _ (.cond _ _ _) _ _ _ _; first | (refine cB (fun hc => ?_) (fun hc => ?_) <;> first | exact False.elim hc | exact absurd hc Bool.false_ne_true | exact absurd hc.symm Bool.false_ne_true | skip) | refine cU ?_ ?_)))
    (((simp only [push_cast, reduceIte, reduceDIte, reduceCtorEq, Nat.reduceLT, Nat.reduceLeDiff, Nat.reduceEqDiff, Nat.reduceAdd, Nat.reduceMul, Nat.reduceBEq, Nat.reducePow, Int.zero_add, Int.reduceAdd, Int.reduceSub, Int.reduceLT, Int.reduceLE, Int.reduceToNat, Int.reduceNeg, Nat.reduceSub, Int.reduceBNe, Int.reduceBEq, Int.reduceTDiv, Int.reduceTMod, Int.reduceMul]); repeat (simp (disch := omega) only [idx_nat, idx_mapT, i64w, rows_getS, rows_get, getD_set_self, famR_get]; try (simp only [push_cast, reduceIte, reduceDIte, reduceCtorEq, Nat.reduceLT, Nat.reduceLeDiff, Nat.reduceEqDiff, Nat.reduceAdd, Nat.reduceMul, Nat.reduceBEq, Nat.reducePow, Int.zero_add, Int.reduceAdd, Int.reduceSub, Int.reduceLT, Int.reduceLE, Int.reduceToNat, Int.reduceNeg, Nat.reduceSub, Int.reduceBNe, Int.reduceBEq, Int.reduceTDiv, Int.reduceTMod, Int.reduceMul])))) <;> rfl
  (have := Nonempty.intro h12)
  have sa := fun m => short_f l m hl
  cases hsa : shortB l <;> simp only [hsa] at sa
  · refine pureC (n := 71) (rs := [.tmp 6]) (ts := [4]) Try.func7 rfl (by decide) [] (by (exact SD)) ?_
    (repeat' (first | refine swp_seq [0, 1, 2, 6, 7, 8, 9, 10, 12, 14, 22, 29, 50, 52] ?_ | refine st1 ?_ | (show CallQ ..; first | refine cF ?_ | refine cQ (fun hcc => (by first | exact awake_f _ | exact sa _)) ?_ | (refine lP ?_; refine lQ (fun hcc m => (by first | exact awake_f _ | exact sa _)) ?_)) | (show Fct ..; refine fctI (fun hf => ?_)) | (show XCallQ ..; first | refine xcF ?_ | refine xQ (fun hcc => (by first | exact awake_f _ | exact sa _)) ?_ | (refine xlP ?_; refine xlQ (fun hcc m => (by first | exact awake_f _ | exact sa _)) ?_)) | (show SWp _ _ _ (.region _ _ true) _ _ _ _; refine xG mixed [] ?_) | (show SWp _ _ _ (.cond _ _ _) _ _ _ _; first | (refine cB (fun hc => ?_) (fun hc => ?_) <;> first | exact False.elim hc | exact absurd hc Bool.false_ne_true | exact absurd hc.symm Bool.false_ne_true | skip) | refine cU ?_ ?_)))
    (((simp only [push_cast, reduceIte, reduceDIte, reduceCtorEq, Nat.reduceLT, Nat.reduceLeDiff, Nat.reduceEqDiff, Nat.reduceAdd, Nat.reduceMul, Nat.reduceBEq, Nat.reducePow, Int.zero_add, Int.reduceAdd, Int.reduceSub, Int.reduceLT, Int.reduceLE, Int.reduceToNat, Int.reduceNeg, Nat.reduceSub, Int.reduceBNe, Int.reduceBEq, Int.reduceTDiv, Int.reduceTMod, Int.reduceMul]); repeat (simp (disch := omega) only [idx_nat, idx_mapT, i64w, rows_getS, rows_get, getD_set_self, famR_get]; try (simp only [push_cast, reduceIte, reduceDIte, reduceCtorEq, Nat.reduceLT, Nat.reduceLeDiff, Nat.reduceEqDiff, Nat.reduceAdd, Nat.reduceMul, Nat.reduceBEq, Nat.reducePow, Int.zero_add, Int.reduceAdd, Int.reduceSub, Int.reduceLT, Int.reduceLE, Int.reduceToNat, Int.reduceNeg, Nat.reduceSub, Int.reduceBNe, Int.reduceBEq, Int.reduceTDiv, Int.reduceTMod, Int.reduceMul])))) <;> rfl
  have c2 := fun m => encode_f l m hl
  by_cases h0 : rightE l = 0
  case neg =>
    rw [show encR l = ([], rightE l) by unfold encR; rw [if_pos h0]] at c2
    generalize rightE l = E at *
    (have := Nonempty.intro h0)
    refine pureC (n := 71) (rs := [.tmp 6]) (ts := [4]) Try.func7 rfl (by decide) [] (by (exact SD)) ?_
    (repeat' (first | refine swp_seq [0, 1, 2, 6, 7, 8, 9, 10, 12, 14, 22, 29, 50, 52] ?_ | refine st1 ?_ | (show CallQ ..; first | refine cF ?_ | refine cQ (fun hcc => (by first | exact awake_f _ | exact sa _ | exact c2 _)) ?_ | (refine lP ?_; refine lQ (fun hcc m => (by first | exact awake_f _ | exact sa _ | exact c2 _)) ?_)) | (show Fct ..; refine fctI (fun hf => ?_)) | (show XCallQ ..; first | refine xcF ?_ | refine xQ (fun hcc => (by first | exact awake_f _ | exact sa _ | exact c2 _)) ?_ | (refine xlP ?_; refine xlQ (fun hcc m => (by first | exact awake_f _ | exact sa _ | exact c2 _)) ?_)) | (show SWp _ _ _ (.region _ _ true) _ _ _ _; refine xG mixed [] ?_) | (show SWp _ _ _ (.cond _ _ _) _ _ _ _; first | (refine cB (fun hc => ?_) (fun hc => ?_) <;> first | exact False.elim hc | exact absurd hc Bool.false_ne_true | exact absurd hc.symm Bool.false_ne_true | skip) | refine cU ?_ ?_)))
    (((simp only [push_cast, reduceIte, reduceDIte, reduceCtorEq, Nat.reduceLT, Nat.reduceLeDiff, Nat.reduceEqDiff, Nat.reduceAdd, Nat.reduceMul, Nat.reduceBEq, Nat.reducePow, Int.zero_add, Int.reduceAdd, Int.reduceSub, Int.reduceLT, Int.reduceLE, Int.reduceToNat, Int.reduceNeg, Nat.reduceSub, Int.reduceBNe, Int.reduceBEq, Int.reduceTDiv, Int.reduceTMod, Int.reduceMul]); repeat (simp (disch := omega) only [idx_nat, idx_mapT, i64w, rows_getS, rows_get, getD_set_self, famR_get]; try (simp only [push_cast, reduceIte, reduceDIte, reduceCtorEq, Nat.reduceLT, Nat.reduceLeDiff, Nat.reduceEqDiff, Nat.reduceAdd, Nat.reduceMul, Nat.reduceBEq, Nat.reducePow, Int.zero_add, Int.reduceAdd, Int.reduceSub, Int.reduceLT, Int.reduceLE, Int.reduceToNat, Int.reduceNeg, Nat.reduceSub, Int.reduceBNe, Int.reduceBEq, Int.reduceTDiv, Int.reduceTMod, Int.reduceMul])))) <;> rfl
  by_cases hs : 1048576 < sizeI l l.length
  · rw [show encR l = ([], 5) by unfold encR; rw [if_neg (by rw [h0]; simp), if_pos hs]] at c2
    refine pureC (n := 71) (rs := [.tmp 6]) (ts := [4]) Try.func7 rfl (by decide) [] (by (exact SD)) ?_
    (repeat' (first | refine swp_seq [0, 1, 2, 6, 7, 8, 9, 10, 12, 14, 22, 29, 50, 52] ?_ | refine st1 ?_ | (show CallQ ..; first | refine cF ?_ | refine cQ (fun hcc => (by first | exact awake_f _ | exact sa _ | exact c2 _)) ?_ | (refine lP ?_; refine lQ (fun hcc m => (by first | exact awake_f _ | exact sa _ | exact c2 _)) ?_)) | (show Fct ..; refine fctI (fun hf => ?_)) | (show XCallQ ..; first | refine xcF ?_ | refine xQ (fun hcc => (by first | exact awake_f _ | exact sa _ | exact c2 _)) ?_ | (refine xlP ?_; refine xlQ (fun hcc m => (by first | exact awake_f _ | exact sa _ | exact c2 _)) ?_)) | (show SWp _ _ _ (.region _ _ true) _ _ _ _; refine xG mixed [] ?_) | (show SWp _ _ _ (.cond _ _ _) _ _ _ _; first | (refine cB (fun hc => ?_) (fun hc => ?_) <;> first | exact False.elim hc | exact absurd hc Bool.false_ne_true | exact absurd hc.symm Bool.false_ne_true | skip) | refine cU ?_ ?_)))
    (((simp only [push_cast, reduceIte, reduceDIte, reduceCtorEq, Nat.reduceLT, Nat.reduceLeDiff, Nat.reduceEqDiff, Nat.reduceAdd, Nat.reduceMul, Nat.reduceBEq, Nat.reducePow, Int.zero_add, Int.reduceAdd, Int.reduceSub, Int.reduceLT, Int.reduceLE, Int.reduceToNat, Int.reduceNeg, Nat.reduceSub, Int.reduceBNe, Int.reduceBEq, Int.reduceTDiv, Int.reduceTMod, Int.reduceMul]); repeat (simp (disch := omega) only [idx_nat, idx_mapT, i64w, rows_getS, rows_get, getD_set_self, famR_get]; try (simp only [push_cast, reduceIte, reduceDIte, reduceCtorEq, Nat.reduceLT, Nat.reduceLeDiff, Nat.reduceEqDiff, Nat.reduceAdd, Nat.reduceMul, Nat.reduceBEq, Nat.reducePow, Int.zero_add, Int.reduceAdd, Int.reduceSub, Int.reduceLT, Int.reduceLE, Int.reduceToNat, Int.reduceNeg, Nat.reduceSub, Int.reduceBNe, Int.reduceBEq, Int.reduceTDiv, Int.reduceTMod, Int.reduceMul])))) <;> rfl
  clear c2
  have c2 := fun m => encode_o l m hl h0 (by omega)
  have hE := encAll_len l
  have hE9 : 9 ≤ sizeI l l.length := by unfold sizeI; omega
  have cd : ∀ m, DCalls Try.prog 16 [bys (encAll l)] (hget []) m (.tup [intss l, li 0]) (hget []) := fun m => by
    have := decode_f (encAll l) m (by omega)
    rwa [decR_enc hl h0 (by omega)] at this
  have hT := fun p c hp hc => decR_torn (l := l) (p := p) (c := c) hp hc
  have hdT := fun p c => decode_f ((encAll l).set p c)
  generalize encAll l = X at *
  have h9 : ¬ ((X.length : Int) < 9) := by omega
  (have := Nonempty.intro h9)
  have c3 := fun m => same_s l m hl
  refine pureC (n := 71) (rs := [.tmp 6]) (ts := [4]) Try.func7 rfl (by decide) [] (by (exact SD)) ?_
  (repeat' (first | (show SWp _ _ _ (.seq (.region 8 _ _) _) _ _ _ _; refine (stop_in ?_)) | refine swp_seq [0, 1, 2, 6, 7, 8, 9, 10, 12, 14, 22, 29, 50, 52] ?_ | refine st1 ?_ | (show CallQ ..; first | refine cF ?_ | refine cQ (fun hcc => (by first | exact awake_f _ | exact sa _ | exact c2 _)) ?_ | (refine lP ?_; refine lQ (fun hcc m => (by first | exact awake_f _ | exact sa _ | exact c2 _)) ?_)) | (show Fct ..; refine fctI (fun hf => ?_)) | (show XCallQ ..; first | refine xcF ?_ | refine xQ (fun hcc => (by first | exact awake_f _ | exact sa _ | exact c2 _)) ?_ | (refine xlP ?_; refine xlQ (fun hcc m => (by first | exact awake_f _ | exact sa _ | exact c2 _)) ?_)) | (show SWp _ _ _ (.region _ _ true) _ _ _ _; refine xG mixed [] ?_) | (show SWp _ _ _ (.cond _ _ _) _ _ _ _; first | (refine cB (fun hc => ?_) (fun hc => ?_) <;> first | exact False.elim hc | exact absurd hc Bool.false_ne_true | exact absurd hc.symm Bool.false_ne_true | skip) | refine cU ?_ ?_)))
  refine stop_out ?_
  refine swp_lentR [0, 1, 2, 7, 9, 10] ?_
  (repeat' (first | refine swp_seq [0, 1, 2, 6, 7, 8, 9, 10, 12, 14, 22, 29, 50, 52] ?_ | refine st1 ?_ | (show CallQ ..; first | refine cF ?_ | refine cQ (fun hcc => (by fail)) ?_ | (refine lP ?_; refine lQ (fun hcc m => (by fail)) ?_)) | (show Fct ..; refine fctI (fun hf => ?_)) | (show XCallQ ..; first | refine xcF ?_ | refine xQ (fun hcc => (by fail)) ?_ | (refine xlP ?_; refine xlQ (fun hcc m => (by fail)) ?_)) | (show SWp _ _ _ (.region _ _ true) _ _ _ _; refine xG mixed [] ?_) | (show SWp _ _ _ (.cond _ _ _) _ _ _ _; first | (refine cB (fun hc => ?_) (fun hc => ?_) <;> first | exact False.elim hc | exact absurd hc Bool.false_ne_true | exact absurd hc.symm Bool.false_ne_true | skip) | refine cU ?_ ?_)))
  (refine cQT [96] (fun hcc => (dec_l X _ _ cd)) ?_)
  (repeat' (first | refine swp_seq [0, 1, 2, 6, 7, 8, 9, 10, 12, 14, 22, 29, 50, 52] ?_ | refine st1 ?_ | (show CallQ ..; first | refine cF ?_ | refine cQ (fun hcc => (by first | exact c3 _)) ?_ | (refine lP ?_; refine lQ (fun hcc m => (by first | exact c3 _)) ?_)) | (show Fct ..; refine fctI (fun hf => ?_)) | (show XCallQ ..; first | refine xcF ?_ | refine xQ (fun hcc => (by first | exact c3 _)) ?_ | (refine xlP ?_; refine xlQ (fun hcc m => (by first | exact c3 _)) ?_)) | (show SWp _ _ _ (.region _ _ true) _ _ _ _; refine xG mixed [] ?_) | (show SWp _ _ _ (.cond _ _ _) _ _ _ _; first | (refine cB (fun hc => ?_) (fun hc => ?_) <;> first | exact False.elim hc | exact absurd hc Bool.false_ne_true | exact absurd hc.symm Bool.false_ne_true | skip) | refine cU ?_ ?_)))
  refine swp_keep [1, 2, 7] (A2 := [(1, lv (.int .u16 at1)), (2, lv (.int .u8 (by1.toNat : Int))), (7, .gl 96)]) rfl ?_
  by_cases hz : (by1.toNat : Int) = 0
  · (have := Nonempty.intro hz)
    (repeat' (first | refine swp_seq [0, 1, 2, 6, 7, 8, 9, 10, 12, 14, 22, 29, 50, 52] ?_ | refine st1 ?_ | (show CallQ ..; first | refine cF ?_ | refine cQ (fun hcc => (by fail)) ?_ | (refine lP ?_; refine lQ (fun hcc m => (by fail)) ?_)) | (show Fct ..; refine fctI (fun hf => ?_)) | (show XCallQ ..; first | refine xcF ?_ | refine xQ (fun hcc => (by fail)) ?_ | (refine xlP ?_; refine xlQ (fun hcc m => (by fail)) ?_)) | (show SWp _ _ _ (.region _ _ true) _ _ _ _; refine xG mixed [] ?_) | (show SWp _ _ _ (.cond _ _ _) _ _ _ _; first | (refine cB (fun hc => ?_) (fun hc => ?_) <;> first | exact False.elim hc | exact absurd hc Bool.false_ne_true | exact absurd hc.symm Bool.false_ne_true | skip) | refine cU ?_ ?_)))
    (((simp only [push_cast, reduceIte, reduceDIte, reduceCtorEq, Nat.reduceLT, Nat.reduceLeDiff, Nat.reduceEqDiff, Nat.reduceAdd, Nat.reduceMul, Nat.reduceBEq, Nat.reducePow, Int.zero_add, Int.reduceAdd, Int.reduceSub, Int.reduceLT, Int.reduceLE, Int.reduceToNat, Int.reduceNeg, Nat.reduceSub, Int.reduceBNe, Int.reduceBEq, Int.reduceTDiv, Int.reduceTMod, Int.reduceMul]); repeat (simp (disch := omega) only [idx_nat, idx_mapT, i64w, rows_getS, rows_get, getD_set_self, famR_get]; try (simp only [push_cast, reduceIte, reduceDIte, reduceCtorEq, Nat.reduceLT, Nat.reduceLeDiff, Nat.reduceEqDiff, Nat.reduceAdd, Nat.reduceMul, Nat.reduceBEq, Nat.reducePow, Int.zero_add, Int.reduceAdd, Int.reduceSub, Int.reduceLT, Int.reduceLE, Int.reduceToNat, Int.reduceNeg, Nat.reduceSub, Int.reduceBNe, Int.reduceBEq, Int.reduceTDiv, Int.reduceTMod, Int.reduceMul]))))
  (have := Nonempty.intro hz)
  have hn0 : 0 < X.length := by omega
  have hpl : tmN at1 X.length < X.length := Nat.mod_lt _ hn0
  have ha0 := ha.1
  (have := Nonempty.intro ha0)
  obtain ⟨p, hpe⟩ : ∃ p, p = tmN at1 X.length := ⟨_, rfl⟩
  rw [← hpe] at hpl
  have hp3 : (tmN at1 X.length : Int) < (X.length : Int) := by omega
  have hnz : ¬ ((X.length : Int) = 0) := by omega
  (have := Nonempty.intro hp3)
  have hpl2 : tmN at1 X.length < X.length := hpe ▸ hpl
  (have := Nonempty.intro hpl2)
  (have := Nonempty.intro hnz)
  (repeat' (first | (show SWp _ _ _ (.seq (.region 14 _ _) _) _ _ _ _; refine (stop_in ?_)) | refine swp_seq [0, 1, 2, 6, 7, 8, 9, 10, 12, 14, 22, 29, 50, 52] ?_ | refine st1 ?_ | (show CallQ ..; first | refine cF ?_ | refine cQ (fun hcc => (by fail)) ?_ | (refine lP ?_; refine lQ (fun hcc m => (by fail)) ?_)) | (show Fct ..; refine fctI (fun hf => ?_)) | (show XCallQ ..; first | refine xcF ?_ | refine xQ (fun hcc => (by fail)) ?_ | (refine xlP ?_; refine xlQ (fun hcc m => (by fail)) ?_)) | (show SWp _ _ _ (.region _ _ true) _ _ _ _; refine xG mixed [] ?_) | (show SWp _ _ _ (.cond _ _ _) _ _ _ _; first | (refine cB (fun hc => ?_) (fun hc => ?_) <;> first | exact False.elim hc | exact absurd hc Bool.false_ne_true | exact absurd hc.symm Bool.false_ne_true | skip) | refine cU ?_ ?_)))
  refine stop_out ?_
  rw [← hpe]
  obtain ⟨c, hc1⟩ : ∃ c : UInt8, c = X.getD p default + by1 := ⟨_, rfl⟩
  have hu1 : (X.getD p default).toNat < 256 := (X.getD p default).toNat_lt
  have hu2 : by1.toNat < 256 := by1.toNat_lt
  have hcn : IntKind.u8.wrap (((X.getD p default).toNat : Int) + (by1.toNat : Int)) = (c.toNat : Int) := by
    rw [hc1, UInt8.toNat_add, IntKind.wrap_u8]; simp
  have hcne : X.getD p default ≠ c := fun q => by
    have q2 := congrArg UInt8.toNat q
    rw [hc1, UInt8.toNat_add] at q2
    omega
  have hset : (rows byRow X).set p [DV.p (.lit (.int .u8 (IntKind.u8.wrap (((X.getD p default).toNat : Int) + (by1.toNat : Int)))))] = rows byRow (X.set p c) := by
    rw [hcn, ← rows_set]; rfl
  rw [hset]
  have c4 := fun m => hdT p c m (by rw [List.length_set]; omega)
  have ht := hT p c hpl hcne
  generalize (decR (X.set p c)).1 = bk at *
  generalize (decR (X.set p c)).2 = g at *
  (have := Nonempty.intro ht)
  (refine sF 96 ?_)
  (repeat' (first | refine swp_seq [0, 1, 2, 6, 7, 8, 9, 10, 12, 14, 22, 29, 50, 52] ?_ | refine st1 ?_ | (show CallQ ..; first | refine cF ?_ | refine cQ (fun hcc => (by first | exact c4 _)) ?_ | (refine lP ?_; refine lQ (fun hcc m => (by first | exact c4 _)) ?_)) | (show Fct ..; refine fctI (fun hf => ?_)) | (show XCallQ ..; first | refine xcF ?_ | refine xQ (fun hcc => (by first | exact c4 _)) ?_ | (refine xlP ?_; refine xlQ (fun hcc m => (by first | exact c4 _)) ?_)) | (show SWp _ _ _ (.region _ _ true) _ _ _ _; refine xG mixed [] ?_) | (show SWp _ _ _ (.cond _ _ _) _ _ _ _; first | (refine cB (fun hc => ?_) (fun hc => ?_) <;> first | exact False.elim hc | exact absurd hc Bool.false_ne_true | exact absurd hc.symm Bool.false_ne_true | skip) | refine cU ?_ ?_)))
  (((simp only [push_cast, reduceIte, reduceDIte, reduceCtorEq, Nat.reduceLT, Nat.reduceLeDiff, Nat.reduceEqDiff, Nat.reduceAdd, Nat.reduceMul, Nat.reduceBEq, Nat.reducePow, Int.zero_add, Int.reduceAdd, Int.reduceSub, Int.reduceLT, Int.reduceLE, Int.reduceToNat, Int.reduceNeg, Nat.reduceSub, Int.reduceBNe, Int.reduceBEq, Int.reduceTDiv, Int.reduceTMod, Int.reduceMul]); repeat (simp (disch := omega) only [idx_nat, idx_mapT, i64w, rows_getS, rows_get, getD_set_self, famR_get]; try (simp only [push_cast, reduceIte, reduceDIte, reduceCtorEq, Nat.reduceLT, Nat.reduceLeDiff, Nat.reduceEqDiff, Nat.reduceAdd, Nat.reduceMul, Nat.reduceBEq, Nat.reducePow, Int.zero_add, Int.reduceAdd, Int.reduceSub, Int.reduceLT, Int.reduceLE, Int.reduceToNat, Int.reduceNeg, Nat.reduceSub, Int.reduceBNe, Int.reduceBEq, Int.reduceTDiv, Int.reduceTMod, Int.reduceMul]))))

end Go.Proofs.Ytagalkckebffhaa
