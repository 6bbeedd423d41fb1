/-
  Contracts of functions of the program, over the engine.
  No condition.
-/
import Derived.Test.YtagalkckebffhaaCC1
namespace Go.Proofs.Ytagalkckebffhaa
open Go.Eng
set_option linter.all false
attribute [local irreducible] DCallsG SWp Fct CallQ XCallQ LCallQ XLCallQ drun xrun

abbrev li8 (n : Nat) : DV := lv (.int .u64 (n : Int))
abbrev rd (l : List UInt8) (e : Bool) : HV := .blk 88 [bys l, lb e]
def rdE (l : List UInt8) (e : Bool) (n : Nat) : Bool := e || decide (l.length < n)
def rdL (l : List UInt8) (e : Bool) (n : Nat) : List UInt8 := if rdE l e n = true then l else l.drop n
def rdV (l : List UInt8) (e : Bool) (n : Nat) : Int := if rdE l e n = true then 0 else IntKind.i64.wrap (numU (l.take n))
set_option maxHeartbeats 4000000 in
theorem number_f (l : List UInt8) (e : Bool) (n : Nat) (m : Nat) (hn : n ≤ 8) (hl : l.length ≤ 281474976710656) :
    DCalls Try.prog 45 [.ptr 0 0, li n] (hget [(0, rd l e)]) m (li (rdV l e n)) (hget [(0, rd (rdL l e n) (rdE l e n))]) := by
  cases e
  · by_cases h : (l.length : Int) < (n : Int)
    · (have := Nonempty.intro h)
      have hE : rdE l false n = true := by unfold rdE; rw [decide_eq_true (by omega)]; rfl
      rw [show rdL l false n = l by unfold rdL; rw [if_pos hE], show rdV l false n = 0 by unfold rdV; rw [if_pos hE], hE]
      refine contract (n := 56) (rs := [.tmp 4]) (ts := [3]) Try.func45 rfl (by decide) 1 1 [] [] [] (li 0) [(0, rd l true)] (by (exact SD)) (by (exact SD)) ?_
      (repeat' (first | refine swp_seq [0, 1, 4, 5, 7, 27, 33, 34, 35, 36] ?_ | refine st1 ?_ | (show Fct ..; refine fctI (fun hf => ?_)) | (show SWp _ _ _ (.region _ _ true) _ _ _ _; refine xG mixed [] ?_) | (show SWp _ _ _ (.cond _ _ _) _ _ _ _; first | (refine cB (fun hc => ?_) (fun hc => ?_) <;> first | exact False.elim hc | exact absurd hc Bool.false_ne_true | exact absurd hc.symm Bool.false_ne_true | skip) | refine cU ?_ ?_)))
      (((simp only [push_cast, reduceIte, reduceDIte, reduceCtorEq, Nat.reduceLT, Nat.reduceLeDiff, Nat.reduceEqDiff, Nat.reduceAdd, Nat.reduceMul, Nat.reduceBEq, Nat.reducePow, Int.zero_add, Int.reduceAdd, Int.reduceSub, Int.reduceLT, Int.reduceLE, Int.reduceToNat, Int.reduceNeg, Nat.reduceSub, Int.reduceBNe, Int.reduceBEq, Int.reduceTDiv, Int.reduceTMod, Int.reduceMul]); repeat (simp (disch := omega) only [idx_nat, idx_mapT, i64w, rows_getS, rows_get, getD_set_self, famR_get]; try (simp only [push_cast, reduceIte, reduceDIte, reduceCtorEq, Nat.reduceLT, Nat.reduceLeDiff, Nat.reduceEqDiff, Nat.reduceAdd, Nat.reduceMul, Nat.reduceBEq, Nat.reducePow, Int.zero_add, Int.reduceAdd, Int.reduceSub, Int.reduceLT, Int.reduceLE, Int.reduceToNat, Int.reduceNeg, Nat.reduceSub, Int.reduceBNe, Int.reduceBEq, Int.reduceTDiv, Int.reduceTMod, Int.reduceMul])))) <;> (exact SD)
    · (have := Nonempty.intro h)
      have hE : rdE l false n = false := by unfold rdE; rw [decide_eq_false (by omega)]; rfl
      have hE2 : ¬ rdE l false n = true := by rw [hE]; decide
      rw [show rdL l false n = l.drop n by unfold rdL; rw [if_neg hE2], show rdV l false n = IntKind.i64.wrap (numU (l.take n)) by unfold rdV; rw [if_neg hE2], hE]
      refine contract (n := 56) (rs := [.tmp 4]) (ts := [3]) Try.func45 rfl (by decide) 1 1 [] [] [] (li (IntKind.i64.wrap (numU (l.take n)))) [(0, rd (l.drop n) false)] (by (exact SD)) (by (exact SD)) ?_
      (repeat' (first | refine swp_seq [0, 1, 4, 5, 7, 27, 33, 34, 35, 36] ?_ | refine st1 ?_ | (show Fct ..; refine fctI (fun hf => ?_)) | (show SWp _ _ _ (.region _ _ true) _ _ _ _; refine xG mixed [] ?_) | (show SWp _ _ _ (.cond _ _ _) _ _ _ _; first | (refine cB (fun hc => ?_) (fun hc => ?_) <;> first | exact False.elim hc | exact absurd hc Bool.false_ne_true | exact absurd hc.symm Bool.false_ne_true | skip) | refine cU ?_ ?_)))
      have hv : (l.take n).length = n := by rw [List.length_take]; omega
      generalize hV : l.take n = v at *
      refine loop_swp [0, 1, 5, 33, 34, 35] [0] 1 (fun k A H => ∃ i : Nat, i ≤ v.length ∧ k = v.length - i ∧ A = [(0, .ptr 0 0), (1, li n), (5, li8 (numU (v.take i))), (33, bys v), (34, li v.length), (35, li i)] ∧ H = [(0, .blk 88 [bys l, lb false])]) (by omega) ?_ ?_ ?_
      · rintro k A H ⟨i, h1, h2, rfl, rfl⟩
        exact ⟨by (exact SD), by (exact SD)⟩
      · refine ⟨_, 0, by omega, rfl, ?_, ?_⟩
        · (((simp only [push_cast, reduceIte, reduceDIte, reduceCtorEq, Nat.reduceLT, Nat.reduceLeDiff, Nat.reduceEqDiff, Nat.reduceAdd, Nat.reduceMul, Nat.reduceBEq, Nat.reducePow, Int.zero_add, Int.reduceAdd, Int.reduceSub, Int.reduceLT, Int.reduceLE, Int.reduceToNat, Int.reduceNeg, Nat.reduceSub, Int.reduceBNe, Int.reduceBEq, Int.reduceTDiv, Int.reduceTMod, Int.reduceMul]); repeat (simp (disch := omega) only [idx_nat, idx_mapT, i64w, rows_getS, rows_get, getD_set_self, famR_get]; try (simp only [push_cast, reduceIte, reduceDIte, reduceCtorEq, Nat.reduceLT, Nat.reduceLeDiff, Nat.reduceEqDiff, Nat.reduceAdd, Nat.reduceMul, Nat.reduceBEq, Nat.reducePow, Int.zero_add, Int.reduceAdd, Int.reduceSub, Int.reduceLT, Int.reduceLE, Int.reduceToNat, Int.reduceNeg, Nat.reduceSub, Int.reduceBNe, Int.reduceBEq, Int.reduceTDiv, Int.reduceTMod, Int.reduceMul])))) <;> rfl
        · (((simp only [push_cast, reduceIte, reduceDIte, reduceCtorEq, Nat.reduceLT, Nat.reduceLeDiff, Nat.reduceEqDiff, Nat.reduceAdd, Nat.reduceMul, Nat.reduceBEq, Nat.reducePow, Int.zero_add, Int.reduceAdd, Int.reduceSub, Int.reduceLT, Int.reduceLE, Int.reduceToNat, Int.reduceNeg, Nat.reduceSub, Int.reduceBNe, Int.reduceBEq, Int.reduceTDiv, Int.reduceTMod, Int.reduceMul]); repeat (simp (disch := omega) only [idx_nat, idx_mapT, i64w, rows_getS, rows_get, getD_set_self, famR_get]; try (simp only [push_cast, reduceIte, reduceDIte, reduceCtorEq, Nat.reduceLT, Nat.reduceLeDiff, Nat.reduceEqDiff, Nat.reduceAdd, Nat.reduceMul, Nat.reduceBEq, Nat.reducePow, Int.zero_add, Int.reduceAdd, Int.reduceSub, Int.reduceLT, Int.reduceLE, Int.reduceToNat, Int.reduceNeg, Nat.reduceSub, Int.reduceBNe, Int.reduceBEq, Int.reduceTDiv, Int.reduceTMod, Int.reduceMul]))))
      rintro k A H ⟨i, h1, h2, rfl, rfl⟩
      by_cases hi : i < v.length
      · have hi3 : (i : Int) < (v.length : Int) := by omega
        (have := Nonempty.intro hi3)
        (repeat' (first | refine swp_seq [0, 1, 4, 5, 7, 27, 33, 34, 35, 36] ?_ | refine st1 ?_ | (show Fct ..; refine fctI (fun hf => ?_)) | (show SWp _ _ _ (.region _ _ true) _ _ _ _; refine xG mixed [] ?_) | (show SWp _ _ _ (.cond _ _ _) _ _ _ _; first | (refine cB (fun hc => ?_) (fun hc => ?_) <;> first | exact False.elim hc | exact absurd hc Bool.false_ne_true | exact absurd hc.symm Bool.false_ne_true | skip) | refine cU ?_ ?_)))
        (refine lN [0] ?_)
        exact ⟨_, by omega, i + 1, by omega, rfl, by rw [numU_snoc v i (by omega)]; rfl, rfl⟩
      have hi2 : i = v.length := by omega
      have hi3 : ¬ ((i : Int) < (v.length : Int)) := by omega
      (have := Nonempty.intro hi3)
      rw [hi2, List.take_length]
      have hi4 : ¬ ((v.length : Int) < (v.length : Int)) := by omega
      (have := Nonempty.intro hi4)
      (repeat' (first | refine swp_seq [0, 1, 4, 5, 7, 27, 33, 34, 35, 36] ?_ | refine st1 ?_ | (show Fct ..; refine fctI (fun hf => ?_)) | (show SWp _ _ _ (.region _ _ true) _ _ _ _; refine xG mixed [] ?_) | (show SWp _ _ _ (.cond _ _ _) _ _ _ _; first | (refine cB (fun hc => ?_) (fun hc => ?_) <;> first | exact False.elim hc | exact absurd hc Bool.false_ne_true | exact absurd hc.symm Bool.false_ne_true | skip) | refine cU ?_ ?_)))
      (((simp only [push_cast, reduceIte, reduceDIte, reduceCtorEq, Nat.reduceLT, Nat.reduceLeDiff, Nat.reduceEqDiff, Nat.reduceAdd, Nat.reduceMul, Nat.reduceBEq, Nat.reducePow, Int.zero_add, Int.reduceAdd, Int.reduceSub, Int.reduceLT, Int.reduceLE, Int.reduceToNat, Int.reduceNeg, Nat.reduceSub, Int.reduceBNe, Int.reduceBEq, Int.reduceTDiv, Int.reduceTMod, Int.reduceMul]); repeat (simp (disch := omega) only [idx_nat, idx_mapT, i64w, rows_getS, rows_get, getD_set_self, famR_get]; try (simp only [push_cast, reduceIte, reduceDIte, reduceCtorEq, Nat.reduceLT, Nat.reduceLeDiff, Nat.reduceEqDiff, Nat.reduceAdd, Nat.reduceMul, Nat.reduceBEq, Nat.reducePow, Int.zero_add, Int.reduceAdd, Int.reduceSub, Int.reduceLT, Int.reduceLE, Int.reduceToNat, Int.reduceNeg, Nat.reduceSub, Int.reduceBNe, Int.reduceBEq, Int.reduceTDiv, Int.reduceTMod, Int.reduceMul]))))
      rw [List.take_of_length_le (l := l.drop n) (by simp)]
      rfl
  · have hE : rdE l true n = true := rfl
    rw [show rdL l true n = l by unfold rdL; rw [if_pos hE], show rdV l true n = 0 by unfold rdV; rw [if_pos hE], hE]
    refine contract (n := 56) (rs := [.tmp 4]) (ts := [3]) Try.func45 rfl (by decide) 1 1 [] [] [] (li 0) [(0, rd l true)] (by (exact SD)) (by (exact SD)) ?_
    (repeat' (first | refine swp_seq [0, 1, 4, 5, 7, 27, 33, 34, 35, 36] ?_ | refine st1 ?_ | (show Fct ..; refine fctI (fun hf => ?_)) | (show SWp _ _ _ (.region _ _ true) _ _ _ _; refine xG mixed [] ?_) | (show SWp _ _ _ (.cond _ _ _) _ _ _ _; first | (refine cB (fun hc => ?_) (fun hc => ?_) <;> first | exact False.elim hc | exact absurd hc Bool.false_ne_true | exact absurd hc.symm Bool.false_ne_true | skip) | refine cU ?_ ?_)))
    (((simp only [push_cast, reduceIte, reduceDIte, reduceCtorEq, Nat.reduceLT, Nat.reduceLeDiff, Nat.reduceEqDiff, Nat.reduceAdd, Nat.reduceMul, Nat.reduceBEq, Nat.reducePow, Int.zero_add, Int.reduceAdd, Int.reduceSub, Int.reduceLT, Int.reduceLE, Int.reduceToNat, Int.reduceNeg, Nat.reduceSub, Int.reduceBNe, Int.reduceBEq, Int.reduceTDiv, Int.reduceTMod, Int.reduceMul]); repeat (simp (disch := omega) only [idx_nat, idx_mapT, i64w, rows_getS, rows_get, getD_set_self, famR_get]; try (simp only [push_cast, reduceIte, reduceDIte, reduceCtorEq, Nat.reduceLT, Nat.reduceLeDiff, Nat.reduceEqDiff, Nat.reduceAdd, Nat.reduceMul, Nat.reduceBEq, Nat.reducePow, Int.zero_add, Int.reduceAdd, Int.reduceSub, Int.reduceLT, Int.reduceLE, Int.reduceToNat, Int.reduceNeg, Nat.reduceSub, Int.reduceBNe, Int.reduceBEq, Int.reduceTDiv, Int.reduceTMod, Int.reduceMul])))) <;> (exact SD)
theorem mulAdd_u64 (x : Nat) (c : UInt8) : IntKind.u64.wrap (IntKind.u64.wrap ((x : Int) * 256) + (c.toNat : Int)) = (numStep x c : Nat) := by
  rw [u64w, u64w]; unfold numStep; omega
attribute [push_cast] mulAdd_u64
def tkV (l : List UInt8) (a c : Nat) : Int := IntKind.i64.wrap (numU ((l.drop a).take c))
set_option maxHeartbeats 2000000 in
theorem take_f (l : List UInt8) (a c : Nat) (m : Nat) (hl : l.length ≤ 281474976710656) (hc : a + c ≤ l.length) : DCalls Try.prog 48 [bys l, li a, li c] (hget []) m (li (tkV l a c)) (hget []) := by
  refine pureC (n := 26) (rs := [.tmp 6]) (ts := [3]) Try.func48 rfl (by decide) [] (by (exact SD)) ?_
  (repeat' (first | refine swp_seq [0, 1, 2, 6, 7, 8, 11] ?_ | refine st1 ?_ | (show Fct ..; refine fctI (fun hf => ?_)) | (show SWp _ _ _ (.region _ _ true) _ _ _ _; refine xG mixed [] ?_) | (show SWp _ _ _ (.cond _ _ _) _ _ _ _; first | (refine cB (fun hc => ?_) (fun hc => ?_) <;> first | exact False.elim hc | exact absurd hc Bool.false_ne_true | exact absurd hc.symm Bool.false_ne_true | skip) | refine cU ?_ ?_)))
  refine loop_swp [0, 1, 2, 7, 8] [] 0 (fun k A H => ∃ i : Nat, i ≤ c ∧ k = c - i ∧ A = [(0, bys l), (1, li a), (2, li c), (7, li8 (numU ((l.drop a).take i))), (8, li i)] ∧ H = []) (by omega) ?_ ?_ ?_
  · rintro k A H ⟨i, g1, g2, rfl, rfl⟩
    exact ⟨by (exact SD), by (exact SD)⟩
  · refine ⟨_, 0, by omega, rfl, ?_, ?_⟩
    · (((simp only [push_cast, reduceIte, reduceDIte, reduceCtorEq, Nat.reduceLT, Nat.reduceLeDiff, Nat.reduceEqDiff, Nat.reduceAdd, Nat.reduceMul, Nat.reduceBEq, Nat.reducePow, Int.zero_add, Int.reduceAdd, Int.reduceSub, Int.reduceLT, Int.reduceLE, Int.reduceToNat, Int.reduceNeg, Nat.reduceSub, Int.reduceBNe, Int.reduceBEq, Int.reduceTDiv, Int.reduceTMod, Int.reduceMul]); repeat (simp (disch := omega) only [idx_nat, idx_mapT, i64w, rows_getS, rows_get, getD_set_self, famR_get]; try (simp only [push_cast, reduceIte, reduceDIte, reduceCtorEq, Nat.reduceLT, Nat.reduceLeDiff, Nat.reduceEqDiff, Nat.reduceAdd, Nat.reduceMul, Nat.reduceBEq, Nat.reducePow, Int.zero_add, Int.reduceAdd, Int.reduceSub, Int.reduceLT, Int.reduceLE, Int.reduceToNat, Int.reduceNeg, Nat.reduceSub, Int.reduceBNe, Int.reduceBEq, Int.reduceTDiv, Int.reduceTMod, Int.reduceMul])))) <;> rfl
    · (((simp only [push_cast, reduceIte, reduceDIte, reduceCtorEq, Nat.reduceLT, Nat.reduceLeDiff, Nat.reduceEqDiff, Nat.reduceAdd, Nat.reduceMul, Nat.reduceBEq, Nat.reducePow, Int.zero_add, Int.reduceAdd, Int.reduceSub, Int.reduceLT, Int.reduceLE, Int.reduceToNat, Int.reduceNeg, Nat.reduceSub, Int.reduceBNe, Int.reduceBEq, Int.reduceTDiv, Int.reduceTMod, Int.reduceMul]); repeat (simp (disch := omega) only [idx_nat, idx_mapT, i64w, rows_getS, rows_get, getD_set_self, famR_get]; try (simp only [push_cast, reduceIte, reduceDIte, reduceCtorEq, Nat.reduceLT, Nat.reduceLeDiff, Nat.reduceEqDiff, Nat.reduceAdd, Nat.reduceMul, Nat.reduceBEq, Nat.reducePow, Int.zero_add, Int.reduceAdd, Int.reduceSub, Int.reduceLT, Int.reduceLE, Int.reduceToNat, Int.reduceNeg, Nat.reduceSub, Int.reduceBNe, Int.reduceBEq, Int.reduceTDiv, Int.reduceTMod, Int.reduceMul]))))
  rintro k A H ⟨i, g1, g2, rfl, rfl⟩
  by_cases hi : i < c
  · have hi3 : (i : Int) < (c : Int) := by omega
    (have := Nonempty.intro hi3)
    have hw : IntKind.i64.wrap ((a : Int) + (i : Int)) = ((a + i : Nat) : Int) := i64w (by omega)
    (repeat' (first | refine swp_seq [0, 1, 2, 6, 7, 8, 11] ?_ | refine st1 ?_ | (show Fct ..; refine fctI (fun hf => ?_)) | (show SWp _ _ _ (.region _ _ true) _ _ _ _; refine xG mixed [] ?_) | (show SWp _ _ _ (.cond _ _ _) _ _ _ _; first | (refine cB (fun hc => ?_) (fun hc => ?_) <;> first | exact False.elim hc | exact absurd hc Bool.false_ne_true | exact absurd hc.symm Bool.false_ne_true | skip) | refine cU ?_ ?_)))
    (refine lN [] ?_)
    refine ⟨_, by omega, i + 1, by omega, rfl, ?_, rfl⟩
    rw [numU_snoc (l.drop a) i (by rw [List.length_drop]; omega)]
    have : (l.drop a).getD i default = l.getD ((a : Int) + (i : Int)).toNat default := by
      have : ((a : Int) + (i : Int)).toNat = a + i := by omega
      rw [this]; simp [List.getD_eq_getElem?_getD, List.getElem?_drop]
    rw [this]; rfl
  have hi2 : i = c := by omega
  have hi3 : ¬ ((i : Int) < (c : Int)) := by omega
  (have := Nonempty.intro hi3)
  (repeat' (first | refine swp_seq [0, 1, 2, 6, 7, 8, 11] ?_ | refine st1 ?_ | (show Fct ..; refine fctI (fun hf => ?_)) | (show SWp _ _ _ (.region _ _ true) _ _ _ _; refine xG mixed [] ?_) | (show SWp _ _ _ (.cond _ _ _) _ _ _ _; first | (refine cB (fun hc => ?_) (fun hc => ?_) <;> first | exact False.elim hc | exact absurd hc Bool.false_ne_true | exact absurd hc.symm Bool.false_ne_true | skip) | refine cU ?_ ?_)))
  (((simp only [push_cast, reduceIte, reduceDIte, reduceCtorEq, Nat.reduceLT, Nat.reduceLeDiff, Nat.reduceEqDiff, Nat.reduceAdd, Nat.reduceMul, Nat.reduceBEq, Nat.reducePow, Int.zero_add, Int.reduceAdd, Int.reduceSub, Int.reduceLT, Int.reduceLE, Int.reduceToNat, Int.reduceNeg, Nat.reduceSub, Int.reduceBNe, Int.reduceBEq, Int.reduceTDiv, Int.reduceTMod, Int.reduceMul]); repeat (simp (disch := omega) only [idx_nat, idx_mapT, i64w, rows_getS, rows_get, getD_set_self, famR_get]; try (simp only [push_cast, reduceIte, reduceDIte, reduceCtorEq, Nat.reduceLT, Nat.reduceLeDiff, Nat.reduceEqDiff, Nat.reduceAdd, Nat.reduceMul, Nat.reduceBEq, Nat.reducePow, Int.zero_add, Int.reduceAdd, Int.reduceSub, Int.reduceLT, Int.reduceLE, Int.reduceToNat, Int.reduceNeg, Nat.reduceSub, Int.reduceBNe, Int.reduceBEq, Int.reduceTDiv, Int.reduceTMod, Int.reduceMul]))))
  rw [hi2]; rfl

end Go.Proofs.Ytagalkckebffhaa
