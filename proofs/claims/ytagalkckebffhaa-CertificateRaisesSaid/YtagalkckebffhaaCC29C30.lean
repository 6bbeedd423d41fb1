/-
  Contracts of functions of the program, over the engine.
  No condition.
-/
import Derived.Test.YtagalkckebffhaaCC0KSK1
namespace Go.Proofs.Ytagalkckebffhaa
open Go.Eng
set_option linter.all false
attribute [local irreducible] DCallsG SWp Fct CallQ XCallQ LCallQ XLCallQ drun xrun

theorem rall_true {n : Nat} {f : Nat → Bool} (h : ∀ i, i < n → f i = true) : (List.range n).all f = true := List.all_eq_true.2 fun i hi => h i (List.mem_range.1 hi)
theorem rall_false {n i : Nat} {f : Nat → Bool} (hi : i < n) (h : f i = false) : (List.range n).all f = false := by
  rw [List.all_eq_false]; exact ⟨i, List.mem_range.2 hi, by simp [h]⟩
def fitsB (n : Int) : Bool := decide (-1125899906842624 ≤ n) && decide (n ≤ 1125899906842624)
def tabR (t : List Knot) (i : Nat) : Bool := fitsB (t.getD i default).x && fitsB (t.getD i default).y && (decide (i = 0) || (decide ((t.getD (i - 1) default).x < (t.getD i default).x) && decide ((t.getD (i - 1) default).y ≤ (t.getD i default).y)))
def tabB (t : List Knot) : Bool := decide (1 ≤ t.length) && decide (t.length ≤ 100) && (List.range t.length).all (tabR t)
theorem fitsT_f (n : Int) (m : Nat) : DCalls Try.prog 89 [li n] (hget []) m (lb (fitsB n)) (hget []) := by
  refine pureC (n := 9) (rs := [.tmp 2]) (ts := [4]) Try.func89 rfl (by decide) [] (by (exact SD)) ?_
  (repeat' (first | refine swp_seq [0, 2] ?_ | refine st1 ?_ | (show Fct ..; refine fctI (fun hf => ?_)) | (show SWp _ _ _ (.cond _ _ _) _ _ _ _; first | (refine cB (fun hc => ?_) (fun hc => ?_) <;> first | exact False.elim hc | exact absurd hc Bool.false_ne_true | exact absurd hc.symm Bool.false_ne_true | skip) | refine cU ?_ ?_)))
  (((simp only [push_cast, reduceIte, reduceDIte, reduceCtorEq, Nat.reduceLT, Nat.reduceLeDiff, Nat.reduceEqDiff, Nat.reduceAdd, Nat.reduceMul, Nat.reduceBEq, Nat.reducePow, Int.zero_add, Int.reduceAdd, Int.reduceSub, Int.reduceLT, Int.reduceLE, Int.reduceToNat, Int.reduceNeg, Nat.reduceSub, Int.reduceBNe, Int.reduceBEq, Int.reduceTDiv, Int.reduceTMod, Int.reduceMul]); repeat (simp (disch := omega) only [idx_nat, idx_mapT, i64w, rows_getS, rows_get, getD_set_self, famR_get]; try (simp only [push_cast, reduceIte, reduceDIte, reduceCtorEq, Nat.reduceLT, Nat.reduceLeDiff, Nat.reduceEqDiff, Nat.reduceAdd, Nat.reduceMul, Nat.reduceBEq, Nat.reducePow, Int.zero_add, Int.reduceAdd, Int.reduceSub, Int.reduceLT, Int.reduceLE, Int.reduceToNat, Int.reduceNeg, Nat.reduceSub, Int.reduceBNe, Int.reduceBEq, Int.reduceTDiv, Int.reduceTMod, Int.reduceMul])))); rfl
theorem rNumber_f (n : Int) (m : Nat) : DCalls Try.prog 82 [li n] (hget []) m (lb (fitsB n)) (hget []) := by
  refine pureC (n := 9) (rs := [.tmp 2]) (ts := [4]) Try.func82 rfl (by decide) [] (by (exact SD)) ?_
  (repeat' (first | refine swp_seq [0, 2] ?_ | refine st1 ?_ | (show Fct ..; refine fctI (fun hf => ?_)) | (show SWp _ _ _ (.cond _ _ _) _ _ _ _; first | (refine cB (fun hc => ?_) (fun hc => ?_) <;> first | exact False.elim hc | exact absurd hc Bool.false_ne_true | exact absurd hc.symm Bool.false_ne_true | skip) | refine cU ?_ ?_)))
  (((simp only [push_cast, reduceIte, reduceDIte, reduceCtorEq, Nat.reduceLT, Nat.reduceLeDiff, Nat.reduceEqDiff, Nat.reduceAdd, Nat.reduceMul, Nat.reduceBEq, Nat.reducePow, Int.zero_add, Int.reduceAdd, Int.reduceSub, Int.reduceLT, Int.reduceLE, Int.reduceToNat, Int.reduceNeg, Nat.reduceSub, Int.reduceBNe, Int.reduceBEq, Int.reduceTDiv, Int.reduceTMod, Int.reduceMul]); repeat (simp (disch := omega) only [idx_nat, idx_mapT, i64w, rows_getS, rows_get, getD_set_self, famR_get]; try (simp only [push_cast, reduceIte, reduceDIte, reduceCtorEq, Nat.reduceLT, Nat.reduceLeDiff, Nat.reduceEqDiff, Nat.reduceAdd, Nat.reduceMul, Nat.reduceBEq, Nat.reducePow, Int.zero_add, Int.reduceAdd, Int.reduceSub, Int.reduceLT, Int.reduceLE, Int.reduceToNat, Int.reduceNeg, Nat.reduceSub, Int.reduceBNe, Int.reduceBEq, Int.reduceTDiv, Int.reduceTMod, Int.reduceMul])))); rfl
theorem callT {g : FuncId} {C : List Nat} {args : List DV} {h h' : Nat → Option HV} {m : Nat} {d : DV} (k : DCallsG Try.prog g C args h m d h' := by first | exact fitsT_f _ _ | exact rNumber_f _ _) : DCallsG Try.prog g C args h m d h' := k
set_option maxHeartbeats 1000000 in
theorem tab_f (t : List Knot) (m : Nat) (hl : t.length ≤ 281474976710656) : DCalls Try.prog 84 [knotL t] (hget []) m (lb (tabB t)) (hget []) := by
  refine pureC (n := 57) (rs := [.tmp 2]) (ts := [4]) Try.func84 rfl (by decide) [] (by (exact SD)) ?_
  (repeat' (first | refine swp_seq [0, 2, 3, 4, 12, 13, 14, 15, 16, 55] ?_ | refine st1 ?_ | (show Fct ..; refine fctI (fun hf => ?_)) | (show SWp _ _ _ (.region _ _ true) _ _ _ _; refine xG mixed [] ?_) | (show SWp _ _ _ (.cond _ _ _) _ _ _ _; first | (refine cB (fun hc => ?_) (fun hc => ?_) <;> first | exact False.elim hc | exact absurd hc Bool.false_ne_true | exact absurd hc.symm Bool.false_ne_true | skip) | refine cU ?_ ?_)))
  · (((simp only [push_cast, reduceIte, reduceDIte, reduceCtorEq, Nat.reduceLT, Nat.reduceLeDiff, Nat.reduceEqDiff, Nat.reduceAdd, Nat.reduceMul, Nat.reduceBEq, Nat.reducePow, Int.zero_add, Int.reduceAdd, Int.reduceSub, Int.reduceLT, Int.reduceLE, Int.reduceToNat, Int.reduceNeg, Nat.reduceSub, Int.reduceBNe, Int.reduceBEq, Int.reduceTDiv, Int.reduceTMod, Int.reduceMul]); repeat (simp (disch := omega) only [idx_nat, idx_mapT, i64w, rows_getS, rows_get, getD_set_self, famR_get]; try (simp only [push_cast, reduceIte, reduceDIte, reduceCtorEq, Nat.reduceLT, Nat.reduceLeDiff, Nat.reduceEqDiff, Nat.reduceAdd, Nat.reduceMul, Nat.reduceBEq, Nat.reducePow, Int.zero_add, Int.reduceAdd, Int.reduceSub, Int.reduceLT, Int.reduceLE, Int.reduceToNat, Int.reduceNeg, Nat.reduceSub, Int.reduceBNe, Int.reduceBEq, Int.reduceTDiv, Int.reduceTMod, Int.reduceMul]))))
    refine lbC ?_
    unfold tabB
    rcases hc with h | h
    · rw [decide_eq_false (by omega)]; rfl
    · rw [decide_eq_false (p := t.length ≤ 100) (by omega)]; simp
  · refine loop_swp [0, 13, 14, 15] [] 0 (fun q A H => ∃ i : Nat, i ≤ t.length ∧ q = t.length - i ∧ (∀ j, j < i → tabR t j = true) ∧ A = [(0, knotL t), (13, knotL t), (14, li t.length), (15, li i)] ∧ H = []) (by omega) ?_ ?_ ?_
    · rintro q A H ⟨i, h1, h2, h3, rfl, rfl⟩
      exact ⟨by (exact SD), by (exact SD)⟩
    · refine ⟨_, 0, by omega, rfl, by omega, ?_, ?_⟩
      · exact DVR
      · exact DVR
    · rintro q A H ⟨i, h1, h2, h3, rfl, rfl⟩
      (repeat' (first | refine swp_seq [0, 2, 3, 4, 12, 13, 14, 15, 16, 55] ?_ | refine st1 ?_ | (show CallQ ..; first | refine cF ?_ | refine cQ (fun hcc => callT) ?_ | (refine lP ?_; refine lQ (fun hcc m => callT) ?_)) | (show Fct ..; refine fctI (fun hf => ?_)) | (show XCallQ ..; first | refine xcF ?_ | refine xQ (fun hcc => callT) ?_ | (refine xlP ?_; refine xlQ (fun hcc m => callT) ?_)) | (show SWp _ _ _ (.region _ _ true) _ _ _ _; refine xG mixed [] ?_) | (show SWp _ _ _ (.cond _ _ _) _ _ _ _; first | (refine cB (fun hc => ?_) (fun hc => ?_) <;> first | exact False.elim hc | exact absurd hc Bool.false_ne_true | exact absurd hc.symm Bool.false_ne_true | skip) | refine cU ?_ ?_)))
      · (((simp only [push_cast, reduceIte, reduceDIte, reduceCtorEq, Nat.reduceLT, Nat.reduceLeDiff, Nat.reduceEqDiff, Nat.reduceAdd, Nat.reduceMul, Nat.reduceBEq, Nat.reducePow, Int.zero_add, Int.reduceAdd, Int.reduceSub, Int.reduceLT, Int.reduceLE, Int.reduceToNat, Int.reduceNeg, Nat.reduceSub, Int.reduceBNe, Int.reduceBEq, Int.reduceTDiv, Int.reduceTMod, Int.reduceMul]); repeat (simp (disch := omega) only [idx_nat, idx_mapT, i64w, rows_getS, rows_get, getD_set_self, famR_get]; try (simp only [push_cast, reduceIte, reduceDIte, reduceCtorEq, Nat.reduceLT, Nat.reduceLeDiff, Nat.reduceEqDiff, Nat.reduceAdd, Nat.reduceMul, Nat.reduceBEq, Nat.reducePow, Int.zero_add, Int.reduceAdd, Int.reduceSub, Int.reduceLT, Int.reduceLE, Int.reduceToNat, Int.reduceNeg, Nat.reduceSub, Int.reduceBNe, Int.reduceBEq, Int.reduceTDiv, Int.reduceTMod, Int.reduceMul]))))
        refine lbC ?_
        rw [tabB, rall_false (i := i) (by omega) (by unfold tabR; grind)]; simp
      · (refine lN [] ?_)
        exact ⟨_, by omega, i + 1, by omega, rfl, fun j hj => by
          by_cases e : j = i
          · subst e; unfold tabR; grind
          · exact h3 j (by omega), rfl, rfl⟩
      · (((simp only [push_cast, reduceIte, reduceDIte, reduceCtorEq, Nat.reduceLT, Nat.reduceLeDiff, Nat.reduceEqDiff, Nat.reduceAdd, Nat.reduceMul, Nat.reduceBEq, Nat.reducePow, Int.zero_add, Int.reduceAdd, Int.reduceSub, Int.reduceLT, Int.reduceLE, Int.reduceToNat, Int.reduceNeg, Nat.reduceSub, Int.reduceBNe, Int.reduceBEq, Int.reduceTDiv, Int.reduceTMod, Int.reduceMul]); repeat (simp (disch := omega) only [idx_nat, idx_mapT, i64w, rows_getS, rows_get, getD_set_self, famR_get]; try (simp only [push_cast, reduceIte, reduceDIte, reduceCtorEq, Nat.reduceLT, Nat.reduceLeDiff, Nat.reduceEqDiff, Nat.reduceAdd, Nat.reduceMul, Nat.reduceBEq, Nat.reducePow, Int.zero_add, Int.reduceAdd, Int.reduceSub, Int.reduceLT, Int.reduceLE, Int.reduceToNat, Int.reduceNeg, Nat.reduceSub, Int.reduceBNe, Int.reduceBEq, Int.reduceTDiv, Int.reduceTMod, Int.reduceMul]))))
        refine lbC ?_
        rw [tabB, rall_true fun j hj => h3 j (by omega)]
        simp; omega
set_option maxHeartbeats 1000000 in
theorem rTab_f (t : List Knot) (m : Nat) (hl : t.length ≤ 281474976710656) : DCalls Try.prog 65 [knotL t] (hget []) m (lb (tabB t)) (hget []) := by
  refine pureC (n := 64) (rs := [.tmp 2]) (ts := [4]) Try.func65 rfl (by decide) [] (by (exact SD)) ?_
  (repeat' (first | refine swp_seq [0, 2, 3, 11, 15, 33, 63] ?_ | refine st1 ?_ | (show Fct ..; refine fctI (fun hf => ?_)) | (show SWp _ _ _ (.region _ _ true) _ _ _ _; refine xG mixed [] ?_) | (show SWp _ _ _ (.cond _ _ _) _ _ _ _; first | (refine cB (fun hc => ?_) (fun hc => ?_) <;> first | exact False.elim hc | exact absurd hc Bool.false_ne_true | exact absurd hc.symm Bool.false_ne_true | skip) | refine cU ?_ ?_)))
  · (((simp only [push_cast, reduceIte, reduceDIte, reduceCtorEq, Nat.reduceLT, Nat.reduceLeDiff, Nat.reduceEqDiff, Nat.reduceAdd, Nat.reduceMul, Nat.reduceBEq, Nat.reducePow, Int.zero_add, Int.reduceAdd, Int.reduceSub, Int.reduceLT, Int.reduceLE, Int.reduceToNat, Int.reduceNeg, Nat.reduceSub, Int.reduceBNe, Int.reduceBEq, Int.reduceTDiv, Int.reduceTMod, Int.reduceMul]); repeat (simp (disch := omega) only [idx_nat, idx_mapT, i64w, rows_getS, rows_get, getD_set_self, famR_get]; try (simp only [push_cast, reduceIte, reduceDIte, reduceCtorEq, Nat.reduceLT, Nat.reduceLeDiff, Nat.reduceEqDiff, Nat.reduceAdd, Nat.reduceMul, Nat.reduceBEq, Nat.reducePow, Int.zero_add, Int.reduceAdd, Int.reduceSub, Int.reduceLT, Int.reduceLE, Int.reduceToNat, Int.reduceNeg, Nat.reduceSub, Int.reduceBNe, Int.reduceBEq, Int.reduceTDiv, Int.reduceTMod, Int.reduceMul]))))
    refine lbC ?_
    unfold tabB
    rcases hc with h | h
    · rw [decide_eq_false (by omega)]; rfl
    · rw [decide_eq_false (p := t.length ≤ 100) (by omega)]; simp
  · refine loop_swp [0, 3] [] 0 (fun q A H => ∃ i : Nat, i ≤ t.length ∧ q = t.length - i ∧ (∀ j, j < i → tabR t j = true) ∧ A = [(0, knotL t), (3, li i)] ∧ H = []) (by omega) ?_ ?_ ?_
    · rintro q A H ⟨i, h1, h2, h3, rfl, rfl⟩
      exact ⟨by (exact SD), by (exact SD)⟩
    · refine ⟨_, 0, by omega, rfl, by omega, ?_, ?_⟩
      · exact DVR
      · exact DVR
    · rintro q A H ⟨i, h1, h2, h3, rfl, rfl⟩
      (repeat' (first | refine swp_seq [0, 2, 3, 11, 15, 33, 63] ?_ | refine st1 ?_ | (show CallQ ..; first | refine cF ?_ | refine cQ (fun hcc => callT) ?_ | (refine lP ?_; refine lQ (fun hcc m => callT) ?_)) | (show Fct ..; refine fctI (fun hf => ?_)) | (show XCallQ ..; first | refine xcF ?_ | refine xQ (fun hcc => callT) ?_ | (refine xlP ?_; refine xlQ (fun hcc m => callT) ?_)) | (show SWp _ _ _ (.region _ _ true) _ _ _ _; refine xG mixed [] ?_) | (show SWp _ _ _ (.cond _ _ _) _ _ _ _; first | (refine cB (fun hc => ?_) (fun hc => ?_) <;> first | exact False.elim hc | exact absurd hc Bool.false_ne_true | exact absurd hc.symm Bool.false_ne_true | skip) | refine cU ?_ ?_)))
      · (((simp only [push_cast, reduceIte, reduceDIte, reduceCtorEq, Nat.reduceLT, Nat.reduceLeDiff, Nat.reduceEqDiff, Nat.reduceAdd, Nat.reduceMul, Nat.reduceBEq, Nat.reducePow, Int.zero_add, Int.reduceAdd, Int.reduceSub, Int.reduceLT, Int.reduceLE, Int.reduceToNat, Int.reduceNeg, Nat.reduceSub, Int.reduceBNe, Int.reduceBEq, Int.reduceTDiv, Int.reduceTMod, Int.reduceMul]); repeat (simp (disch := omega) only [idx_nat, idx_mapT, i64w, rows_getS, rows_get, getD_set_self, famR_get]; try (simp only [push_cast, reduceIte, reduceDIte, reduceCtorEq, Nat.reduceLT, Nat.reduceLeDiff, Nat.reduceEqDiff, Nat.reduceAdd, Nat.reduceMul, Nat.reduceBEq, Nat.reducePow, Int.zero_add, Int.reduceAdd, Int.reduceSub, Int.reduceLT, Int.reduceLE, Int.reduceToNat, Int.reduceNeg, Nat.reduceSub, Int.reduceBNe, Int.reduceBEq, Int.reduceTDiv, Int.reduceTMod, Int.reduceMul]))))
        refine lbC ?_
        rw [tabB, rall_false (i := i) (by omega) (by unfold tabR; grind)]; simp
      · (((simp only [push_cast, reduceIte, reduceDIte, reduceCtorEq, Nat.reduceLT, Nat.reduceLeDiff, Nat.reduceEqDiff, Nat.reduceAdd, Nat.reduceMul, Nat.reduceBEq, Nat.reducePow, Int.zero_add, Int.reduceAdd, Int.reduceSub, Int.reduceLT, Int.reduceLE, Int.reduceToNat, Int.reduceNeg, Nat.reduceSub, Int.reduceBNe, Int.reduceBEq, Int.reduceTDiv, Int.reduceTMod, Int.reduceMul]); repeat (simp (disch := omega) only [idx_nat, idx_mapT, i64w, rows_getS, rows_get, getD_set_self, famR_get]; try (simp only [push_cast, reduceIte, reduceDIte, reduceCtorEq, Nat.reduceLT, Nat.reduceLeDiff, Nat.reduceEqDiff, Nat.reduceAdd, Nat.reduceMul, Nat.reduceBEq, Nat.reducePow, Int.zero_add, Int.reduceAdd, Int.reduceSub, Int.reduceLT, Int.reduceLE, Int.reduceToNat, Int.reduceNeg, Nat.reduceSub, Int.reduceBNe, Int.reduceBEq, Int.reduceTDiv, Int.reduceTMod, Int.reduceMul]))))
        refine lbC ?_
        rw [tabB, rall_false (i := i) (by omega) (by unfold tabR; grind)]; simp
      · (refine lN [] ?_)
        exact ⟨_, by omega, i + 1, by omega, rfl, fun j hj => by
          by_cases e : j = i
          · subst e; unfold tabR; grind
          · exact h3 j (by omega), rfl, rfl⟩
      · (((simp only [push_cast, reduceIte, reduceDIte, reduceCtorEq, Nat.reduceLT, Nat.reduceLeDiff, Nat.reduceEqDiff, Nat.reduceAdd, Nat.reduceMul, Nat.reduceBEq, Nat.reducePow, Int.zero_add, Int.reduceAdd, Int.reduceSub, Int.reduceLT, Int.reduceLE, Int.reduceToNat, Int.reduceNeg, Nat.reduceSub, Int.reduceBNe, Int.reduceBEq, Int.reduceTDiv, Int.reduceTMod, Int.reduceMul]); repeat (simp (disch := omega) only [idx_nat, idx_mapT, i64w, rows_getS, rows_get, getD_set_self, famR_get]; try (simp only [push_cast, reduceIte, reduceDIte, reduceCtorEq, Nat.reduceLT, Nat.reduceLeDiff, Nat.reduceEqDiff, Nat.reduceAdd, Nat.reduceMul, Nat.reduceBEq, Nat.reducePow, Int.zero_add, Int.reduceAdd, Int.reduceSub, Int.reduceLT, Int.reduceLE, Int.reduceToNat, Int.reduceNeg, Nat.reduceSub, Int.reduceBNe, Int.reduceBEq, Int.reduceTDiv, Int.reduceTMod, Int.reduceMul]))))
        refine lbC ?_
        rw [tabB, rall_true fun j hj => h3 j (by omega)]
        simp; omega
def volP (n : Int) : Bool := decide (0 ≤ n) && decide (n ≤ 1099511627776)
def relR (l : List Int) (i : Nat) : Bool := volP (l.getD i default) && (decide (i = 0) || decide (l.getD (i - 1) default < l.getD i default))
def headB (p : Plan) : Bool := (decide (1 ≤ p.cap) && decide (p.cap ≤ 1099511627776)) && (decide (0 ≤ p.res) && decide (p.res ≤ p.cap)) && (decide (p.res ≤ p.start) && decide (p.start ≤ p.cap)) && decide (p.inf.length ≤ 200) && (decide (1 ≤ p.rel.length) && decide (p.rel.length ≤ 20)) && (decide (0 ≤ p.wei) && decide (p.wei ≤ 1000)) && tabB p.pen
def planB (p : Plan) : Bool := headB p && (List.range p.inf.length).all (fun i => volP (p.inf.getD i default)) && (List.range p.rel.length).all (relR p.rel) && (decide (0 ≤ (p.pen.getD 0 default).y) && decide ((p.pen.getD (p.pen.length - 1) default).y ≤ 1099511627776))
theorem withinP_f (n a b : Int) (m : Nat) : DCalls Try.prog 83 [li n, li a, li b] (hget []) m (lb (decide (a ≤ n) && decide (n ≤ b))) (hget []) := by
  refine pureC (n := 15) (rs := [.tmp 6]) (ts := [4]) Try.func83 rfl (by decide) [] (by (exact SD)) ?_
  (repeat' (first | refine swp_seq [0, 1, 2, 6] ?_ | refine st1 ?_ | (show Fct ..; refine fctI (fun hf => ?_)) | (show SWp _ _ _ (.cond _ _ _) _ _ _ _; first | (refine cB (fun hc => ?_) (fun hc => ?_) <;> first | exact False.elim hc | exact absurd hc Bool.false_ne_true | exact absurd hc.symm Bool.false_ne_true | skip) | refine cU ?_ ?_)))
  exact DVR
set_option maxRecDepth 20000 in
set_option maxHeartbeats 8000000 in
theorem pValid_f (p : Plan) (m : Nat) (hp : planOk p) : DCalls Try.prog 68 [planD p] (hget []) m (lb (planB p)) (hget []) := by
  obtain ⟨k1, k2, k3, k4, k5, k6, k7⟩ := hp
  have ct := fun m => tab_f p.pen m k6.1
  refine pureC (n := 109) (rs := [.tmp 2]) (ts := [4]) Try.func68 rfl (by decide) [] (by (exact SD)) ?_
  (repeat' (first | refine swp_seq [0, 1, 2, 4, 5, 6, 53, 55, 56, 57, 58, 63, 66, 67, 68, 69, 89] ?_ | refine st1 ?_ | (show CallQ ..; first | refine cF ?_ | refine cQ (fun hcc => (by first | exact withinP_f _ _ _ _ | exact ct _)) ?_ | (refine lP ?_; refine lQ (fun hcc m => (by first | exact withinP_f _ _ _ _ | exact ct _)) ?_)) | (show Fct ..; refine fctI (fun hf => ?_)) | (show SWp _ _ _ (.cond _ _ _) _ _ _ _; first | (refine cB (fun hc => ?_) (fun hc => ?_) <;> first | exact False.elim hc | exact absurd hc Bool.false_ne_true | exact absurd hc.symm Bool.false_ne_true | skip) | refine cU ?_ ?_)))
  · have h0 : headB p = false := by unfold headB; grind
    (((simp only [push_cast, reduceIte, reduceDIte, reduceCtorEq, Nat.reduceLT, Nat.reduceLeDiff, Nat.reduceEqDiff, Nat.reduceAdd, Nat.reduceMul, Nat.reduceBEq, Nat.reducePow, Int.zero_add, Int.reduceAdd, Int.reduceSub, Int.reduceLT, Int.reduceLE, Int.reduceToNat, Int.reduceNeg, Nat.reduceSub, Int.reduceBNe, Int.reduceBEq, Int.reduceTDiv, Int.reduceTMod, Int.reduceMul]); repeat (simp (disch := omega) only [idx_nat, idx_mapT, i64w, rows_getS, rows_get, getD_set_self, famR_get]; try (simp only [push_cast, reduceIte, reduceDIte, reduceCtorEq, Nat.reduceLT, Nat.reduceLeDiff, Nat.reduceEqDiff, Nat.reduceAdd, Nat.reduceMul, Nat.reduceBEq, Nat.reducePow, Int.zero_add, Int.reduceAdd, Int.reduceSub, Int.reduceLT, Int.reduceLE, Int.reduceToNat, Int.reduceNeg, Nat.reduceSub, Int.reduceBNe, Int.reduceBEq, Int.reduceTDiv, Int.reduceTMod, Int.reduceMul]))))
    refine lbC ?_
    unfold planB; rw [h0]; rfl
  have h0 : headB p = true := by unfold headB; grind
  have hpl : 1 ≤ p.pen.length := by
    unfold headB at h0
    simp only [Bool.and_eq_true] at h0
    have := h0.2
    unfold tabB at this
    simp only [Bool.and_eq_true, decide_eq_true_eq] at this
    exact this.1.1
  refine loop_swp [1, 55, 56, 57] [0] 1 (fun q A H => ∃ i : Nat, i ≤ p.inf.length ∧ q = p.inf.length - i ∧ (∀ j, j < i → volP (p.inf.getD j default) = true) ∧ A = [(1, .ptr 0 0), (55, ints p.inf), (56, li p.inf.length), (57, li i)] ∧ H = [(0, .blk 26 (planC p))]) (by omega) ?_ ?_ ?_
  · rintro q A H ⟨i, g1, g2, g3, rfl, rfl⟩
    exact ⟨by (exact SD), by (exact SD)⟩
  · refine ⟨_, 0, by omega, rfl, by omega, ?_, ?_⟩
    · exact DVR
    · exact DVR
  rintro q A H ⟨i, g1, g2, g3, rfl, rfl⟩
  by_cases hi : i < p.inf.length
  · have hi3 : (i : Int) < (p.inf.length : Int) := by omega
    (have := Nonempty.intro hi3)
    have cw : ∀ m, DCalls Try.prog 83 [li (p.inf.getD i default), li 0, li 1099511627776] (hget []) m (lb (volP (p.inf.getD i default))) (hget []) := fun m => withinP_f _ 0 1099511627776 m
    cases hv : volP (p.inf.getD i default) <;> simp only [hv] at cw
    · (repeat' (first | refine swp_seq [0, 1, 2, 4, 5, 6, 53, 55, 56, 57, 58, 63, 66, 67, 68, 69, 89] ?_ | refine st1 ?_ | (show CallQ ..; first | refine cF ?_ | refine cQ (fun hcc => (cw _)) ?_ | (refine lP ?_; refine lQ (fun hcc m => (cw _)) ?_)) | (show Fct ..; refine fctI (fun hf => ?_)) | (show SWp _ _ _ (.cond _ _ _) _ _ _ _; first | (refine cB (fun hc => ?_) (fun hc => ?_) <;> first | exact False.elim hc | exact absurd hc Bool.false_ne_true | exact absurd hc.symm Bool.false_ne_true | skip) | refine cU ?_ ?_)))
      (((simp only [push_cast, reduceIte, reduceDIte, reduceCtorEq, Nat.reduceLT, Nat.reduceLeDiff, Nat.reduceEqDiff, Nat.reduceAdd, Nat.reduceMul, Nat.reduceBEq, Nat.reducePow, Int.zero_add, Int.reduceAdd, Int.reduceSub, Int.reduceLT, Int.reduceLE, Int.reduceToNat, Int.reduceNeg, Nat.reduceSub, Int.reduceBNe, Int.reduceBEq, Int.reduceTDiv, Int.reduceTMod, Int.reduceMul]); repeat (simp (disch := omega) only [idx_nat, idx_mapT, i64w, rows_getS, rows_get, getD_set_self, famR_get]; try (simp only [push_cast, reduceIte, reduceDIte, reduceCtorEq, Nat.reduceLT, Nat.reduceLeDiff, Nat.reduceEqDiff, Nat.reduceAdd, Nat.reduceMul, Nat.reduceBEq, Nat.reducePow, Int.zero_add, Int.reduceAdd, Int.reduceSub, Int.reduceLT, Int.reduceLE, Int.reduceToNat, Int.reduceNeg, Nat.reduceSub, Int.reduceBNe, Int.reduceBEq, Int.reduceTDiv, Int.reduceTMod, Int.reduceMul]))))
      refine lbC ?_
      rw [planB, rall_false (f := fun i => volP (p.inf.getD i default)) hi hv]; simp
    · (repeat' (first | refine swp_seq [0, 1, 2, 4, 5, 6, 53, 55, 56, 57, 58, 63, 66, 67, 68, 69, 89] ?_ | refine st1 ?_ | (show CallQ ..; first | refine cF ?_ | refine cQ (fun hcc => (cw _)) ?_ | (refine lP ?_; refine lQ (fun hcc m => (cw _)) ?_)) | (show Fct ..; refine fctI (fun hf => ?_)) | (show SWp _ _ _ (.cond _ _ _) _ _ _ _; first | (refine cB (fun hc => ?_) (fun hc => ?_) <;> first | exact False.elim hc | exact absurd hc Bool.false_ne_true | exact absurd hc.symm Bool.false_ne_true | skip) | refine cU ?_ ?_)))
      (refine lN [0] ?_)
      exact ⟨_, by omega, i + 1, by omega, rfl, fun j hj => by
        by_cases e : j = i
        · subst e; exact hv
        · exact g3 j (by omega), rfl, rfl⟩
  have hi3 : ¬ ((i : Int) < (p.inf.length : Int)) := by omega
  (have := Nonempty.intro hi3)
  have hall1 := rall_true (f := fun i => volP (p.inf.getD i default)) (n := p.inf.length) fun j hj => g3 j (by omega)
  (repeat' (first | refine swp_seq [0, 1, 2, 4, 5, 6, 53, 55, 56, 57, 58, 63, 66, 67, 68, 69, 89] ?_ | refine st1 ?_ | (show Fct ..; refine fctI (fun hf => ?_)) | (show SWp _ _ _ (.cond _ _ _) _ _ _ _; first | (refine cB (fun hc => ?_) (fun hc => ?_) <;> first | exact False.elim hc | exact absurd hc Bool.false_ne_true | exact absurd hc.symm Bool.false_ne_true | skip) | refine cU ?_ ?_)))
  refine loop_swp [1, 66, 67, 68] [0] 1 (fun q A H => ∃ i : Nat, i ≤ p.rel.length ∧ q = p.rel.length - i ∧ (∀ j, j < i → relR p.rel j = true) ∧ A = [(1, .ptr 0 0), (66, ints p.rel), (67, li p.rel.length), (68, li i)] ∧ H = [(0, .blk 26 (planC p))]) (by omega) ?_ ?_ ?_
  · rintro q A H ⟨i, g1, g2, g3, rfl, rfl⟩
    exact ⟨by (exact SD), by (exact SD)⟩
  · refine ⟨_, 0, by omega, rfl, by omega, ?_, ?_⟩
    · exact DVR
    · exact DVR
  clear hi hi3 g1 g2 g3
  rintro q A H ⟨i, g1, g2, g3, rfl, rfl⟩
  by_cases hi : i < p.rel.length
  · have hi3 : (i : Int) < (p.rel.length : Int) := by omega
    (have := Nonempty.intro hi3)
    have cw : ∀ m, DCalls Try.prog 83 [li (p.rel.getD i default), li 0, li 1099511627776] (hget []) m (lb (volP (p.rel.getD i default))) (hget []) := fun m => withinP_f _ 0 1099511627776 m
    have hret : relR p.rel i = false → planB p = false := fun hr => by
      rw [planB, rall_false (f := relR p.rel) hi hr]; simp
    have hgo : relR p.rel i = true → ∀ j, j < i + 1 → relR p.rel j = true := fun hr j hj => by
      by_cases e : j = i
      · subst e; exact hr
      · exact g3 j (by omega)
    cases hv : volP (p.rel.getD i default) <;> simp only [hv] at cw
    · (repeat' (first | refine swp_seq [0, 1, 2, 4, 5, 6, 53, 55, 56, 57, 58, 63, 66, 67, 68, 69, 89] ?_ | refine st1 ?_ | (show CallQ ..; first | refine cF ?_ | refine cQ (fun hcc => (cw _)) ?_ | (refine lP ?_; refine lQ (fun hcc m => (cw _)) ?_)) | (show Fct ..; refine fctI (fun hf => ?_)) | (show SWp _ _ _ (.cond _ _ _) _ _ _ _; first | (refine cB (fun hc => ?_) (fun hc => ?_) <;> first | exact False.elim hc | exact absurd hc Bool.false_ne_true | exact absurd hc.symm Bool.false_ne_true | skip) | refine cU ?_ ?_)))
      (((simp only [push_cast, reduceIte, reduceDIte, reduceCtorEq, Nat.reduceLT, Nat.reduceLeDiff, Nat.reduceEqDiff, Nat.reduceAdd, Nat.reduceMul, Nat.reduceBEq, Nat.reducePow, Int.zero_add, Int.reduceAdd, Int.reduceSub, Int.reduceLT, Int.reduceLE, Int.reduceToNat, Int.reduceNeg, Nat.reduceSub, Int.reduceBNe, Int.reduceBEq, Int.reduceTDiv, Int.reduceTMod, Int.reduceMul]); repeat (simp (disch := omega) only [idx_nat, idx_mapT, i64w, rows_getS, rows_get, getD_set_self, famR_get]; try (simp only [push_cast, reduceIte, reduceDIte, reduceCtorEq, Nat.reduceLT, Nat.reduceLeDiff, Nat.reduceEqDiff, Nat.reduceAdd, Nat.reduceMul, Nat.reduceBEq, Nat.reducePow, Int.zero_add, Int.reduceAdd, Int.reduceSub, Int.reduceLT, Int.reduceLE, Int.reduceToNat, Int.reduceNeg, Nat.reduceSub, Int.reduceBNe, Int.reduceBEq, Int.reduceTDiv, Int.reduceTMod, Int.reduceMul]))))
      refine lbC ?_
      rw [hret (by unfold relR; rw [hv]; rfl)]
    · by_cases hz : 0 < (i : Int)
      · (have := Nonempty.intro hz)
        by_cases hl : p.rel.getD i default ≤ p.rel.getD (i - 1) default
        · (have := Nonempty.intro hl)
          (repeat' (first | refine swp_seq [0, 1, 2, 4, 5, 6, 53, 55, 56, 57, 58, 63, 66, 67, 68, 69, 89] ?_ | refine st1 ?_ | (show CallQ ..; first | refine cF ?_ | refine cQ (fun hcc => (cw _)) ?_ | (refine lP ?_; refine lQ (fun hcc m => (cw _)) ?_)) | (show Fct ..; refine fctI (fun hf => ?_)) | (show SWp _ _ _ (.cond _ _ _) _ _ _ _; first | (refine cB (fun hc => ?_) (fun hc => ?_) <;> first | exact False.elim hc | exact absurd hc Bool.false_ne_true | exact absurd hc.symm Bool.false_ne_true | skip) | refine cU ?_ ?_)))
          (((simp only [push_cast, reduceIte, reduceDIte, reduceCtorEq, Nat.reduceLT, Nat.reduceLeDiff, Nat.reduceEqDiff, Nat.reduceAdd, Nat.reduceMul, Nat.reduceBEq, Nat.reducePow, Int.zero_add, Int.reduceAdd, Int.reduceSub, Int.reduceLT, Int.reduceLE, Int.reduceToNat, Int.reduceNeg, Nat.reduceSub, Int.reduceBNe, Int.reduceBEq, Int.reduceTDiv, Int.reduceTMod, Int.reduceMul]); repeat (simp (disch := omega) only [idx_nat, idx_mapT, i64w, rows_getS, rows_get, getD_set_self, famR_get]; try (simp only [push_cast, reduceIte, reduceDIte, reduceCtorEq, Nat.reduceLT, Nat.reduceLeDiff, Nat.reduceEqDiff, Nat.reduceAdd, Nat.reduceMul, Nat.reduceBEq, Nat.reducePow, Int.zero_add, Int.reduceAdd, Int.reduceSub, Int.reduceLT, Int.reduceLE, Int.reduceToNat, Int.reduceNeg, Nat.reduceSub, Int.reduceBNe, Int.reduceBEq, Int.reduceTDiv, Int.reduceTMod, Int.reduceMul]))))
          refine lbC ?_
          rw [hret (by unfold relR; rw [hv, decide_eq_false (by omega), decide_eq_false (by omega)]; rfl)]
        · (have := Nonempty.intro hl)
          (repeat' (first | refine swp_seq [0, 1, 2, 4, 5, 6, 53, 55, 56, 57, 58, 63, 66, 67, 68, 69, 89] ?_ | refine st1 ?_ | (show CallQ ..; first | refine cF ?_ | refine cQ (fun hcc => (cw _)) ?_ | (refine lP ?_; refine lQ (fun hcc m => (cw _)) ?_)) | (show Fct ..; refine fctI (fun hf => ?_)) | (show SWp _ _ _ (.cond _ _ _) _ _ _ _; first | (refine cB (fun hc => ?_) (fun hc => ?_) <;> first | exact False.elim hc | exact absurd hc Bool.false_ne_true | exact absurd hc.symm Bool.false_ne_true | skip) | refine cU ?_ ?_)))
          (refine lN [0] ?_)
          exact ⟨_, by omega, i + 1, by omega, rfl, hgo (by unfold relR; rw [hv, decide_eq_true (p := p.rel.getD (i - 1) default < p.rel.getD i default) (by omega)]; simp), rfl, rfl⟩
      · (have := Nonempty.intro hz)
        (repeat' (first | refine swp_seq [0, 1, 2, 4, 5, 6, 53, 55, 56, 57, 58, 63, 66, 67, 68, 69, 89] ?_ | refine st1 ?_ | (show CallQ ..; first | refine cF ?_ | refine cQ (fun hcc => (cw _)) ?_ | (refine lP ?_; refine lQ (fun hcc m => (cw _)) ?_)) | (show Fct ..; refine fctI (fun hf => ?_)) | (show SWp _ _ _ (.cond _ _ _) _ _ _ _; first | (refine cB (fun hc => ?_) (fun hc => ?_) <;> first | exact False.elim hc | exact absurd hc Bool.false_ne_true | exact absurd hc.symm Bool.false_ne_true | skip) | refine cU ?_ ?_)))
        (refine lN [0] ?_)
        exact ⟨_, by omega, i + 1, by omega, rfl, hgo (by unfold relR; rw [hv, decide_eq_true (p := i = 0) (by omega)]; rfl), rfl, rfl⟩
  have hi3 : ¬ ((i : Int) < (p.rel.length : Int)) := by omega
  (have := Nonempty.intro hi3)
  have hall2 := rall_true (f := relR p.rel) (n := p.rel.length) fun j hj => g3 j (by omega)
  (repeat' (first | refine swp_seq [0, 1, 2, 4, 5, 6, 53, 55, 56, 57, 58, 63, 66, 67, 68, 69, 89] ?_ | refine st1 ?_ | (show Fct ..; refine fctI (fun hf => ?_)) | (show SWp _ _ _ (.cond _ _ _) _ _ _ _; first | (refine cB (fun hc => ?_) (fun hc => ?_) <;> first | exact False.elim hc | exact absurd hc Bool.false_ne_true | exact absurd hc.symm Bool.false_ne_true | skip) | refine cU ?_ ?_)))
  (((simp only [push_cast, reduceIte, reduceDIte, reduceCtorEq, Nat.reduceLT, Nat.reduceLeDiff, Nat.reduceEqDiff, Nat.reduceAdd, Nat.reduceMul, Nat.reduceBEq, Nat.reducePow, Int.zero_add, Int.reduceAdd, Int.reduceSub, Int.reduceLT, Int.reduceLE, Int.reduceToNat, Int.reduceNeg, Nat.reduceSub, Int.reduceBNe, Int.reduceBEq, Int.reduceTDiv, Int.reduceTMod, Int.reduceMul]); repeat (simp (disch := omega) only [idx_nat, idx_mapT, i64w, rows_getS, rows_get, getD_set_self, famR_get]; try (simp only [push_cast, reduceIte, reduceDIte, reduceCtorEq, Nat.reduceLT, Nat.reduceLeDiff, Nat.reduceEqDiff, Nat.reduceAdd, Nat.reduceMul, Nat.reduceBEq, Nat.reducePow, Int.zero_add, Int.reduceAdd, Int.reduceSub, Int.reduceLT, Int.reduceLE, Int.reduceToNat, Int.reduceNeg, Nat.reduceSub, Int.reduceBNe, Int.reduceBEq, Int.reduceTDiv, Int.reduceTMod, Int.reduceMul]))))
  refine lbC ?_
  unfold planB
  rw [h0, hall1, hall2]
  simp only [Bool.true_and]

end Go.Proofs.Ytagalkckebffhaa
