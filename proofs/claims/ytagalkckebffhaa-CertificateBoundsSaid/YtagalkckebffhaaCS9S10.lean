/-
  Contracts of functions of the program, over the engine.
  No condition.
-/
import Derived.Test.YtagalkckebffhaaCS7S8
import Derived.Test.YtagalkckebffhaaCC31C32
namespace Go.Proofs.Ytagalkckebffhaa
open Go.Eng
set_option linter.all false
attribute [local irreducible] DCallsG SWp Fct CallQ XCallQ LCallQ XLCallQ drun xrun

def tmM (a : Int) (n : Nat) : Nat := a.toNat % n
theorem tmM_eq (a : Int) (n : Nat) [h : Nonempty (0 ≤ a)] : a.tmod (n : Int) = (tmM a n : Int) := by
  obtain ⟨z, rfl⟩ : ∃ z : Nat, a = z := ⟨a.toNat, by have := h.elim id; omega⟩
  rw [Int.tmod_eq_emod_of_nonneg (by omega)]; simp [tmM]
attribute [push_cast] tmM_eq
set_option maxHeartbeats 1000000 in
theorem possible_f (p : Plan) (k ri : Nat) (v : Int) (m : Nat) (hp : planB p = true) (hk : k < p.inf.length) (hr : ri < p.rel.length) (hv : 0 ≤ v ∧ v ≤ 1099511627776) : DCalls Try.prog 35 [planD p, li k, li v, li (p.rel.getD ri default)] (hget []) m (lb (possB p k v (p.rel.getD ri default))) (hget []) := by
  have hin := planB_in hp
  have hkin := hin.2.2.2.2.2.2.2.1 k hk
  have hrin := hin.2.2.2.2.2.2.2.2.1 ri hr
  (have := Nonempty.intro hk)
  refine pureC (n := 21) (rs := [.tmp 8]) (ts := [4]) Try.func35 rfl (by decide) [] (by (exact SD)) ?_
  (repeat' (first | refine swp_seq [0, 1, 2, 3, 4, 8] ?_ | refine st1 ?_ | (show Fct ..; refine fctI (fun hf => ?_)) | (show SWp _ _ _ (.region _ _ true) _ _ _ _; refine xG mixed [] ?_) | (show SWp _ _ _ (.cond _ _ _) _ _ _ _; first | (refine cB (fun hc => ?_) (fun hc => ?_) <;> first | exact False.elim hc | exact absurd hc Bool.false_ne_true | exact absurd hc.symm Bool.false_ne_true | skip) | refine cU ?_ ?_)))
  (((simp only [push_cast, reduceIte, reduceDIte, reduceCtorEq, Nat.reduceLT, Nat.reduceLeDiff, Nat.reduceEqDiff, Nat.reduceAdd, Nat.reduceMul, Nat.reduceBEq, Nat.reducePow, Int.zero_add, Int.reduceAdd, Int.reduceSub, Int.reduceLT, Int.reduceLE, Int.reduceToNat, Int.reduceNeg, Nat.reduceSub, Int.reduceBNe, Int.reduceBEq, Int.reduceTDiv, Int.reduceTMod, Int.reduceMul]); repeat (simp (disch := omega) only [idx_nat, idx_mapT, i64w, rows_getS, rows_get, getD_set_self, famR_get]; try (simp only [push_cast, reduceIte, reduceDIte, reduceCtorEq, Nat.reduceLT, Nat.reduceLeDiff, Nat.reduceEqDiff, Nat.reduceAdd, Nat.reduceMul, Nat.reduceBEq, Nat.reducePow, Int.zero_add, Int.reduceAdd, Int.reduceSub, Int.reduceLT, Int.reduceLE, Int.reduceToNat, Int.reduceNeg, Nat.reduceSub, Int.reduceBNe, Int.reduceBEq, Int.reduceTDiv, Int.reduceTMod, Int.reduceMul]))))
  rfl
set_option maxHeartbeats 1000000 in
theorem after_f (p : Plan) (k ri : Nat) (v : Int) (m : Nat) (hp : planB p = true) (hk : k < p.inf.length) (hr : ri < p.rel.length) (hv : 0 ≤ v ∧ v ≤ 1099511627776) : DCalls Try.prog 36 [planD p, li k, li v, li (p.rel.getD ri default)] (hget []) m (li (aftI p k v (p.rel.getD ri default))) (hget []) := by
  have hin := planB_in hp
  have hkin := hin.2.2.2.2.2.2.2.1 k hk
  have hrin := hin.2.2.2.2.2.2.2.2.1 ri hr
  (have := Nonempty.intro hk)
  refine pureC (n := 21) (rs := [.tmp 8]) (ts := [3]) Try.func36 rfl (by decide) [] (by (exact SD)) ?_
  (repeat' (first | refine swp_seq [0, 1, 2, 3, 4, 8] ?_ | refine st1 ?_ | (show Fct ..; refine fctI (fun hf => ?_)) | (show SWp _ _ _ (.region _ _ true) _ _ _ _; refine xG mixed [] ?_) | (show SWp _ _ _ (.cond _ _ _) _ _ _ _; first | (refine cB (fun hc => ?_) (fun hc => ?_) <;> first | exact False.elim hc | exact absurd hc Bool.false_ne_true | exact absurd hc.symm Bool.false_ne_true | skip) | refine cU ?_ ?_)))
  (((simp only [push_cast, reduceIte, reduceDIte, reduceCtorEq, Nat.reduceLT, Nat.reduceLeDiff, Nat.reduceEqDiff, Nat.reduceAdd, Nat.reduceMul, Nat.reduceBEq, Nat.reducePow, Int.zero_add, Int.reduceAdd, Int.reduceSub, Int.reduceLT, Int.reduceLE, Int.reduceToNat, Int.reduceNeg, Nat.reduceSub, Int.reduceBNe, Int.reduceBEq, Int.reduceTDiv, Int.reduceTMod, Int.reduceMul]); repeat (simp (disch := omega) only [idx_nat, idx_mapT, i64w, rows_getS, rows_get, getD_set_self, famR_get]; try (simp only [push_cast, reduceIte, reduceDIte, reduceCtorEq, Nat.reduceLT, Nat.reduceLeDiff, Nat.reduceEqDiff, Nat.reduceAdd, Nat.reduceMul, Nat.reduceBEq, Nat.reducePow, Int.zero_add, Int.reduceAdd, Int.reduceSub, Int.reduceLT, Int.reduceLE, Int.reduceToNat, Int.reduceNeg, Nat.reduceSub, Int.reduceBNe, Int.reduceBEq, Int.reduceTDiv, Int.reduceTMod, Int.reduceMul]))))
  rfl
def readyB (p : Plan) : Bool := decide (p.inf.length ≤ 8) && decide (p.rel.length ≤ 5) && decide (p.pen.length ≤ 30) && planB p
set_option maxHeartbeats 1000000 in
theorem ready_f (p : Plan) (m : Nat) (hq : planOk p) : DCalls Try.prog 9 [planD p] (hget []) m (lb (readyB p)) (hget []) := by
  have cv := fun m => rPValid_f p m hq
  have e1 : decide ((p.inf.length : Int) ≤ 8) = decide (p.inf.length ≤ 8) := by rw [decide_eq_decide]; omega
  have e2 : decide ((p.rel.length : Int) ≤ 5) = decide (p.rel.length ≤ 5) := by rw [decide_eq_decide]; omega
  have e3 : decide ((p.pen.length : Int) ≤ 30) = decide (p.pen.length ≤ 30) := by rw [decide_eq_decide]; omega
  unfold readyB
  by_cases h1 : (p.inf.length : Int) ≤ 8
  · by_cases h2 : (p.rel.length : Int) ≤ 5
    · by_cases h3 : (p.pen.length : Int) ≤ 30
      · (have := Nonempty.intro h1)
        (have := Nonempty.intro h2)
        (have := Nonempty.intro h3)
        rw [decide_eq_true (by omega : p.inf.length ≤ 8), decide_eq_true (by omega : p.rel.length ≤ 5), decide_eq_true (by omega : p.pen.length ≤ 30)]
        refine pureC (n := 23) (rs := [.tmp 2]) (ts := [4]) Try.func9 rfl (by decide) [] (by (exact SD)) ?_
        (repeat' (first | refine swp_seq [0, 1, 2] ?_ | refine st1 ?_ | (show CallQ ..; first | refine cF ?_ | refine cQ (fun hcc => (by first | exact cv _)) ?_ | (refine lP ?_; refine lQ (fun hcc m => (by first | exact cv _)) ?_)) | (show Fct ..; refine fctI (fun hf => ?_)) | (show XCallQ ..; first | refine xcF ?_ | refine xQ (fun hcc => (by first | exact cv _)) ?_ | (refine xlP ?_; refine xlQ (fun hcc m => (by first | exact cv _)) ?_)) | (show SWp _ _ _ (.region _ _ true) _ _ _ _; refine xG mixed [] ?_) | (show SWp _ _ _ (.cond _ _ _) _ _ _ _; first | (refine cB (fun hc => ?_) (fun hc => ?_) <;> first | exact False.elim hc | exact absurd hc Bool.false_ne_true | exact absurd hc.symm Bool.false_ne_true | skip) | refine cU ?_ ?_)))
        (((simp only [push_cast, reduceIte, reduceDIte, reduceCtorEq, Nat.reduceLT, Nat.reduceLeDiff, Nat.reduceEqDiff, Nat.reduceAdd, Nat.reduceMul, Nat.reduceBEq, Nat.reducePow, Int.zero_add, Int.reduceAdd, Int.reduceSub, Int.reduceLT, Int.reduceLE, Int.reduceToNat, Int.reduceNeg, Nat.reduceSub, Int.reduceBNe, Int.reduceBEq, Int.reduceTDiv, Int.reduceTMod, Int.reduceMul]); repeat (simp (disch := omega) only [idx_nat, idx_mapT, i64w, rows_getS, rows_get, getD_set_self, famR_get]; try (simp only [push_cast, reduceIte, reduceDIte, reduceCtorEq, Nat.reduceLT, Nat.reduceLeDiff, Nat.reduceEqDiff, Nat.reduceAdd, Nat.reduceMul, Nat.reduceBEq, Nat.reducePow, Int.zero_add, Int.reduceAdd, Int.reduceSub, Int.reduceLT, Int.reduceLE, Int.reduceToNat, Int.reduceNeg, Nat.reduceSub, Int.reduceBNe, Int.reduceBEq, Int.reduceTDiv, Int.reduceTMod, Int.reduceMul])))) <;> rfl
      · (have := Nonempty.intro h1)
        (have := Nonempty.intro h2)
        (have := Nonempty.intro h3)
        rw [decide_eq_false (by omega : ¬ p.pen.length ≤ 30)]
        refine pureC (n := 23) (rs := [.tmp 2]) (ts := [4]) Try.func9 rfl (by decide) [] (by (exact SD)) ?_
        (repeat' (first | refine swp_seq [0, 1, 2] ?_ | refine st1 ?_ | (show CallQ ..; first | refine cF ?_ | refine cQ (fun hcc => (by first | exact cv _)) ?_ | (refine lP ?_; refine lQ (fun hcc m => (by first | exact cv _)) ?_)) | (show Fct ..; refine fctI (fun hf => ?_)) | (show XCallQ ..; first | refine xcF ?_ | refine xQ (fun hcc => (by first | exact cv _)) ?_ | (refine xlP ?_; refine xlQ (fun hcc m => (by first | exact cv _)) ?_)) | (show SWp _ _ _ (.region _ _ true) _ _ _ _; refine xG mixed [] ?_) | (show SWp _ _ _ (.cond _ _ _) _ _ _ _; first | (refine cB (fun hc => ?_) (fun hc => ?_) <;> first | exact False.elim hc | exact absurd hc Bool.false_ne_true | exact absurd hc.symm Bool.false_ne_true | skip) | refine cU ?_ ?_)))
        (((simp only [push_cast, reduceIte, reduceDIte, reduceCtorEq, Nat.reduceLT, Nat.reduceLeDiff, Nat.reduceEqDiff, Nat.reduceAdd, Nat.reduceMul, Nat.reduceBEq, Nat.reducePow, Int.zero_add, Int.reduceAdd, Int.reduceSub, Int.reduceLT, Int.reduceLE, Int.reduceToNat, Int.reduceNeg, Nat.reduceSub, Int.reduceBNe, Int.reduceBEq, Int.reduceTDiv, Int.reduceTMod, Int.reduceMul]); repeat (simp (disch := omega) only [idx_nat, idx_mapT, i64w, rows_getS, rows_get, getD_set_self, famR_get]; try (simp only [push_cast, reduceIte, reduceDIte, reduceCtorEq, Nat.reduceLT, Nat.reduceLeDiff, Nat.reduceEqDiff, Nat.reduceAdd, Nat.reduceMul, Nat.reduceBEq, Nat.reducePow, Int.zero_add, Int.reduceAdd, Int.reduceSub, Int.reduceLT, Int.reduceLE, Int.reduceToNat, Int.reduceNeg, Nat.reduceSub, Int.reduceBNe, Int.reduceBEq, Int.reduceTDiv, Int.reduceTMod, Int.reduceMul]))))
    · (have := Nonempty.intro h1)
      (have := Nonempty.intro h2)
      rw [decide_eq_false (by omega : ¬ p.rel.length ≤ 5)]
      refine pureC (n := 23) (rs := [.tmp 2]) (ts := [4]) Try.func9 rfl (by decide) [] (by (exact SD)) ?_
      (repeat' (first | refine swp_seq [0, 1, 2] ?_ | refine st1 ?_ | (show CallQ ..; first | refine cF ?_ | refine cQ (fun hcc => (by first | exact cv _)) ?_ | (refine lP ?_; refine lQ (fun hcc m => (by first | exact cv _)) ?_)) | (show Fct ..; refine fctI (fun hf => ?_)) | (show XCallQ ..; first | refine xcF ?_ | refine xQ (fun hcc => (by first | exact cv _)) ?_ | (refine xlP ?_; refine xlQ (fun hcc m => (by first | exact cv _)) ?_)) | (show SWp _ _ _ (.region _ _ true) _ _ _ _; refine xG mixed [] ?_) | (show SWp _ _ _ (.cond _ _ _) _ _ _ _; first | (refine cB (fun hc => ?_) (fun hc => ?_) <;> first | exact False.elim hc | exact absurd hc Bool.false_ne_true | exact absurd hc.symm Bool.false_ne_true | skip) | refine cU ?_ ?_)))
      (((simp only [push_cast, reduceIte, reduceDIte, reduceCtorEq, Nat.reduceLT, Nat.reduceLeDiff, Nat.reduceEqDiff, Nat.reduceAdd, Nat.reduceMul, Nat.reduceBEq, Nat.reducePow, Int.zero_add, Int.reduceAdd, Int.reduceSub, Int.reduceLT, Int.reduceLE, Int.reduceToNat, Int.reduceNeg, Nat.reduceSub, Int.reduceBNe, Int.reduceBEq, Int.reduceTDiv, Int.reduceTMod, Int.reduceMul]); repeat (simp (disch := omega) only [idx_nat, idx_mapT, i64w, rows_getS, rows_get, getD_set_self, famR_get]; try (simp only [push_cast, reduceIte, reduceDIte, reduceCtorEq, Nat.reduceLT, Nat.reduceLeDiff, Nat.reduceEqDiff, Nat.reduceAdd, Nat.reduceMul, Nat.reduceBEq, Nat.reducePow, Int.zero_add, Int.reduceAdd, Int.reduceSub, Int.reduceLT, Int.reduceLE, Int.reduceToNat, Int.reduceNeg, Nat.reduceSub, Int.reduceBNe, Int.reduceBEq, Int.reduceTDiv, Int.reduceTMod, Int.reduceMul]))))
  · (have := Nonempty.intro h1)
    rw [decide_eq_false (by omega : ¬ p.inf.length ≤ 8)]
    refine pureC (n := 23) (rs := [.tmp 2]) (ts := [4]) Try.func9 rfl (by decide) [] (by (exact SD)) ?_
    (repeat' (first | refine swp_seq [0, 1, 2] ?_ | refine st1 ?_ | (show CallQ ..; first | refine cF ?_ | refine cQ (fun hcc => (by first | exact cv _)) ?_ | (refine lP ?_; refine lQ (fun hcc m => (by first | exact cv _)) ?_)) | (show Fct ..; refine fctI (fun hf => ?_)) | (show XCallQ ..; first | refine xcF ?_ | refine xQ (fun hcc => (by first | exact cv _)) ?_ | (refine xlP ?_; refine xlQ (fun hcc m => (by first | exact cv _)) ?_)) | (show SWp _ _ _ (.region _ _ true) _ _ _ _; refine xG mixed [] ?_) | (show SWp _ _ _ (.cond _ _ _) _ _ _ _; first | (refine cB (fun hc => ?_) (fun hc => ?_) <;> first | exact False.elim hc | exact absurd hc Bool.false_ne_true | exact absurd hc.symm Bool.false_ne_true | skip) | refine cU ?_ ?_)))
    (((simp only [push_cast, reduceIte, reduceDIte, reduceCtorEq, Nat.reduceLT, Nat.reduceLeDiff, Nat.reduceEqDiff, Nat.reduceAdd, Nat.reduceMul, Nat.reduceBEq, Nat.reducePow, Int.zero_add, Int.reduceAdd, Int.reduceSub, Int.reduceLT, Int.reduceLE, Int.reduceToNat, Int.reduceNeg, Nat.reduceSub, Int.reduceBNe, Int.reduceBEq, Int.reduceTDiv, Int.reduceTMod, Int.reduceMul]); repeat (simp (disch := omega) only [idx_nat, idx_mapT, i64w, rows_getS, rows_get, getD_set_self, famR_get]; try (simp only [push_cast, reduceIte, reduceDIte, reduceCtorEq, Nat.reduceLT, Nat.reduceLeDiff, Nat.reduceEqDiff, Nat.reduceAdd, Nat.reduceMul, Nat.reduceBEq, Nat.reducePow, Int.zero_add, Int.reduceAdd, Int.reduceSub, Int.reduceLT, Int.reduceLE, Int.reduceToNat, Int.reduceNeg, Nat.reduceSub, Int.reduceBNe, Int.reduceBEq, Int.reduceTDiv, Int.reduceTMod, Int.reduceMul]))))
def pickS (p : Plan) (a : List UInt8) (k : Nat) (v : Int) : Int :=
  if 0 < a.length then (p.rel.filter (possB p k v)).getD (tmM ((a.getD (tmM k a.length) default).toNat : Int) (p.rel.filter (possB p k v)).length) default else (p.rel.filter (possB p k v)).getD 0 default
def goS (p : Plan) (a : List UInt8) : Nat → Option (List Int × Int)
  | 0 => some ([], p.start)
  | k + 1 => match goS p a k with
    | none => none
    | some (out, v) => if (p.rel.filter (possB p k v)).length = 0 then none else some (out ++ [pickS p a k v], aftI p k v (pickS p a k v))
def schedR (p : Plan) (a : List UInt8) : List Int × Bool := match goS p a p.inf.length with
  | none => ([], false)
  | some (out, _) => (out, true)
theorem goS_none {p : Plan} {a : List UInt8} {i : Nat} (h : goS p a i = none) : ∀ n, i ≤ n → goS p a n = none := by
  intro n
  induction n with
  | zero => intro hi; obtain rfl : i = 0 := by omega
            exact h
  | succ n ih =>
    intro hi
    by_cases e : i = n + 1
    · rw [← e]; exact h
    · rw [goS, ih (by omega)]
theorem goS_next {p : Plan} {a : List UInt8} {i : Nat} {out : List Int} {v : Int} (h : goS p a i = some (out, v)) : goS p a (i + 1) = if (p.rel.filter (possB p i v)).length = 0 then none else some (out ++ [pickS p a i v], aftI p i v (pickS p a i v)) := by
  rw [goS, h]
theorem filt_snoc {p : Plan} {k i : Nat} {v : Int} (hi : i < p.rel.length) : (p.rel.take (i + 1)).filter (possB p k v) = (p.rel.take i).filter (possB p k v) ++ if possB p k v (p.rel.getD i default) = true then [p.rel.getD i default] else [] := by
  rw [take_snoc hi, List.filter_append, List.filter_cons, List.filter_nil]
theorem pick_mem {p : Plan} {a : List UInt8} {k : Nat} {v : Int} (h : ¬ (p.rel.filter (possB p k v)).length = 0) : pickS p a k v ∈ p.rel.filter (possB p k v) := by
  unfold pickS
  split
  · exact getD_mem (Nat.mod_lt _ (by omega))
  · exact getD_mem (by omega)
set_option maxRecDepth 20000 in
set_option maxHeartbeats 16000000 in
theorem schedule_f (p : Plan) (a : List UInt8) (m : Nat) (hp : planB p = true) (ha : a.length ≤ 281474976710656) : DCalls Try.prog 13 [planD p, bys a] (hget []) m (.tup [ints (schedR p a).1, lb (schedR p a).2]) (hget []) := by
  have hin := planB_in hp
  refine pureC (n := 72) (rs := [.tmp 4, .tmp 5]) (ts := [22, 4]) Try.func13 rfl (by decide) [88] (by (exact SD)) ?_
  (repeat' (first | refine swp_seq [0, 1, 2, 4, 5, 6, 7, 8, 9, 11, 12, 17, 18, 19, 22, 23, 24, 25, 32, 40, 46] ?_ | refine st1 ?_ | (show CallQ ..; first | refine cF ?_ | refine cQ (fun hcc => (by fail)) ?_ | (refine lP ?_; refine lQ (fun hcc m => (by fail)) ?_)) | (show Fct ..; refine fctI (fun hf => ?_)) | (show XCallQ ..; first | refine xcF ?_ | refine xQ (fun hcc => (by fail)) ?_ | (refine xlP ?_; refine xlQ (fun hcc m => (by fail)) ?_)) | (show SWp _ _ _ (.region _ _ true) _ _ _ _; refine xG mixed [] ?_) | (show SWp _ _ _ (.cond _ _ _) _ _ _ _; first | (refine cB (fun hc => ?_) (fun hc => ?_) <;> first | exact False.elim hc | exact absurd hc Bool.false_ne_true | exact absurd hc.symm Bool.false_ne_true | skip) | refine cU ?_ ?_)))
  (refine sN 6 3 1 ?_)
  refine loop_swp [1, 2, 6, 7, 17, 18] [0, 88] 89 (fun q A H => ∃ (i : Nat) (out : List Int) (v : Int), i ≤ p.inf.length ∧ q = p.inf.length - i ∧ goS p a i = some (out, v) ∧ out.length = i ∧ (p.res ≤ v ∧ v ≤ p.cap) ∧ A = [(1, bys a), (2, .ptr 0 0), (6, .gl 88), (7, li v), (17, li p.inf.length), (18, li i)] ∧ H = [(0, .blk 26 (planC p)), (88, inLt out)]) (by omega) ?_ ?_ ?_
  · rintro q A H ⟨i, out, v, g1, g2, g3, g4, g5, rfl, rfl⟩
    exact ⟨by (exact SD), by (exact SD)⟩
  · refine ⟨_, 0, [], p.start, by omega, rfl, rfl, rfl, hin.2.2.1, ?_, ?_⟩
    · (((simp only [push_cast, reduceIte, reduceDIte, reduceCtorEq, Nat.reduceLT, Nat.reduceLeDiff, Nat.reduceEqDiff, Nat.reduceAdd, Nat.reduceMul, Nat.reduceBEq, Nat.reducePow, Int.zero_add, Int.reduceAdd, Int.reduceSub, Int.reduceLT, Int.reduceLE, Int.reduceToNat, Int.reduceNeg, Nat.reduceSub, Int.reduceBNe, Int.reduceBEq, Int.reduceTDiv, Int.reduceTMod, Int.reduceMul]); repeat (simp (disch := omega) only [idx_nat, idx_mapT, i64w, rows_getS, rows_get, getD_set_self, famR_get]; try (simp only [push_cast, reduceIte, reduceDIte, reduceCtorEq, Nat.reduceLT, Nat.reduceLeDiff, Nat.reduceEqDiff, Nat.reduceAdd, Nat.reduceMul, Nat.reduceBEq, Nat.reducePow, Int.zero_add, Int.reduceAdd, Int.reduceSub, Int.reduceLT, Int.reduceLE, Int.reduceToNat, Int.reduceNeg, Nat.reduceSub, Int.reduceBNe, Int.reduceBEq, Int.reduceTDiv, Int.reduceTMod, Int.reduceMul])))) <;> rfl
    · (((simp only [push_cast, reduceIte, reduceDIte, reduceCtorEq, Nat.reduceLT, Nat.reduceLeDiff, Nat.reduceEqDiff, Nat.reduceAdd, Nat.reduceMul, Nat.reduceBEq, Nat.reducePow, Int.zero_add, Int.reduceAdd, Int.reduceSub, Int.reduceLT, Int.reduceLE, Int.reduceToNat, Int.reduceNeg, Nat.reduceSub, Int.reduceBNe, Int.reduceBEq, Int.reduceTDiv, Int.reduceTMod, Int.reduceMul]); repeat (simp (disch := omega) only [idx_nat, idx_mapT, i64w, rows_getS, rows_get, getD_set_self, famR_get]; try (simp only [push_cast, reduceIte, reduceDIte, reduceCtorEq, Nat.reduceLT, Nat.reduceLeDiff, Nat.reduceEqDiff, Nat.reduceAdd, Nat.reduceMul, Nat.reduceBEq, Nat.reducePow, Int.zero_add, Int.reduceAdd, Int.reduceSub, Int.reduceLT, Int.reduceLE, Int.reduceToNat, Int.reduceNeg, Nat.reduceSub, Int.reduceBNe, Int.reduceBEq, Int.reduceTDiv, Int.reduceTMod, Int.reduceMul])))) <;> rfl
  rintro q A H ⟨i, out, v, g1, g2, g3, g4, g5, rfl, rfl⟩
  by_cases hi : i < p.inf.length
  · have hi3 : (i : Int) < (p.inf.length : Int) := by omega
    (have := Nonempty.intro hi)
    (have := Nonempty.intro hi3)
    have hnx := goS_next g3
    (repeat' (first | refine swp_seq [0, 1, 2, 4, 5, 6, 7, 8, 9, 11, 12, 17, 18, 19, 22, 23, 24, 25, 32, 40, 46] ?_ | refine st1 ?_ | (show CallQ ..; first | refine cF ?_ | refine cQ (fun hcc => (by fail)) ?_ | (refine lP ?_; refine lQ (fun hcc m => (by fail)) ?_)) | (show Fct ..; refine fctI (fun hf => ?_)) | (show XCallQ ..; first | refine xcF ?_ | refine xQ (fun hcc => (by fail)) ?_ | (refine xlP ?_; refine xlQ (fun hcc m => (by fail)) ?_)) | (show SWp _ _ _ (.region _ _ true) _ _ _ _; refine xG mixed [] ?_) | (show SWp _ _ _ (.cond _ _ _) _ _ _ _; first | (refine cB (fun hc => ?_) (fun hc => ?_) <;> first | exact False.elim hc | exact absurd hc Bool.false_ne_true | exact absurd hc.symm Bool.false_ne_true | skip) | refine cU ?_ ?_)))
    (refine sN 9 3 1 ?_)
    refine loop_swp [1, 2, 6, 7, 8, 9, 17, 18, 22, 23, 24] [0, 88, 153] 154 (fun q A H => ∃ (j : Nat), j ≤ p.rel.length ∧ q = p.rel.length - j ∧ A = [(1, bys a), (2, .ptr 0 0), (6, .gl 88), (7, li v), (8, li i), (9, .gl 153), (17, li p.inf.length), (18, li i), (22, ints p.rel), (23, li p.rel.length), (24, li j)] ∧ H = [(0, .blk 26 (planC p)), (88, inLt out), (153, inLt ((p.rel.take j).filter (possB p i v)))]) (by omega) ?_ ?_ ?_
    · rintro q A H ⟨j, f1, f2, rfl, rfl⟩
      exact ⟨by (exact SD), by (exact SD)⟩
    · refine ⟨_, 0, by omega, rfl, ?_, ?_⟩
      · (((simp only [push_cast, reduceIte, reduceDIte, reduceCtorEq, Nat.reduceLT, Nat.reduceLeDiff, Nat.reduceEqDiff, Nat.reduceAdd, Nat.reduceMul, Nat.reduceBEq, Nat.reducePow, Int.zero_add, Int.reduceAdd, Int.reduceSub, Int.reduceLT, Int.reduceLE, Int.reduceToNat, Int.reduceNeg, Nat.reduceSub, Int.reduceBNe, Int.reduceBEq, Int.reduceTDiv, Int.reduceTMod, Int.reduceMul]); repeat (simp (disch := omega) only [idx_nat, idx_mapT, i64w, rows_getS, rows_get, getD_set_self, famR_get]; try (simp only [push_cast, reduceIte, reduceDIte, reduceCtorEq, Nat.reduceLT, Nat.reduceLeDiff, Nat.reduceEqDiff, Nat.reduceAdd, Nat.reduceMul, Nat.reduceBEq, Nat.reducePow, Int.zero_add, Int.reduceAdd, Int.reduceSub, Int.reduceLT, Int.reduceLE, Int.reduceToNat, Int.reduceNeg, Nat.reduceSub, Int.reduceBNe, Int.reduceBEq, Int.reduceTDiv, Int.reduceTMod, Int.reduceMul])))) <;> rfl
      · (((simp only [push_cast, reduceIte, reduceDIte, reduceCtorEq, Nat.reduceLT, Nat.reduceLeDiff, Nat.reduceEqDiff, Nat.reduceAdd, Nat.reduceMul, Nat.reduceBEq, Nat.reducePow, Int.zero_add, Int.reduceAdd, Int.reduceSub, Int.reduceLT, Int.reduceLE, Int.reduceToNat, Int.reduceNeg, Nat.reduceSub, Int.reduceBNe, Int.reduceBEq, Int.reduceTDiv, Int.reduceTMod, Int.reduceMul]); repeat (simp (disch := omega) only [idx_nat, idx_mapT, i64w, rows_getS, rows_get, getD_set_self, famR_get]; try (simp only [push_cast, reduceIte, reduceDIte, reduceCtorEq, Nat.reduceLT, Nat.reduceLeDiff, Nat.reduceEqDiff, Nat.reduceAdd, Nat.reduceMul, Nat.reduceBEq, Nat.reducePow, Int.zero_add, Int.reduceAdd, Int.reduceSub, Int.reduceLT, Int.reduceLE, Int.reduceToNat, Int.reduceNeg, Nat.reduceSub, Int.reduceBNe, Int.reduceBEq, Int.reduceTDiv, Int.reduceTMod, Int.reduceMul])))) <;> rfl
    rintro q A H ⟨j, f1, f2, rfl, rfl⟩
    by_cases hj : j < p.rel.length
    · have hj3 : (j : Int) < (p.rel.length : Int) := by omega
      (have := Nonempty.intro hj)
      (have := Nonempty.intro hj3)
      have cp := fun m => possible_f p i j v m hp hi hj (by omega)
      have hfs := filt_snoc (p := p) (k := i) (v := v) hj
      have hfl : ((p.rel.take j).filter (possB p i v)).length ≤ 20 := Nat.le_trans (List.length_filter_le _ _) (by rw [List.length_take]; omega)
      cases hpo : possB p i v (p.rel.getD j default) <;> simp only [hpo] at cp <;> rw [hpo] at hfs
      · rw [if_neg (by decide), List.append_nil] at hfs
        (repeat' (first | refine swp_seq [0, 1, 2, 4, 5, 6, 7, 8, 9, 11, 12, 17, 18, 19, 22, 23, 24, 25, 32, 40, 46] ?_ | refine st1 ?_ | (show CallQ ..; first | refine cF ?_ | refine cQ (fun hcc => (by first | exact cp _)) ?_ | (refine lP ?_; refine lQ (fun hcc m => (by first | exact cp _)) ?_)) | (show Fct ..; refine fctI (fun hf => ?_)) | (show XCallQ ..; first | refine xcF ?_ | refine xQ (fun hcc => (by first | exact cp _)) ?_ | (refine xlP ?_; refine xlQ (fun hcc m => (by first | exact cp _)) ?_)) | (show SWp _ _ _ (.region _ _ true) _ _ _ _; refine xG mixed [] ?_) | (show SWp _ _ _ (.cond _ _ _) _ _ _ _; first | (refine cB (fun hc => ?_) (fun hc => ?_) <;> first | exact False.elim hc | exact absurd hc Bool.false_ne_true | exact absurd hc.symm Bool.false_ne_true | skip) | refine cU ?_ ?_)))
        (refine lN [0, 88, 153] ?_)
        exact ⟨_, by omega, j + 1, by omega, rfl, rfl, by rw [hfs]⟩
      · rw [if_pos rfl] at hfs
        generalize (p.rel.take j).filter (possB p i v) = C at *
        (repeat' (first | refine swp_seq [0, 1, 2, 4, 5, 6, 7, 8, 9, 11, 12, 17, 18, 19, 22, 23, 24, 25, 32, 40, 46] ?_ | refine st1 ?_ | (show CallQ ..; first | refine cF ?_ | refine cQ (fun hcc => (by first | exact cp _)) ?_ | (refine lP ?_; refine lQ (fun hcc m => (by first | exact cp _)) ?_)) | (show Fct ..; refine fctI (fun hf => ?_)) | (show XCallQ ..; first | refine xcF ?_ | refine xQ (fun hcc => (by first | exact cp _)) ?_ | (refine xlP ?_; refine xlQ (fun hcc m => (by first | exact cp _)) ?_)) | (show SWp _ _ _ (.region _ _ true) _ _ _ _; refine xG mixed [] ?_) | (show SWp _ _ _ (.cond _ _ _) _ _ _ _; first | (refine cB (fun hc => ?_) (fun hc => ?_) <;> first | exact False.elim hc | exact absurd hc Bool.false_ne_true | exact absurd hc.symm Bool.false_ne_true | skip) | refine cU ?_ ?_)))
        (refine lN [0, 88, 153] ?_)
        exact ⟨_, by omega, j + 1, by omega, rfl, rfl, by rw [hfs]⟩
    have hj3 : ¬ ((j : Int) < (p.rel.length : Int)) := by omega
    (have := Nonempty.intro hj3)
    have hj2 : j = p.rel.length := by omega
    rw [show p.rel.take j = p.rel from List.take_of_length_le (by omega)]
    have hpm := fun h => pick_mem (p := p) (a := a) (k := i) (v := v) h
    have hpk : pickS p a i v = if 0 < a.length then (p.rel.filter (possB p i v)).getD (tmM ((a.getD (tmM i a.length) default).toNat : Int) (p.rel.filter (possB p i v)).length) default else (p.rel.filter (possB p i v)).getD 0 default := rfl
    have hfl : (p.rel.filter (possB p i v)).length ≤ 20 := Nat.le_trans (List.length_filter_le _ _) (by omega)
    have hfm : ∀ x, x ∈ p.rel.filter (possB p i v) → ∃ ri, ri < p.rel.length ∧ p.rel.getD ri default = x ∧ possB p i v x = true := fun x hx => by
      obtain ⟨h1, h2⟩ := List.mem_filter.1 hx
      obtain ⟨ri, hri, rfl⟩ := List.mem_iff_getElem.1 h1
      exact ⟨ri, hri, by rw [List.getD_eq_getElem?_getD, List.getElem?_eq_getElem hri]; rfl, h2⟩
    generalize p.rel.filter (possB p i v) = C at *
    by_cases hC : (C.length : Int) = 0
    · (have := Nonempty.intro hC)
      rw [if_pos (by omega)] at hnx
      have hS : schedR p a = ([], false) := by unfold schedR; rw [goS_none hnx p.inf.length (by omega)]
      rw [hS]
      (repeat' (first | refine swp_seq [0, 1, 2, 4, 5, 6, 7, 8, 9, 11, 12, 17, 18, 19, 22, 23, 24, 25, 32, 40, 46] ?_ | refine st1 ?_ | (show CallQ ..; first | refine cF ?_ | refine cQ (fun hcc => (by fail)) ?_ | (refine lP ?_; refine lQ (fun hcc m => (by fail)) ?_)) | (show Fct ..; refine fctI (fun hf => ?_)) | (show XCallQ ..; first | refine xcF ?_ | refine xQ (fun hcc => (by fail)) ?_ | (refine xlP ?_; refine xlQ (fun hcc m => (by fail)) ?_)) | (show SWp _ _ _ (.region _ _ true) _ _ _ _; refine xG mixed [] ?_) | (show SWp _ _ _ (.cond _ _ _) _ _ _ _; first | (refine cB (fun hc => ?_) (fun hc => ?_) <;> first | exact False.elim hc | exact absurd hc Bool.false_ne_true | exact absurd hc.symm Bool.false_ne_true | skip) | refine cU ?_ ?_)))
      (((simp only [push_cast, reduceIte, reduceDIte, reduceCtorEq, Nat.reduceLT, Nat.reduceLeDiff, Nat.reduceEqDiff, Nat.reduceAdd, Nat.reduceMul, Nat.reduceBEq, Nat.reducePow, Int.zero_add, Int.reduceAdd, Int.reduceSub, Int.reduceLT, Int.reduceLE, Int.reduceToNat, Int.reduceNeg, Nat.reduceSub, Int.reduceBNe, Int.reduceBEq, Int.reduceTDiv, Int.reduceTMod, Int.reduceMul]); repeat (simp (disch := omega) only [idx_nat, idx_mapT, i64w, rows_getS, rows_get, getD_set_self, famR_get]; try (simp only [push_cast, reduceIte, reduceDIte, reduceCtorEq, Nat.reduceLT, Nat.reduceLeDiff, Nat.reduceEqDiff, Nat.reduceAdd, Nat.reduceMul, Nat.reduceBEq, Nat.reducePow, Int.zero_add, Int.reduceAdd, Int.reduceSub, Int.reduceLT, Int.reduceLE, Int.reduceToNat, Int.reduceNeg, Nat.reduceSub, Int.reduceBNe, Int.reduceBEq, Int.reduceTDiv, Int.reduceTMod, Int.reduceMul])))) <;> rfl
    (have := Nonempty.intro hC)
    rw [if_neg (by omega)] at hnx
    obtain ⟨ri, hri, hrv, hpo⟩ := hfm _ (hpm (by omega))
    have ca := fun m => after_f p i ri v m hp hi hri (by omega)
    rw [hrv] at ca
    have hai := aft_in hp hpo
    have hC0 : 0 < C.length := by omega
    have hC03 : (0 : Int) < (C.length : Int) := by omega
    (have := Nonempty.intro hC0)
    (have := Nonempty.intro hC03)
    by_cases hal : (0 : Int) < (a.length : Int)
    · (have := Nonempty.intro hal)
      have hi0 : (0 : Int) ≤ (i : Int) := by omega
      (have := Nonempty.intro hi0)
      have ht1 : tmM (i : Int) a.length < a.length := Nat.mod_lt _ (by omega)
      have ht13 : (tmM (i : Int) a.length : Int) < (a.length : Int) := by omega
      (have := Nonempty.intro ht1)
      (have := Nonempty.intro ht13)
      have hb0 : (0 : Int) ≤ ((a.getD (tmM i a.length) default).toNat : Int) := by omega
      (have := Nonempty.intro hb0)
      have ht2 : tmM ((a.getD (tmM i a.length) default).toNat : Int) C.length < C.length := Nat.mod_lt _ (by omega)
      have ht23 : (tmM ((a.getD (tmM i a.length) default).toNat : Int) C.length : Int) < (C.length : Int) := by omega
      (have := Nonempty.intro ht2)
      (have := Nonempty.intro ht23)
      have hal0 : ¬ ((a.length : Int) = 0) := by omega
      (have := Nonempty.intro hal0)
      rw [if_pos (by omega)] at hpk
      rw [hpk] at hnx ca hai
      (repeat' (first | refine swp_seq [0, 1, 2, 4, 5, 6, 7, 8, 9, 11, 12, 17, 18, 19, 22, 23, 24, 25, 32, 40, 46] ?_ | refine st1 ?_ | (show CallQ ..; first | refine cF ?_ | refine cQ (fun hcc => (by first | exact ca _)) ?_ | (refine lP ?_; refine lQ (fun hcc m => (by first | exact ca _)) ?_)) | (show Fct ..; refine fctI (fun hf => ?_)) | (show XCallQ ..; first | refine xcF ?_ | refine xQ (fun hcc => (by first | exact ca _)) ?_ | (refine xlP ?_; refine xlQ (fun hcc m => (by first | exact ca _)) ?_)) | (show SWp _ _ _ (.region _ _ true) _ _ _ _; refine xG mixed [] ?_) | (show SWp _ _ _ (.cond _ _ _) _ _ _ _; first | (refine cB (fun hc => ?_) (fun hc => ?_) <;> first | exact False.elim hc | exact absurd hc Bool.false_ne_true | exact absurd hc.symm Bool.false_ne_true | skip) | refine cU ?_ ?_)))
      (refine lN [0, 88] ?_)
      exact ⟨_, by omega, i + 1, _, _, by omega, rfl, hnx, by simp; omega, hai, rfl, rfl⟩
    · (have := Nonempty.intro hal)
      rw [if_neg (by omega)] at hpk
      rw [hpk] at hnx ca hai
      (repeat' (first | refine swp_seq [0, 1, 2, 4, 5, 6, 7, 8, 9, 11, 12, 17, 18, 19, 22, 23, 24, 25, 32, 40, 46] ?_ | refine st1 ?_ | (show CallQ ..; first | refine cF ?_ | refine cQ (fun hcc => (by first | exact ca _)) ?_ | (refine lP ?_; refine lQ (fun hcc m => (by first | exact ca _)) ?_)) | (show Fct ..; refine fctI (fun hf => ?_)) | (show XCallQ ..; first | refine xcF ?_ | refine xQ (fun hcc => (by first | exact ca _)) ?_ | (refine xlP ?_; refine xlQ (fun hcc m => (by first | exact ca _)) ?_)) | (show SWp _ _ _ (.region _ _ true) _ _ _ _; refine xG mixed [] ?_) | (show SWp _ _ _ (.cond _ _ _) _ _ _ _; first | (refine cB (fun hc => ?_) (fun hc => ?_) <;> first | exact False.elim hc | exact absurd hc Bool.false_ne_true | exact absurd hc.symm Bool.false_ne_true | skip) | refine cU ?_ ?_)))
      (refine lN [0, 88] ?_)
      exact ⟨_, by omega, i + 1, _, _, by omega, rfl, hnx, by simp; omega, hai, rfl, rfl⟩
  have hi3 : ¬ ((i : Int) < (p.inf.length : Int)) := by omega
  (have := Nonempty.intro hi3)
  have hi2 : i = p.inf.length := by omega
  have g9 := g3
  rw [hi2] at g9
  have hS : schedR p a = (out, true) := by unfold schedR; rw [g9]
  rw [hS]
  (repeat' (first | refine swp_seq [0, 1, 2, 4, 5, 6, 7, 8, 9, 11, 12, 17, 18, 19, 22, 23, 24, 25, 32, 40, 46] ?_ | refine st1 ?_ | (show Fct ..; refine fctI (fun hf => ?_)) | (show SWp _ _ _ (.region _ _ true) _ _ _ _; refine xG mixed [] ?_) | (show SWp _ _ _ (.cond _ _ _) _ _ _ _; first | (refine cB (fun hc => ?_) (fun hc => ?_) <;> first | exact False.elim hc | exact absurd hc Bool.false_ne_true | exact absurd hc.symm Bool.false_ne_true | skip) | refine cU ?_ ?_)))
  (((simp only [push_cast, reduceIte, reduceDIte, reduceCtorEq, Nat.reduceLT, Nat.reduceLeDiff, Nat.reduceEqDiff, Nat.reduceAdd, Nat.reduceMul, Nat.reduceBEq, Nat.reducePow, Int.zero_add, Int.reduceAdd, Int.reduceSub, Int.reduceLT, Int.reduceLE, Int.reduceToNat, Int.reduceNeg, Nat.reduceSub, Int.reduceBNe, Int.reduceBEq, Int.reduceTDiv, Int.reduceTMod, Int.reduceMul]); repeat (simp (disch := omega) only [idx_nat, idx_mapT, i64w, rows_getS, rows_get, getD_set_self, famR_get]; try (simp only [push_cast, reduceIte, reduceDIte, reduceCtorEq, Nat.reduceLT, Nat.reduceLeDiff, Nat.reduceEqDiff, Nat.reduceAdd, Nat.reduceMul, Nat.reduceBEq, Nat.reducePow, Int.zero_add, Int.reduceAdd, Int.reduceSub, Int.reduceLT, Int.reduceLE, Int.reduceToNat, Int.reduceNeg, Nat.reduceSub, Int.reduceBNe, Int.reduceBEq, Int.reduceTDiv, Int.reduceTMod, Int.reduceMul]))))

end Go.Proofs.Ytagalkckebffhaa
