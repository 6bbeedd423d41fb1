/-
  Contracts of functions of the program, over the engine.
  No condition.
-/
import Derived.Test.YtagalkckebffhaaCS2S3S4
import Derived.Test.YtagalkckebffhaaCC2C3C24
namespace Go.Proofs.Ytagalkckebffhaa
open Go.Eng
set_option linter.all false
attribute [local irreducible] DCallsG SWp Fct CallQ XCallQ LCallQ XLCallQ drun xrun
set_option maxHeartbeats 1000000 in
theorem idxIntC_f (g : FuncId) (t : TypeId) (cs : List PV) (p : Int → Bool) (l : List (Int)) (hl : l.length ≤ 281474976710656) (hg : ∀ x, x ∈ l → ∀ m, DCalls Try.prog g [li x, .ptr 0 0] (hget [(0, .blk t (cs.map .p))]) m (lb (p x)) (hget [(0, .blk t (cs.map .p))])) :
    DCalls Try.prog 73 [ints l, .clo g [.ptr 0 0]] (hget [(0, .blk t (cs.map .p))]) 1 (li (idxI p l)) (hget [(0, .blk t (cs.map .p))]) := by
  refine contract (n := 19) (rs := [.tmp 4]) (ts := [3]) Try.func73 rfl (by decide) 1 1 [] [] [] (li (idxI p l)) [(0, .blk t (cs.map .p))] (by (exact SD)) (by (exact SD)) ?_
  (repeat' (first | refine swp_seq [0, 1, 4, 5, 7, 8, 9, 16] ?_ | refine st1 ?_ | (show Fct ..; refine fctI (fun hf => ?_)) | (show SWp _ _ _ (.cond _ _ _) _ _ _ _; first | (refine cB (fun hc => ?_) (fun hc => ?_) <;> first | exact False.elim hc | exact absurd hc Bool.false_ne_true | exact absurd hc.symm Bool.false_ne_true | skip) | refine cU ?_ ?_)))
  refine loop_swp [0, 1, 7, 8] [0] 1 (fun q A H => ∃ i : Nat, i ≤ l.length ∧ q = l.length - i ∧ (l.take i).any p = false ∧ A = [(0, ints l), (1, .clo g [.ptr 0 0]), (7, li l.length), (8, li i)] ∧ H = [(0, .blk t (cs.map .p))]) (by omega) ?_ ?_ ?_
  · rintro q A H ⟨i, h1, h2, h3, rfl, rfl⟩
    exact ⟨by (exact SD), by (exact SD)⟩
  · refine ⟨_, 0, by omega, rfl, rfl, ?_, ?_⟩
    · exact DVR
    · exact DVR
  · rintro q A H ⟨i, h1, h2, h3, rfl, rfl⟩
    (repeat' (first | refine swp_seq [0, 1, 4, 5, 7, 8, 9, 16] ?_ | refine st1 ?_ | (show CallQ ..; first | refine cF ?_ | refine cQ (fun hcc => (hg _ (getD_mem SC) _)) ?_ | (refine lP ?_; refine lQ (fun hcc m => (hg _ (getD_mem SC) _)) ?_)) | (show Fct ..; refine fctI (fun hf => ?_)) | (show SWp _ _ _ (.cond _ _ _) _ _ _ _; first | (refine cB (fun hc => ?_) (fun hc => ?_) <;> first | exact False.elim hc | exact absurd hc Bool.false_ne_true | exact absurd hc.symm Bool.false_ne_true | skip) | refine cU ?_ ?_)))
    · (((simp only [push_cast, reduceIte, reduceDIte, reduceCtorEq, Nat.reduceLT, Nat.reduceLeDiff, Nat.reduceEqDiff, Nat.reduceAdd, Nat.reduceMul, Nat.reduceBEq, Nat.reducePow, Int.zero_add, Int.reduceAdd, Int.reduceSub, Int.reduceLT, Int.reduceLE, Int.reduceToNat, Int.reduceNeg, Nat.reduceSub, Int.reduceBNe, Int.reduceBEq, Int.reduceTDiv, Int.reduceTMod, Int.reduceMul]); repeat (simp (disch := omega) only [idx_nat, idx_mapT, i64w, rows_getS, rows_get, getD_set_self, famR_get]; try (simp only [push_cast, reduceIte, reduceDIte, reduceCtorEq, Nat.reduceLT, Nat.reduceLeDiff, Nat.reduceEqDiff, Nat.reduceAdd, Nat.reduceMul, Nat.reduceBEq, Nat.reducePow, Int.zero_add, Int.reduceAdd, Int.reduceSub, Int.reduceLT, Int.reduceLE, Int.reduceToNat, Int.reduceNeg, Nat.reduceSub, Int.reduceBNe, Int.reduceBEq, Int.reduceTDiv, Int.reduceTMod, Int.reduceMul]))))
      rw [idxI_hit h3 (by omega) (by assumption)]
    · (refine lN [0] ?_)
      exact ⟨_, by omega, i + 1, by omega, rfl, any_step h3 (by omega) (by assumption), rfl, rfl⟩
    · (((simp only [push_cast, reduceIte, reduceDIte, reduceCtorEq, Nat.reduceLT, Nat.reduceLeDiff, Nat.reduceEqDiff, Nat.reduceAdd, Nat.reduceMul, Nat.reduceBEq, Nat.reducePow, Int.zero_add, Int.reduceAdd, Int.reduceSub, Int.reduceLT, Int.reduceLE, Int.reduceToNat, Int.reduceNeg, Nat.reduceSub, Int.reduceBNe, Int.reduceBEq, Int.reduceTDiv, Int.reduceTMod, Int.reduceMul]); repeat (simp (disch := omega) only [idx_nat, idx_mapT, i64w, rows_getS, rows_get, getD_set_self, famR_get]; try (simp only [push_cast, reduceIte, reduceDIte, reduceCtorEq, Nat.reduceLT, Nat.reduceLeDiff, Nat.reduceEqDiff, Nat.reduceAdd, Nat.reduceMul, Nat.reduceBEq, Nat.reducePow, Int.zero_add, Int.reduceAdd, Int.reduceSub, Int.reduceLT, Int.reduceLE, Int.reduceToNat, Int.reduceNeg, Nat.reduceSub, Int.reduceBNe, Int.reduceBEq, Int.reduceTDiv, Int.reduceTMod, Int.reduceMul]))))
      rw [List.take_of_length_le (by omega)] at h3
      rw [idxI_none h3]
theorem conIntC_f (g : FuncId) (t : TypeId) (cs : List PV) (p : Int → Bool) (l : List Int) (hl : l.length ≤ 281474976710656) (hg : ∀ x, x ∈ l → ∀ m, DCalls Try.prog g [li x, .ptr 0 0] (hget [(0, .blk t (cs.map .p))]) m (lb (p x)) (hget [(0, .blk t (cs.map .p))])) :
    DCalls Try.prog 38 [ints l, .clo g [.ptr 0 0]] (hget [(0, .blk t (cs.map .p))]) 1 (lb (l.any p)) (hget [(0, .blk t (cs.map .p))]) := by
  have ci := idxIntC_f g t cs p l hl hg
  refine contract (n := 9) (rs := [.tmp 4]) (ts := [4]) Try.func38 rfl (by decide) 1 1 [] [] [] (lb (l.any p)) [(0, .blk t (cs.map .p))] (by (exact SD)) (by (exact SD)) ?_
  (repeat' (first | refine swp_seq [0, 1, 4] ?_ | refine st1 ?_ | (show Fct ..; refine fctI (fun hf => ?_)) | (show SWp _ _ _ (.cond _ _ _) _ _ _ _; first | (refine cB (fun hc => ?_) (fun hc => ?_) <;> first | exact False.elim hc | exact absurd hc Bool.false_ne_true | exact absurd hc.symm Bool.false_ne_true | skip) | refine cU ?_ ?_)))
  (refine cQT [0] (fun hcc => ci) ?_)
  (repeat' (first | refine swp_seq [0, 1, 4] ?_ | refine st1 ?_ | (show Fct ..; refine fctI (fun hf => ?_)) | (show SWp _ _ _ (.cond _ _ _) _ _ _ _; first | (refine cB (fun hc => ?_) (fun hc => ?_) <;> first | exact False.elim hc | exact absurd hc Bool.false_ne_true | exact absurd hc.symm Bool.false_ne_true | skip) | refine cU ?_ ?_)))
  (((simp only [push_cast, reduceIte, reduceDIte, reduceCtorEq, Nat.reduceLT, Nat.reduceLeDiff, Nat.reduceEqDiff, Nat.reduceAdd, Nat.reduceMul, Nat.reduceBEq, Nat.reducePow, Int.zero_add, Int.reduceAdd, Int.reduceSub, Int.reduceLT, Int.reduceLE, Int.reduceToNat, Int.reduceNeg, Nat.reduceSub, Int.reduceBNe, Int.reduceBEq, Int.reduceTDiv, Int.reduceTMod, Int.reduceMul]); repeat (simp (disch := omega) only [idx_nat, idx_mapT, i64w, rows_getS, rows_get, getD_set_self, famR_get]; try (simp only [push_cast, reduceIte, reduceDIte, reduceCtorEq, Nat.reduceLT, Nat.reduceLeDiff, Nat.reduceEqDiff, Nat.reduceAdd, Nat.reduceMul, Nat.reduceBEq, Nat.reducePow, Int.zero_add, Int.reduceAdd, Int.reduceSub, Int.reduceLT, Int.reduceLE, Int.reduceToNat, Int.reduceNeg, Nat.reduceSub, Int.reduceBNe, Int.reduceBEq, Int.reduceTDiv, Int.reduceTMod, Int.reduceMul]))))
  refine lbC ?_
  rw [idxI_any]
def eqB (r x : Int) : Bool := decide (r = x)
set_option maxHeartbeats 1000000 in
theorem index_f (l : List Int) (r : Int) (m : Nat) (hl : l.length ≤ 281474976710656) : DCalls Try.prog 42 [ints l, li r] (hget []) m (li (idxI (eqB r) l)) (hget []) := by
  refine pureC (n := 19) (rs := [.tmp 4]) (ts := [3]) Try.func42 rfl (by decide) [] (by (exact SD)) ?_
  (repeat' (first | refine swp_seq [0, 1, 4, 5, 7, 8, 9, 16] ?_ | refine st1 ?_ | (show Fct ..; refine fctI (fun hf => ?_)) | (show SWp _ _ _ (.cond _ _ _) _ _ _ _; first | (refine cB (fun hc => ?_) (fun hc => ?_) <;> first | exact False.elim hc | exact absurd hc Bool.false_ne_true | exact absurd hc.symm Bool.false_ne_true | skip) | refine cU ?_ ?_)))
  refine loop_swp [0, 1, 7, 8] [] 0 (fun q A H => ∃ i : Nat, i ≤ l.length ∧ q = l.length - i ∧ (l.take i).any (eqB r) = false ∧ A = [(0, ints l), (1, li r), (7, li l.length), (8, li i)] ∧ H = []) (by omega) ?_ ?_ ?_
  · rintro q A H ⟨i, h1, h2, h3, rfl, rfl⟩
    exact ⟨by (exact SD), by (exact SD)⟩
  · refine ⟨_, 0, by omega, rfl, rfl, ?_, ?_⟩
    · exact DVR
    · exact DVR
  rintro q A H ⟨i, h1, h2, h3, rfl, rfl⟩
  by_cases hi : i < l.length
  · have hi3 : (i : Int) < (l.length : Int) := by omega
    (have := Nonempty.intro hi3)
    (have := Nonempty.intro hi)
    by_cases hx : r = l.getD i default
    · (have := Nonempty.intro hx)
      rw [idxI_hit h3 hi (decide_eq_true hx)]
      (repeat' (first | refine swp_seq [0, 1, 4, 5, 7, 8, 9, 16] ?_ | refine st1 ?_ | (show Fct ..; refine fctI (fun hf => ?_)) | (show SWp _ _ _ (.cond _ _ _) _ _ _ _; first | (refine cB (fun hc => ?_) (fun hc => ?_) <;> first | exact False.elim hc | exact absurd hc Bool.false_ne_true | exact absurd hc.symm Bool.false_ne_true | skip) | refine cU ?_ ?_)))
      exact DVR
    · (have := Nonempty.intro hx)
      (repeat' (first | refine swp_seq [0, 1, 4, 5, 7, 8, 9, 16] ?_ | refine st1 ?_ | (show Fct ..; refine fctI (fun hf => ?_)) | (show SWp _ _ _ (.cond _ _ _) _ _ _ _; first | (refine cB (fun hc => ?_) (fun hc => ?_) <;> first | exact False.elim hc | exact absurd hc Bool.false_ne_true | exact absurd hc.symm Bool.false_ne_true | skip) | refine cU ?_ ?_)))
      (refine lN [] ?_)
      exact ⟨_, by omega, i + 1, by omega, rfl, any_step h3 hi (decide_eq_false hx), rfl, rfl⟩
  have hi3 : ¬ ((i : Int) < (l.length : Int)) := by omega
  (have := Nonempty.intro hi3)
  rw [List.take_of_length_le (by omega)] at h3
  rw [idxI_none h3]
  (repeat' (first | refine swp_seq [0, 1, 4, 5, 7, 8, 9, 16] ?_ | refine st1 ?_ | (show Fct ..; refine fctI (fun hf => ?_)) | (show SWp _ _ _ (.cond _ _ _) _ _ _ _; first | (refine cB (fun hc => ?_) (fun hc => ?_) <;> first | exact False.elim hc | exact absurd hc Bool.false_ne_true | exact absurd hc.symm Bool.false_ne_true | skip) | refine cU ?_ ?_)))
  exact DVR
theorem contains_f (l : List Int) (r : Int) (m : Nat) (hl : l.length ≤ 281474976710656) : DCalls Try.prog 40 [ints l, li r] (hget []) m (lb (l.any (eqB r))) (hget []) := by
  refine pureC (n := 9) (rs := [.tmp 4]) (ts := [4]) Try.func40 rfl (by decide) [] (by (exact SD)) ?_
  (repeat' (first | refine swp_seq [0, 1, 4] ?_ | refine st1 ?_ | (show CallQ ..; first | refine cF ?_ | refine cQ (fun hcc => (by first | exact index_f _ _ _ hl)) ?_ | (refine lP ?_; refine lQ (fun hcc m => (by first | exact index_f _ _ _ hl)) ?_)) | (show Fct ..; refine fctI (fun hf => ?_)) | (show SWp _ _ _ (.cond _ _ _) _ _ _ _; first | (refine cB (fun hc => ?_) (fun hc => ?_) <;> first | exact False.elim hc | exact absurd hc Bool.false_ne_true | exact absurd hc.symm Bool.false_ne_true | skip) | refine cU ?_ ?_)))
  (((simp only [push_cast, reduceIte, reduceDIte, reduceCtorEq, Nat.reduceLT, Nat.reduceLeDiff, Nat.reduceEqDiff, Nat.reduceAdd, Nat.reduceMul, Nat.reduceBEq, Nat.reducePow, Int.zero_add, Int.reduceAdd, Int.reduceSub, Int.reduceLT, Int.reduceLE, Int.reduceToNat, Int.reduceNeg, Nat.reduceSub, Int.reduceBNe, Int.reduceBEq, Int.reduceTDiv, Int.reduceTMod, Int.reduceMul]); repeat (simp (disch := omega) only [idx_nat, idx_mapT, i64w, rows_getS, rows_get, getD_set_self, famR_get]; try (simp only [push_cast, reduceIte, reduceDIte, reduceCtorEq, Nat.reduceLT, Nat.reduceLeDiff, Nat.reduceEqDiff, Nat.reduceAdd, Nat.reduceMul, Nat.reduceBEq, Nat.reducePow, Int.zero_add, Int.reduceAdd, Int.reduceSub, Int.reduceLT, Int.reduceLE, Int.reduceToNat, Int.reduceNeg, Nat.reduceSub, Int.reduceBNe, Int.reduceBEq, Int.reduceTDiv, Int.reduceTMod, Int.reduceMul]))))
  refine lbC ?_
  rw [idxI_any]
theorem notIn_f (p : Plan) (r : Int) (m : Nat) (hl : p.rel.length ≤ 281474976710656) : DCalls Try.prog 39 [li r, .ptr 0 0] (hget [(0, .blk 26 ((planP p).map .p))]) m (lb (!p.rel.any (eqB r))) (hget [(0, .blk 26 ((planP p).map .p))]) := by
  have cc := fun m => contains_f p.rel r m hl
  refine contract (n := 9) (rs := [.tmp 3]) (ts := [4]) Try.func39 rfl (by decide) 1 1 [] [] [] (lb (!p.rel.any (eqB r))) [(0, .blk 26 ((planP p).map .p))] (by (exact SD)) (by (exact SD)) ?_
  (repeat' (first | refine swp_seq [0, 1, 3] ?_ | refine st1 ?_ | (show CallQ ..; first | refine cF ?_ | refine cQ (fun hcc => (by first | exact cc _)) ?_ | (refine lP ?_; refine lQ (fun hcc m => (by first | exact cc _)) ?_)) | (show Fct ..; refine fctI (fun hf => ?_)) | (show SWp _ _ _ (.cond _ _ _) _ _ _ _; first | (refine cB (fun hc => ?_) (fun hc => ?_) <;> first | exact False.elim hc | exact absurd hc Bool.false_ne_true | exact absurd hc.symm Bool.false_ne_true | skip) | refine cU ?_ ?_)))
  exact DVR
abbrev tkC (p : Plan) (d : DV) : List DV := [.p (.lit (.int .i64 p.start)), .p (.lit (.int .i64 p.cap)), .p (.lit (.int .i64 p.res)), .p (.dat 1 (p.inf.map inRow)), .p (.dat 1 (p.rel.map inRow)), .p (.dat 2 (p.pen.map knotP)), .p (.lit (.int .i64 p.wei)), d]
theorem planC_snoc (p : Plan) (d : DV) : planC p ++ [d] = tkC p d := rfl
attribute [push_cast] planC_snoc
set_option maxRecDepth 20000 in
set_option maxHeartbeats 8000000 in
theorem tank_f (p : Plan) (m : Nat) (hq : planOk p) (hp : planB p = true) : DCallsG Try.prog 37 [] [planD p] (hget []) m (.tup [.ptr m 0, lb true]) (hget [(m, .blk 115 (tkC p (ints (p.rel.map (floorT p.pen)))))]) := by
  have cv := fun m => pValid_f p m hq
  rw [hp] at cv
  have hin := planB_in hp
  refine contract (n := 41) (rs := [.tmp 2, .tmp 3]) (ts := [74, 4]) Try.func37 rfl (by decide) 0 0 [65] [] [64] (.tup [.ptr 64 0, lb true]) [(64, .blk 115 (tkC p (ints (p.rel.map (floorT p.pen)))))] (by (exact SD)) (by (exact SD)) ?_
  (repeat' (first | refine swp_seq [0, 1, 2, 3, 4, 6, 7, 11, 16, 17, 18, 19] ?_ | refine st1 ?_ | (show CallQ ..; first | refine cF ?_ | refine cQ (fun hcc => (by first | exact cv _)) ?_ | (refine lP ?_; refine lQ (fun hcc m => (by first | exact cv _)) ?_)) | (show Fct ..; refine fctI (fun hf => ?_)) | (show SWp _ _ _ (.cond _ _ _) _ _ _ _; first | (refine cB (fun hc => ?_) (fun hc => ?_) <;> first | exact False.elim hc | exact absurd hc Bool.false_ne_true | exact absurd hc.symm Bool.false_ne_true | skip) | refine cU ?_ ?_)))
  have hr := hin.2.2.2.2.1
  have hlp : ∀ i, i < p.rel.length → (p.rel.take (i + 1)).map (floorT p.pen) = (p.rel.take i).map (floorT p.pen) ++ [floorT p.pen (p.rel.getD i default)] := fun i hi => by
    rw [take_snoc hi, List.map_append]; rfl
  refine loop_swp [1, 4, 16, 17, 18] [0, 64, 65] 66 (fun q A H => ∃ i : Nat, i ≤ p.rel.length ∧ q = p.rel.length - i ∧ A = [(1, .ptr 0 0), (4, .ptr 64 0), (16, ints p.rel), (17, li p.rel.length), (18, li i)] ∧ ((i = 0 ∧ H = [(0, .blk 26 (planC p)), (64, .blk 115 (tkC p nilS))]) ∨ (0 < i ∧ H = [(0, .blk 26 (planC p)), (64, .blk 115 (tkC p (.gl 65))), (65, inLt ((p.rel.take i).map (floorT p.pen)))]))) (by omega) ?_ ?_ ?_
  · rintro q A H ⟨i, g1, g2, rfl, ⟨rfl, rfl⟩ | ⟨g3, rfl⟩⟩
    · exact ⟨by (exact SD), by (exact SD)⟩
    · exact ⟨by (exact SD), by (exact SD)⟩
  · refine ⟨_, 0, by omega, rfl, ?_, .inl ⟨rfl, ?_⟩⟩
    · exact DVR
    · exact DVR
  rintro q A H ⟨i, g1, g2, rfl, ⟨rfl, rfl⟩ | ⟨g3, rfl⟩⟩
  · have hi : 0 < p.rel.length := by omega
    have hi3 : (0 : Int) < (p.rel.length : Int) := by omega
    have hrin := hin.2.2.2.2.2.2.2.2.1 0 hi
    have cf := fun m => floor_f p.pen (p.rel.getD 0 default) m hin.2.2.2.2.2.2.1 (by unfold i64ok; omega)
    (have := Nonempty.intro hi)
    (have := Nonempty.intro hi3)
    have e1 := hlp 0 hi
    rw [List.take_zero, List.map_nil, List.nil_append] at e1
    generalize floorT p.pen (p.rel.getD 0 default) = F at *
    (repeat' (first | refine swp_seq [0, 1, 2, 3, 4, 6, 7, 11, 16, 17, 18, 19] ?_ | refine st1 ?_ | (show CallQ ..; first | refine cF ?_ | refine cQ (fun hcc => (by first | exact cf _)) ?_ | (refine lP ?_; refine lQ (fun hcc m => (by first | exact cf _)) ?_)) | (show Fct ..; refine fctI (fun hf => ?_)) | (show SWp _ _ _ (.cond _ _ _) _ _ _ _; first | (refine cB (fun hc => ?_) (fun hc => ?_) <;> first | exact False.elim hc | exact absurd hc Bool.false_ne_true | exact absurd hc.symm Bool.false_ne_true | skip) | refine cU ?_ ?_)))
    (refine lR 226 65 [0, 64, 226] ?_)
    exact ⟨_, by omega, 1, by omega, rfl, rfl, .inr ⟨by omega, by rw [e1]; rfl⟩⟩
  by_cases hi : i < p.rel.length
  · have hi3 : (i : Int) < (p.rel.length : Int) := by omega
    have hrin := hin.2.2.2.2.2.2.2.2.1 i hi
    have cf := fun m => floor_f p.pen (p.rel.getD i default) m hin.2.2.2.2.2.2.1 (by unfold i64ok; omega)
    (have := Nonempty.intro hi)
    (have := Nonempty.intro hi3)
    have e1 := hlp i hi
    have hlen : ((p.rel.take i).map (floorT p.pen)).length = i := by rw [List.length_map, List.length_take]; omega
    generalize floorT p.pen (p.rel.getD i default) = F at *
    generalize (p.rel.take i).map (floorT p.pen) = L at *
    (repeat' (first | refine swp_seq [0, 1, 2, 3, 4, 6, 7, 11, 16, 17, 18, 19] ?_ | refine st1 ?_ | (show CallQ ..; first | refine cF ?_ | refine cQ (fun hcc => (by first | exact cf _)) ?_ | (refine lP ?_; refine lQ (fun hcc m => (by first | exact cf _)) ?_)) | (show Fct ..; refine fctI (fun hf => ?_)) | (show SWp _ _ _ (.cond _ _ _) _ _ _ _; first | (refine cB (fun hc => ?_) (fun hc => ?_) <;> first | exact False.elim hc | exact absurd hc Bool.false_ne_true | exact absurd hc.symm Bool.false_ne_true | skip) | refine cU ?_ ?_)))
    (refine lN [0, 64, 65] ?_)
    exact ⟨_, by omega, i + 1, by omega, rfl, rfl, .inr ⟨by omega, by rw [e1]⟩⟩
  have hi2 : i = p.rel.length := by omega
  have hi3 : ¬ ((i : Int) < (p.rel.length : Int)) := by omega
  (have := Nonempty.intro hi3)
  rw [hi2, List.take_length] at *
  (repeat' (first | refine swp_seq [0, 1, 2, 3, 4, 6, 7, 11, 16, 17, 18, 19] ?_ | refine st1 ?_ | (show Fct ..; refine fctI (fun hf => ?_)) | (show SWp _ _ _ (.cond _ _ _) _ _ _ _; first | (refine cB (fun hc => ?_) (fun hc => ?_) <;> first | exact False.elim hc | exact absurd hc Bool.false_ne_true | exact absurd hc.symm Bool.false_ne_true | skip) | refine cU ?_ ?_)))
  exact DVR
abbrev tkH (p : Plan) : LH := [(0, .blk 115 (tkC p (ints (p.rel.map (floorT p.pen)))))]
set_option maxRecDepth 20000 in
set_option maxHeartbeats 8000000 in
theorem step_no (p : Plan) (k ri : Nat) (v : Int) (m : Nat) (hp : planB p = true) (hk : k < p.inf.length) (hr : ri < p.rel.length) (hv : 0 ≤ v ∧ v ≤ 1099511627776) (hb : possB p k v (p.rel.getD ri default) = false) :
    DCalls Try.prog 41 [.ptr 0 0, li v, li k, li ri] (hget (tkH p)) m (.tup [li 0, li 0, lb false]) (hget (tkH p)) := by
  have hc := cost_in hp hk hv hr
  have hin := planB_in hp
  have hkin := hin.2.2.2.2.2.2.2.1 k hk
  have hrin := hin.2.2.2.2.2.2.2.2.1 ri hr
  unfold possB leftI at hb
  have hb := of_decide_eq_false hb
  have hb2 : v + p.inf.getD k default - p.rel.getD ri default < p.res := by omega
  (have := Nonempty.intro hb2)
  (have := Nonempty.intro hk)
  (have := Nonempty.intro hr)
  refine contract (n := 65) (rs := [.tmp 8, .tmp 9, .tmp 10]) (ts := [3, 3, 4]) Try.func41 rfl (by decide) 1 1 [] [] [] (.tup [li 0, li 0, lb false]) (tkH p) (by (exact SD)) (by (exact SD)) ?_
  (repeat' (first | refine swp_seq [0, 1, 2, 3, 8, 9, 10, 11, 12, 38] ?_ | refine st1 ?_ | (show Fct ..; refine fctI (fun hf => ?_)) | (show SWp _ _ _ (.region _ _ true) _ _ _ _; refine xG mixed [] ?_) | (show SWp _ _ _ (.cond _ _ _) _ _ _ _; first | (refine cB (fun hc => ?_) (fun hc => ?_) <;> first | exact False.elim hc | exact absurd hc Bool.false_ne_true | exact absurd hc.symm Bool.false_ne_true | skip) | refine cU ?_ ?_)))
  exact DVR
set_option maxRecDepth 20000 in
set_option maxHeartbeats 8000000 in
theorem step_yes (p : Plan) (k ri : Nat) (v : Int) (m : Nat) (hp : planB p = true) (hk : k < p.inf.length) (hr : ri < p.rel.length) (hv : 0 ≤ v ∧ v ≤ 1099511627776) (hb : possB p k v (p.rel.getD ri default) = true) :
    DCalls Try.prog 41 [.ptr 0 0, li v, li k, li ri] (hget (tkH p)) m (.tup [li (aftI p k v (p.rel.getD ri default)), li (costI p k v (p.rel.getD ri default)), lb true]) (hget (tkH p)) := by
  have hcst := cost_in hp hk hv hr
  have hin := planB_in hp
  have hkin := hin.2.2.2.2.2.2.2.1 k hk
  have hrin := hin.2.2.2.2.2.2.2.2.1 ri hr
  have hfl := hin.2.2.2.2.2.2.2.2.2 (p.rel.getD ri default)
  unfold possB leftI at hb
  have hb := of_decide_eq_true hb
  have hb2 : ¬ (v + p.inf.getD k default - p.rel.getD ri default < p.res) := by omega
  (have := Nonempty.intro hb2)
  (have := Nonempty.intro hk)
  (have := Nonempty.intro hr)
  have hpl : (p.rel.map (floorT p.pen)).length = p.rel.length := List.length_map _
  have hpr : (p.rel.map (floorT p.pen)).getD ri default = floorT p.pen (p.rel.getD ri default) := by
    rw [List.getD_eq_getElem?_getD, List.getElem?_map, List.getD_eq_getElem?_getD, List.getElem?_eq_getElem hr]; rfl
  have hr2 : ri < (p.rel.map (floorT p.pen)).length := by omega
  (have := Nonempty.intro hr2)
  unfold tkH
  generalize p.rel.map (floorT p.pen) = pr at *
  refine contract (n := 65) (rs := [.tmp 8, .tmp 9, .tmp 10]) (ts := [3, 3, 4]) Try.func41 rfl (by decide) 1 1 [] [] [] (.tup [li (aftI p k v (p.rel.getD ri default)), li (costI p k v (p.rel.getD ri default)), lb true]) [(0, .blk 115 (tkC p (ints pr)))] (by (exact SD)) (by (exact SD)) ?_
  (repeat' (first | (show SWp _ _ _ (.seq (.region 5 _ _) _) _ _ _ _; refine (stop_in ?_)) | refine swp_seq [0, 1, 2, 3, 8, 9, 10, 11, 12, 38] ?_ | refine st1 ?_ | (show CallQ ..; first | refine cF ?_ | refine cQ (fun hcc => (by fail)) ?_ | (refine lP ?_; refine lQ (fun hcc m => (by fail)) ?_)) | (show Fct ..; refine fctI (fun hf => ?_)) | (show XCallQ ..; first | refine xcF ?_ | refine xQ (fun hcc => (by fail)) ?_ | (refine xlP ?_; refine xlQ (fun hcc m => (by fail)) ?_)) | (show SWp _ _ _ (.region _ _ true) _ _ _ _; refine xG mixed [] ?_) | (show SWp _ _ _ (.cond _ _ _) _ _ _ _; first | (refine cB (fun hc => ?_) (fun hc => ?_) <;> first | exact False.elim hc | exact absurd hc Bool.false_ne_true | exact absurd hc.symm Bool.false_ne_true | skip) | refine cU ?_ ?_)))
  refine stop_out ?_
  have eS : (if 0 < v + p.inf.getD k default - p.rel.getD ri default - p.cap then v + p.inf.getD k default - p.rel.getD ri default - p.cap else 0) = v + p.inf.getD k default - p.rel.getD ri default - aftI p k v (p.rel.getD ri default) := by
    unfold aftI leftI; split <;> split <;> omega
  rw [eS]
  have eC : costI p k v (p.rel.getD ri default) = floorT p.pen (p.rel.getD ri default) + p.wei * (v + p.inf.getD k default - p.rel.getD ri default - aftI p k v (p.rel.getD ri default)) := rfl
  have eL : leftI p k v (p.rel.getD ri default) = v + p.inf.getD k default - p.rel.getD ri default := rfl
  rw [eC] at hcst ⊢
  rw [eL] at hcst
  clear eC eL eS
  generalize floorT p.pen (p.rel.getD ri default) = F at *
  generalize aftI p k v (p.rel.getD ri default) = AF at *
  obtain ⟨SP, hSP⟩ : ∃ SP, v + p.inf.getD k default - p.rel.getD ri default - AF = SP := ⟨_, rfl⟩
  rw [hSP] at hcst ⊢
  have eA : v + p.inf.getD k default - p.rel.getD ri default - SP = AF := by omega
  (repeat' (first | refine swp_seq [0, 1, 2, 3, 8, 9, 10, 11, 12, 38] ?_ | refine st1 ?_ | (show Fct ..; refine fctI (fun hf => ?_)) | (show SWp _ _ _ (.region _ _ true) _ _ _ _; refine xG mixed [] ?_) | (show SWp _ _ _ (.cond _ _ _) _ _ _ _; first | (refine cB (fun hc => ?_) (fun hc => ?_) <;> first | exact False.elim hc | exact absurd hc Bool.false_ne_true | exact absurd hc.symm Bool.false_ne_true | skip) | refine cU ?_ ?_)))
  (((simp only [push_cast, reduceIte, reduceDIte, reduceCtorEq, Nat.reduceLT, Nat.reduceLeDiff, Nat.reduceEqDiff, Nat.reduceAdd, Nat.reduceMul, Nat.reduceBEq, Nat.reducePow, Int.zero_add, Int.reduceAdd, Int.reduceSub, Int.reduceLT, Int.reduceLE, Int.reduceToNat, Int.reduceNeg, Nat.reduceSub, Int.reduceBNe, Int.reduceBEq, Int.reduceTDiv, Int.reduceTMod, Int.reduceMul]); repeat (simp (disch := omega) only [idx_nat, idx_mapT, i64w, rows_getS, rows_get, getD_set_self, famR_get]; try (simp only [push_cast, reduceIte, reduceDIte, reduceCtorEq, Nat.reduceLT, Nat.reduceLeDiff, Nat.reduceEqDiff, Nat.reduceAdd, Nat.reduceMul, Nat.reduceBEq, Nat.reducePow, Int.zero_add, Int.reduceAdd, Int.reduceSub, Int.reduceLT, Int.reduceLE, Int.reduceToNat, Int.reduceNeg, Nat.reduceSub, Int.reduceBNe, Int.reduceBEq, Int.reduceTDiv, Int.reduceTMod, Int.reduceMul]))))
  rw [eA, hpr]

end Go.Proofs.Ytagalkckebffhaa
