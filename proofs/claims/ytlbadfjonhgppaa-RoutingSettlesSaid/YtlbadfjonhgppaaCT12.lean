/-
  Contracts of functions of the program, over the engine.
  No condition.
-/
import Derived.Test.YtlbadfjonhgppaaCT9e
namespace Go.Proofs.Ytlbadfjonhgppaa
open Go.Eng
set_option linter.all false
attribute [local irreducible] DCallsG SWp Fct CallQ XCallQ LCallQ XLCallQ drun xrun

def rangB (l : List Int) (most : Int) : Bool := (List.range l.length).all fun i => btwB (l.getD i default) 0 most
set_option maxHeartbeats 2000000 in
theorem rRanges_f (l : List Int) (k : Int) (m : Nat) (hl : l.length ≤ 281474976710656) : DCalls Try.prog 11 [ints l, li k] (hget []) m (lb (rangB l k)) (hget []) := by
  refine pureC (n := 25) (rs := [.tmp 4]) (ts := [4]) Try.func11 rfl (by decide) [] (by (exact SD)) ?_
  (repeat' (first | refine swp_seq [0, 1, 4, 5, 9, 24] ?_ | refine st1 ?_ | (show Fct ..; refine fctI (fun hf => ?_)) | (show SWp _ _ _ (.region _ _ true) _ _ _ _; refine xG mixed [] ?_) | (show SWp _ _ _ (.cond _ _ _) _ _ _ _; first | (refine cB (fun hc => ?_) (fun hc => ?_) <;> first | exact False.elim hc | exact absurd hc Bool.false_ne_true | exact absurd hc.symm Bool.false_ne_true | skip) | refine cU ?_ ?_)))
  refine loop_swp [0, 1, 5] [] 0 (fun q A H => ∃ i : Nat, i ≤ l.length ∧ q = l.length - i ∧ (∀ j, j < i → btwB (l.getD j default) 0 k = true) ∧ A = [(0, ints l), (1, li k), (5, li i)] ∧ H = []) (by omega) ?_ ?_ ?_
  · rintro q A H ⟨i, h1, h2, h3, rfl, rfl⟩
    exact ⟨by (exact SD), by (exact SD)⟩
  · refine ⟨_, 0, by omega, rfl, by omega, ?_, ?_⟩
    · (((simp only [push_cast, reduceIte, reduceDIte, reduceCtorEq, Nat.reduceLT, Nat.reduceLeDiff, Nat.reduceEqDiff, Nat.reduceAdd, Nat.reduceMul, Nat.reduceBEq, Nat.reducePow, Int.zero_add, Int.reduceAdd, Int.reduceSub, Int.reduceLT, Int.reduceLE, Int.reduceToNat, Int.reduceNeg, Nat.reduceSub, Int.reduceBNe, Int.reduceBEq]); repeat (simp (disch := omega) only [idx_nat, idx_mapT, i64w, rows_getS, rows_get, getD_set_self, famR_get]; try (simp only [push_cast, reduceIte, reduceDIte, reduceCtorEq, Nat.reduceLT, Nat.reduceLeDiff, Nat.reduceEqDiff, Nat.reduceAdd, Nat.reduceMul, Nat.reduceBEq, Nat.reducePow, Int.zero_add, Int.reduceAdd, Int.reduceSub, Int.reduceLT, Int.reduceLE, Int.reduceToNat, Int.reduceNeg, Nat.reduceSub, Int.reduceBNe, Int.reduceBEq]))))
    · (((simp only [push_cast, reduceIte, reduceDIte, reduceCtorEq, Nat.reduceLT, Nat.reduceLeDiff, Nat.reduceEqDiff, Nat.reduceAdd, Nat.reduceMul, Nat.reduceBEq, Nat.reducePow, Int.zero_add, Int.reduceAdd, Int.reduceSub, Int.reduceLT, Int.reduceLE, Int.reduceToNat, Int.reduceNeg, Nat.reduceSub, Int.reduceBNe, Int.reduceBEq]); repeat (simp (disch := omega) only [idx_nat, idx_mapT, i64w, rows_getS, rows_get, getD_set_self, famR_get]; try (simp only [push_cast, reduceIte, reduceDIte, reduceCtorEq, Nat.reduceLT, Nat.reduceLeDiff, Nat.reduceEqDiff, Nat.reduceAdd, Nat.reduceMul, Nat.reduceBEq, Nat.reducePow, Int.zero_add, Int.reduceAdd, Int.reduceSub, Int.reduceLT, Int.reduceLE, Int.reduceToNat, Int.reduceNeg, Nat.reduceSub, Int.reduceBNe, Int.reduceBEq]))))
  rintro q A H ⟨i, h1, h2, h3, rfl, rfl⟩
  (repeat' (first | refine swp_seq [0, 1, 4, 5, 9, 24] ?_ | refine st1 ?_ | (show Fct ..; refine fctI (fun hf => ?_)) | (show SWp _ _ _ (.region _ _ true) _ _ _ _; refine xG mixed [] ?_) | (show SWp _ _ _ (.cond _ _ _) _ _ _ _; first | (refine cB (fun hc => ?_) (fun hc => ?_) <;> first | exact False.elim hc | exact absurd hc Bool.false_ne_true | exact absurd hc.symm Bool.false_ne_true | skip) | refine cU ?_ ?_)))
  · (((simp only [push_cast, reduceIte, reduceDIte, reduceCtorEq, Nat.reduceLT, Nat.reduceLeDiff, Nat.reduceEqDiff, Nat.reduceAdd, Nat.reduceMul, Nat.reduceBEq, Nat.reducePow, Int.zero_add, Int.reduceAdd, Int.reduceSub, Int.reduceLT, Int.reduceLE, Int.reduceToNat, Int.reduceNeg, Nat.reduceSub, Int.reduceBNe, Int.reduceBEq]); repeat (simp (disch := omega) only [idx_nat, idx_mapT, i64w, rows_getS, rows_get, getD_set_self, famR_get]; try (simp only [push_cast, reduceIte, reduceDIte, reduceCtorEq, Nat.reduceLT, Nat.reduceLeDiff, Nat.reduceEqDiff, Nat.reduceAdd, Nat.reduceMul, Nat.reduceBEq, Nat.reducePow, Int.zero_add, Int.reduceAdd, Int.reduceSub, Int.reduceLT, Int.reduceLE, Int.reduceToNat, Int.reduceNeg, Nat.reduceSub, Int.reduceBNe, Int.reduceBEq]))))
    refine lbC ?_
    unfold rangB
    rw [rall_false (i := i) (by omega) (by unfold btwB; clear h3; grind)]
  · (refine lN [] ?_)
    exact ⟨_, by omega, i + 1, by omega, rfl, all_next h3 (by unfold btwB; clear h3; grind), rfl, rfl⟩
  · (((simp only [push_cast, reduceIte, reduceDIte, reduceCtorEq, Nat.reduceLT, Nat.reduceLeDiff, Nat.reduceEqDiff, Nat.reduceAdd, Nat.reduceMul, Nat.reduceBEq, Nat.reducePow, Int.zero_add, Int.reduceAdd, Int.reduceSub, Int.reduceLT, Int.reduceLE, Int.reduceToNat, Int.reduceNeg, Nat.reduceSub, Int.reduceBNe, Int.reduceBEq]); repeat (simp (disch := omega) only [idx_nat, idx_mapT, i64w, rows_getS, rows_get, getD_set_self, famR_get]; try (simp only [push_cast, reduceIte, reduceDIte, reduceCtorEq, Nat.reduceLT, Nat.reduceLeDiff, Nat.reduceEqDiff, Nat.reduceAdd, Nat.reduceMul, Nat.reduceBEq, Nat.reducePow, Int.zero_add, Int.reduceAdd, Int.reduceSub, Int.reduceLT, Int.reduceLE, Int.reduceToNat, Int.reduceNeg, Nat.reduceSub, Int.reduceBNe, Int.reduceBEq]))))
    refine lbC ?_
    unfold rangB
    rw [rall_true fun j hj => h3 j (by omega)]
def selI (p : Nat → Bool) (l : List Int) : Nat → Int
  | 0 => 0
  | i + 1 => if p i then selI p l i + l.getD i default else selI p l i
theorem selI_le {p : Nat → Bool} {l : List Int} {b : Int} (h : ∀ i, i < l.length → 0 ≤ l.getD i default ∧ l.getD i default ≤ b) : ∀ i, i ≤ l.length → 0 ≤ selI p l i ∧ selI p l i ≤ i * b
  | 0, _ => by simp [selI]
  | i + 1, hi => by
    have h1 := selI_le (p := p) h i (by omega)
    have h2 := h i (by omega)
    have : ((i + 1 : Nat) : Int) * b = i * b + b := by push_cast; rw [Int.add_mul]; omega
    unfold selI
    split <;> omega
theorem selI_congr {p q : Nat → Bool} {l : List Int} : ∀ {i : Nat}, (∀ j, j < i → p j = q j) → selI p l i = selI q l i
  | 0, _ => rfl
  | i + 1, h => by
    unfold selI
    rw [h i (by omega), selI_congr fun j hj => h j (by omega)]
def toB (n : Net) (k : Nat) (i : Nat) : Bool := decide ((n.links.getD i default).til = (n.nodes.getD k default).name)
def froB (n : Net) (k : Nat) (i : Nat) : Bool := decide ((n.links.getD i default).fro = (n.nodes.getD k default).name)
theorem rang_at {l : List Int} {b : Int} (h : rangB l b = true) : ∀ i, i < l.length → 0 ≤ l.getD i default ∧ l.getD i default ≤ b := fun i hi => by
  unfold rangB at h
  rw [List.all_eq_true] at h
  have := h i (List.mem_range.2 hi)
  unfold btwB at this
  simp at this
  simp only [List.getD_eq_getElem?_getD]
  exact this
set_option maxRecDepth 20000 in
set_option maxHeartbeats 8000000 in
theorem rPassed_f (n : Net) (k : Nat) (l : List Int) (m : Nat) (h1 : n.nodes.length ≤ 300) (h2 : n.links.length ≤ 400) (hk : k < n.nodes.length) (hl : l.length = n.links.length) (hr : rangB l 9007199254740992 = true) :
    DCalls Try.prog 12 [netD n, li k, ints l] (hget []) m (.tup [li (selI (toB n k) l n.links.length), li (selI (froB n k) l n.links.length)]) (hget []) := by
  have hb := rang_at hr
  refine pureC (n := 58) (rs := [.tmp 6, .tmp 7]) (ts := [3, 3]) Try.func12 rfl (by decide) [] (by (exact SD)) ?_
  (repeat' (first | refine swp_seq [0, 1, 2, 3, 6, 7, 8, 9, 10, 15, 30, 49] ?_ | refine st1 ?_ | (show Fct ..; refine fctI (fun hf => ?_)) | (show SWp _ _ _ (.region _ _ true) _ _ _ _; refine xG mixed [] ?_) | (show SWp _ _ _ (.cond _ _ _) _ _ _ _; first | (refine cB (fun hc => ?_) (fun hc => ?_) <;> first | exact False.elim hc | exact absurd hc Bool.false_ne_true | exact absurd hc.symm Bool.false_ne_true | skip) | refine cU ?_ ?_)))
  refine loop_swp [1, 2, 3, 8, 9, 10] [0] 1 (fun q A H => ∃ i : Nat, i ≤ n.links.length ∧ q = n.links.length - i ∧ A = [(1, li k), (2, ints l), (3, .ptr 0 0), (8, li (selI (toB n k) l i)), (9, li (selI (froB n k) l i)), (10, li i)] ∧ H = [(0, .blk 25 (netC n))]) (by omega) ?_ ?_ ?_
  · rintro q A H ⟨i, h1, h2, rfl, rfl⟩
    exact ⟨by (exact SD), by (exact SD)⟩
  · refine ⟨_, 0, by omega, rfl, ?_, ?_⟩
    · (((simp only [push_cast, reduceIte, reduceDIte, reduceCtorEq, Nat.reduceLT, Nat.reduceLeDiff, Nat.reduceEqDiff, Nat.reduceAdd, Nat.reduceMul, Nat.reduceBEq, Nat.reducePow, Int.zero_add, Int.reduceAdd, Int.reduceSub, Int.reduceLT, Int.reduceLE, Int.reduceToNat, Int.reduceNeg, Nat.reduceSub, Int.reduceBNe, Int.reduceBEq]); repeat (simp (disch := omega) only [idx_nat, idx_mapT, i64w, rows_getS, rows_get, getD_set_self, famR_get]; try (simp only [push_cast, reduceIte, reduceDIte, reduceCtorEq, Nat.reduceLT, Nat.reduceLeDiff, Nat.reduceEqDiff, Nat.reduceAdd, Nat.reduceMul, Nat.reduceBEq, Nat.reducePow, Int.zero_add, Int.reduceAdd, Int.reduceSub, Int.reduceLT, Int.reduceLE, Int.reduceToNat, Int.reduceNeg, Nat.reduceSub, Int.reduceBNe, Int.reduceBEq])))); rfl
    · (((simp only [push_cast, reduceIte, reduceDIte, reduceCtorEq, Nat.reduceLT, Nat.reduceLeDiff, Nat.reduceEqDiff, Nat.reduceAdd, Nat.reduceMul, Nat.reduceBEq, Nat.reducePow, Int.zero_add, Int.reduceAdd, Int.reduceSub, Int.reduceLT, Int.reduceLE, Int.reduceToNat, Int.reduceNeg, Nat.reduceSub, Int.reduceBNe, Int.reduceBEq]); repeat (simp (disch := omega) only [idx_nat, idx_mapT, i64w, rows_getS, rows_get, getD_set_self, famR_get]; try (simp only [push_cast, reduceIte, reduceDIte, reduceCtorEq, Nat.reduceLT, Nat.reduceLeDiff, Nat.reduceEqDiff, Nat.reduceAdd, Nat.reduceMul, Nat.reduceBEq, Nat.reducePow, Int.zero_add, Int.reduceAdd, Int.reduceSub, Int.reduceLT, Int.reduceLE, Int.reduceToNat, Int.reduceNeg, Nat.reduceSub, Int.reduceBNe, Int.reduceBEq]))))
  rintro q A H ⟨i, k1, k2, rfl, rfl⟩
  by_cases hi : i < n.links.length
  · have e1 := selI_le (p := toB n k) hb i (by omega)
    have e2 := selI_le (p := froB n k) hb i (by omega)
    have e3 := hb i (by omega)
    have f1 : selI (toB n k) l (i + 1) = if toB n k i then selI (toB n k) l i + l.getD i default else selI (toB n k) l i := rfl
    have f2 : selI (froB n k) l (i + 1) = if froB n k i then selI (froB n k) l i + l.getD i default else selI (froB n k) l i := rfl
    have g1 : toB n k i = decide ((n.links.getD i default).til = (n.nodes.getD k default).name) := rfl
    have g2 : froB n k i = decide ((n.links.getD i default).fro = (n.nodes.getD k default).name) := rfl
    generalize hT : selI (toB n k) l i = X at *
    generalize hF : selI (froB n k) l i = Y at *
    by_cases ht : (n.links.getD i default).til = (n.nodes.getD k default).name
    · rw [decide_eq_true ht] at g1
      rw [g1, if_pos rfl] at f1
      (have := Nonempty.intro ht)
      by_cases hf : (n.links.getD i default).fro = (n.nodes.getD k default).name
      · rw [decide_eq_true hf] at g2
        rw [g2, if_pos rfl] at f2
        (have := Nonempty.intro hf)
        (repeat' (first | refine swp_seq [0, 1, 2, 3, 6, 7, 8, 9, 10, 15, 30, 49] ?_ | refine st1 ?_ | (show Fct ..; refine fctI (fun hf => ?_)) | (show SWp _ _ _ (.region _ _ true) _ _ _ _; refine xG mixed [] ?_) | (show SWp _ _ _ (.cond _ _ _) _ _ _ _; first | (refine cB (fun hc => ?_) (fun hc => ?_) <;> first | exact False.elim hc | exact absurd hc Bool.false_ne_true | exact absurd hc.symm Bool.false_ne_true | skip) | refine cU ?_ ?_)))
        · (refine lN [0] ?_)
          exact ⟨_, by omega, i + 1, by omega, rfl, by rw [f1, f2]; rfl, rfl⟩
        · omega
      · rw [decide_eq_false hf] at g2
        rw [g2, if_neg Bool.false_ne_true] at f2
        (have := Nonempty.intro hf)
        (repeat' (first | refine swp_seq [0, 1, 2, 3, 6, 7, 8, 9, 10, 15, 30, 49] ?_ | refine st1 ?_ | (show Fct ..; refine fctI (fun hf => ?_)) | (show SWp _ _ _ (.region _ _ true) _ _ _ _; refine xG mixed [] ?_) | (show SWp _ _ _ (.cond _ _ _) _ _ _ _; first | (refine cB (fun hc => ?_) (fun hc => ?_) <;> first | exact False.elim hc | exact absurd hc Bool.false_ne_true | exact absurd hc.symm Bool.false_ne_true | skip) | refine cU ?_ ?_)))
        · (refine lN [0] ?_)
          exact ⟨_, by omega, i + 1, by omega, rfl, by rw [f1, f2]; rfl, rfl⟩
        · omega
    · rw [decide_eq_false ht] at g1
      rw [g1, if_neg Bool.false_ne_true] at f1
      (have := Nonempty.intro ht)
      by_cases hf : (n.links.getD i default).fro = (n.nodes.getD k default).name
      · rw [decide_eq_true hf] at g2
        rw [g2, if_pos rfl] at f2
        (have := Nonempty.intro hf)
        (repeat' (first | refine swp_seq [0, 1, 2, 3, 6, 7, 8, 9, 10, 15, 30, 49] ?_ | refine st1 ?_ | (show Fct ..; refine fctI (fun hf => ?_)) | (show SWp _ _ _ (.region _ _ true) _ _ _ _; refine xG mixed [] ?_) | (show SWp _ _ _ (.cond _ _ _) _ _ _ _; first | (refine cB (fun hc => ?_) (fun hc => ?_) <;> first | exact False.elim hc | exact absurd hc Bool.false_ne_true | exact absurd hc.symm Bool.false_ne_true | skip) | refine cU ?_ ?_)))
        · (refine lN [0] ?_)
          exact ⟨_, by omega, i + 1, by omega, rfl, by rw [f1, f2]; rfl, rfl⟩
        · omega
      · rw [decide_eq_false hf] at g2
        rw [g2, if_neg Bool.false_ne_true] at f2
        (have := Nonempty.intro hf)
        (repeat' (first | refine swp_seq [0, 1, 2, 3, 6, 7, 8, 9, 10, 15, 30, 49] ?_ | refine st1 ?_ | (show Fct ..; refine fctI (fun hf => ?_)) | (show SWp _ _ _ (.region _ _ true) _ _ _ _; refine xG mixed [] ?_) | (show SWp _ _ _ (.cond _ _ _) _ _ _ _; first | (refine cB (fun hc => ?_) (fun hc => ?_) <;> first | exact False.elim hc | exact absurd hc Bool.false_ne_true | exact absurd hc.symm Bool.false_ne_true | skip) | refine cU ?_ ?_)))
        · (refine lN [0] ?_)
          exact ⟨_, by omega, i + 1, by omega, rfl, by rw [f1, f2]; rfl, rfl⟩
        · omega
  have hi2 : i = n.links.length := by omega
  subst hi2
  (repeat' (first | refine swp_seq [0, 1, 2, 3, 6, 7, 8, 9, 10, 15, 30, 49] ?_ | refine st1 ?_ | (show Fct ..; refine fctI (fun hf => ?_)) | (show SWp _ _ _ (.region _ _ true) _ _ _ _; refine xG mixed [] ?_) | (show SWp _ _ _ (.cond _ _ _) _ _ _ _; first | (refine cB (fun hc => ?_) (fun hc => ?_) <;> first | exact False.elim hc | exact absurd hc Bool.false_ne_true | exact absurd hc.symm Bool.false_ne_true | skip) | refine cU ?_ ?_)))
  · omega
  (((simp only [push_cast, reduceIte, reduceDIte, reduceCtorEq, Nat.reduceLT, Nat.reduceLeDiff, Nat.reduceEqDiff, Nat.reduceAdd, Nat.reduceMul, Nat.reduceBEq, Nat.reducePow, Int.zero_add, Int.reduceAdd, Int.reduceSub, Int.reduceLT, Int.reduceLE, Int.reduceToNat, Int.reduceNeg, Nat.reduceSub, Int.reduceBNe, Int.reduceBEq]); repeat (simp (disch := omega) only [idx_nat, idx_mapT, i64w, rows_getS, rows_get, getD_set_self, famR_get]; try (simp only [push_cast, reduceIte, reduceDIte, reduceCtorEq, Nat.reduceLT, Nat.reduceLeDiff, Nat.reduceEqDiff, Nat.reduceAdd, Nat.reduceMul, Nat.reduceBEq, Nat.reducePow, Int.zero_add, Int.reduceAdd, Int.reduceSub, Int.reduceLT, Int.reduceLE, Int.reduceToNat, Int.reduceNeg, Nat.reduceSub, Int.reduceBNe, Int.reduceBEq]))))

end Go.Proofs.Ytlbadfjonhgppaa
