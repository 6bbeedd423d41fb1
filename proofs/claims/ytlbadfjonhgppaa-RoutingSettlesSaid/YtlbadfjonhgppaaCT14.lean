/-
  Contracts of functions of the program, over the engine.
  No condition.
-/
import Derived.Test.YtlbadfjonhgppaaCT11T13T18
import Derived.Test.YtlbadfjonhgppaaCT12
namespace Go.Proofs.Ytlbadfjonhgppaa
open Go.Eng
set_option linter.all false
attribute [local irreducible] DCallsG SWp Fct CallQ XCallQ LCallQ XLCallQ drun xrun

theorem rwithin_f (n k : Int) (m : Nat) : DCalls Try.prog 34 [li n, li k] (hget []) m (lb (btwB n 0 k)) (hget []) := by
  refine pureC (n := 12) (rs := [.tmp 4]) (ts := [4]) Try.func34 rfl (by decide) [] (by (exact SD)) ?_
  (repeat' (first | refine swp_seq [0, 1, 4] ?_ | refine st1 ?_ | (show Fct ..; refine fctI (fun hf => ?_)) | (show SWp _ _ _ (.region _ _ true) _ _ _ _; refine xG mixed [] ?_) | (show SWp _ _ _ (.cond _ _ _) _ _ _ _; first | (refine cB (fun hc => ?_) (fun hc => ?_) <;> first | exact False.elim hc | exact absurd hc Bool.false_ne_true | exact absurd hc.symm Bool.false_ne_true | skip) | refine cU ?_ ?_)))
  (((simp only [push_cast, reduceIte, reduceDIte, reduceCtorEq, Nat.reduceLT, Nat.reduceLeDiff, Nat.reduceEqDiff, Nat.reduceAdd, Nat.reduceMul, Nat.reduceBEq, Nat.reducePow, Int.zero_add, Int.reduceAdd, Int.reduceSub, Int.reduceLT, Int.reduceLE, Int.reduceToNat, Int.reduceNeg, Nat.reduceSub, Int.reduceBNe, Int.reduceBEq]); repeat (simp (disch := omega) only [idx_nat, idx_mapT, i64w, rows_getS, rows_get, getD_set_self, famR_get]; try (simp only [push_cast, reduceIte, reduceDIte, reduceCtorEq, Nat.reduceLT, Nat.reduceLeDiff, Nat.reduceEqDiff, Nat.reduceAdd, Nat.reduceMul, Nat.reduceBEq, Nat.reducePow, Int.zero_add, Int.reduceAdd, Int.reduceSub, Int.reduceLT, Int.reduceLE, Int.reduceToNat, Int.reduceNeg, Nat.reduceSub, Int.reduceBNe, Int.reduceBEq])))); rfl
theorem passed1_f (n : Int) (m : Nat) : DCalls Try.prog 33 [li n] (hget []) m (lb (!btwB n 0 9007199254740992)) (hget []) := by
  refine pureC (n := 6) (rs := [.tmp 2]) (ts := [4]) Try.func33 rfl (by decide) [] (by (exact SD)) ?_
  (repeat' (first | refine swp_seq [0, 2] ?_ | refine st1 ?_ | (show CallQ ..; first | refine cF ?_ | refine cQ (fun hcc => (rwithin_f _ _ _)) ?_ | (refine lP ?_; refine lQ (fun hcc m => (rwithin_f _ _ _)) ?_)) | (show Fct ..; refine fctI (fun hf => ?_)) | (show XCallQ ..; first | refine xcF ?_ | refine xQ (fun hcc => (rwithin_f _ _ _)) ?_ | (refine xlP ?_; refine xlQ (fun hcc m => (rwithin_f _ _ _)) ?_)) | (show SWp _ _ _ (.region _ _ true) _ _ _ _; refine xG mixed [] ?_) | (show SWp _ _ _ (.cond _ _ _) _ _ _ _; first | (refine cB (fun hc => ?_) (fun hc => ?_) <;> first | exact False.elim hc | exact absurd hc Bool.false_ne_true | exact absurd hc.symm Bool.false_ne_true | skip) | refine cU ?_ ?_)))
  (((simp only [push_cast, reduceIte, reduceDIte, reduceCtorEq, Nat.reduceLT, Nat.reduceLeDiff, Nat.reduceEqDiff, Nat.reduceAdd, Nat.reduceMul, Nat.reduceBEq, Nat.reducePow, Int.zero_add, Int.reduceAdd, Int.reduceSub, Int.reduceLT, Int.reduceLE, Int.reduceToNat, Int.reduceNeg, Nat.reduceSub, Int.reduceBNe, Int.reduceBEq]); repeat (simp (disch := omega) only [idx_nat, idx_mapT, i64w, rows_getS, rows_get, getD_set_self, famR_get]; try (simp only [push_cast, reduceIte, reduceDIte, reduceCtorEq, Nat.reduceLT, Nat.reduceLeDiff, Nat.reduceEqDiff, Nat.reduceAdd, Nat.reduceMul, Nat.reduceBEq, Nat.reducePow, Int.zero_add, Int.reduceAdd, Int.reduceSub, Int.reduceLT, Int.reduceLE, Int.reduceToNat, Int.reduceNeg, Nat.reduceSub, Int.reduceBNe, Int.reduceBEq]))))
theorem any_rang (l : List Int) (k : Int) : (l.any fun n => !btwB n 0 k) = !rangB l k := by
  unfold rangB
  rw [Bool.eq_iff_iff]
  simp only [List.any_eq_true, Bool.not_eq_true', List.all_eq_false, List.mem_range, Bool.not_eq_true]
  constructor
  · rintro ⟨x, hx, hb⟩
    obtain ⟨i, hi, rfl⟩ := List.mem_iff_getElem.1 hx
    exact ⟨i, hi, by rw [List.getD_eq_getElem?_getD, List.getElem?_eq_getElem hi]; exact hb⟩
  · rintro ⟨i, hi, hb⟩
    exact ⟨_, getD_mem hi, hb⟩
def passE (n : Net) (k : Int) (l : List Int) : Int := if netB n = false then 1 else if k < 0 ∨ (n.nodes.length : Int) ≤ k then 2 else if l.length ≠ n.links.length then 3 else if rangB l 9007199254740992 = false then 2 else 0
theorem idx_eq {n : Net} (hv : netB n = true) {k : Nat} (hk : k < n.nodes.length) (s : ByteArray) : nodeIx n.nodes s = (k : Int) ↔ s = (n.nodes.getD k default).name := by
  have hok := netB_okN hv hk
  unfold okN at hok
  simp only [Bool.and_eq_true, decide_eq_true_eq] at hok
  constructor
  · intro h
    unfold nodeIx idxI at h
    cases hf : n.nodes.findIdx? (fun x => decide (x.name = s)) with
    | none =>
      rw [hf] at h
      have : (-1 : Int) = (k : Int) := h
      omega
    | some i =>
      rw [hf] at h
      have e : i = k := by
        have : (i : Int) = (k : Int) := h
        omega
      subst e
      rw [List.findIdx?_eq_some_iff_getElem] at hf
      obtain ⟨hi, hp, _⟩ := hf
      simp at hp
      rw [List.getD_eq_getElem?_getD, List.getElem?_eq_getElem hi]
      exact hp.symm
  · rintro rfl
    exact hok.2
set_option maxRecDepth 20000 in
set_option maxHeartbeats 8000000 in
theorem passed_f (n : Net) (k : Int) (l : List Int) (m : Nat) (hn : netOk n) (h14 : n.nodes.length ≤ 14) (hl : l.length ≤ 281474976710656) : DCalls Try.prog 9 [netD n, li k, ints l] (hget []) m
    (if passE n k l = 0 then .tup [li (selI (toB n k.toNat) l n.links.length), li (selI (froB n k.toNat) l n.links.length), li 0] else .tup [li 0, li 0, li (passE n k l)]) (hget []) := by
  have cv := fun m => netValid_f n m hn
  have cr := fun m => conInt_f 33 (fun n => !btwB n 0 9007199254740992) l m hl (fun x _ m => passed1_f x m)
  simp only [any_rang] at cr
  cases hv : netB n <;> simp only [hv] at cv
  · have : passE n k l = 1 := by unfold passE; rw [if_pos hv]
    rw [this]
    refine pureC (n := 72) (rs := [.tmp 6, .tmp 7, .tmp 8]) (ts := [3, 3, 33]) Try.func9 rfl (by decide) [] (by (exact SD)) ?_
    (repeat' (first | refine swp_seq [0, 1, 2, 3, 6, 7, 8, 10, 11, 12, 13, 17, 27, 34, 42, 43, 44, 45, 55, 65] ?_ | refine st1 ?_ | (show CallQ ..; first | refine cF ?_ | refine cQ (fun hcc => (cv _)) ?_ | (refine lP ?_; refine lQ (fun hcc m => (cv _)) ?_)) | (show Fct ..; refine fctI (fun hf => ?_)) | (show XCallQ ..; first | refine xcF ?_ | refine xQ (fun hcc => (cv _)) ?_ | (refine xlP ?_; refine xlQ (fun hcc m => (cv _)) ?_)) | (show SWp _ _ _ (.region _ _ true) _ _ _ _; refine xG mixed [] ?_) | (show SWp _ _ _ (.cond _ _ _) _ _ _ _; first | (refine cB (fun hc => ?_) (fun hc => ?_) <;> first | exact False.elim hc | exact absurd hc Bool.false_ne_true | exact absurd hc.symm Bool.false_ne_true | skip) | refine cU ?_ ?_)))
    (((simp only [push_cast, reduceIte, reduceDIte, reduceCtorEq, Nat.reduceLT, Nat.reduceLeDiff, Nat.reduceEqDiff, Nat.reduceAdd, Nat.reduceMul, Nat.reduceBEq, Nat.reducePow, Int.zero_add, Int.reduceAdd, Int.reduceSub, Int.reduceLT, Int.reduceLE, Int.reduceToNat, Int.reduceNeg, Nat.reduceSub, Int.reduceBNe, Int.reduceBEq]); repeat (simp (disch := omega) only [idx_nat, idx_mapT, i64w, rows_getS, rows_get, getD_set_self, famR_get]; try (simp only [push_cast, reduceIte, reduceDIte, reduceCtorEq, Nat.reduceLT, Nat.reduceLeDiff, Nat.reduceEqDiff, Nat.reduceAdd, Nat.reduceMul, Nat.reduceBEq, Nat.reducePow, Int.zero_add, Int.reduceAdd, Int.reduceSub, Int.reduceLT, Int.reduceLE, Int.reduceToNat, Int.reduceNeg, Nat.reduceSub, Int.reduceBNe, Int.reduceBEq])))); rfl
  have a1 := netB_len hv
  by_cases hk : k < 0 ∨ (n.nodes.length : Int) ≤ k
  · have : passE n k l = 2 := by unfold passE; rw [if_neg (by rw [hv]; simp), if_pos hk]
    rw [this]
    refine pureC (n := 72) (rs := [.tmp 6, .tmp 7, .tmp 8]) (ts := [3, 3, 33]) Try.func9 rfl (by decide) [] (by (exact SD)) ?_
    (repeat' (first | refine swp_seq [0, 1, 2, 3, 6, 7, 8, 10, 11, 12, 13, 17, 27, 34, 42, 43, 44, 45, 55, 65] ?_ | refine st1 ?_ | (show CallQ ..; first | refine cF ?_ | refine cQ (fun hcc => (cv _)) ?_ | (refine lP ?_; refine lQ (fun hcc m => (cv _)) ?_)) | (show Fct ..; refine fctI (fun hf => ?_)) | (show XCallQ ..; first | refine xcF ?_ | refine xQ (fun hcc => (cv _)) ?_ | (refine xlP ?_; refine xlQ (fun hcc m => (cv _)) ?_)) | (show SWp _ _ _ (.region _ _ true) _ _ _ _; refine xG mixed [] ?_) | (show SWp _ _ _ (.cond _ _ _) _ _ _ _; first | (refine cB (fun hc => ?_) (fun hc => ?_) <;> first | exact False.elim hc | exact absurd hc Bool.false_ne_true | exact absurd hc.symm Bool.false_ne_true | skip) | refine cU ?_ ?_)))
    · (((simp only [push_cast, reduceIte, reduceDIte, reduceCtorEq, Nat.reduceLT, Nat.reduceLeDiff, Nat.reduceEqDiff, Nat.reduceAdd, Nat.reduceMul, Nat.reduceBEq, Nat.reducePow, Int.zero_add, Int.reduceAdd, Int.reduceSub, Int.reduceLT, Int.reduceLE, Int.reduceToNat, Int.reduceNeg, Nat.reduceSub, Int.reduceBNe, Int.reduceBEq]); repeat (simp (disch := omega) only [idx_nat, idx_mapT, i64w, rows_getS, rows_get, getD_set_self, famR_get]; try (simp only [push_cast, reduceIte, reduceDIte, reduceCtorEq, Nat.reduceLT, Nat.reduceLeDiff, Nat.reduceEqDiff, Nat.reduceAdd, Nat.reduceMul, Nat.reduceBEq, Nat.reducePow, Int.zero_add, Int.reduceAdd, Int.reduceSub, Int.reduceLT, Int.reduceLE, Int.reduceToNat, Int.reduceNeg, Nat.reduceSub, Int.reduceBNe, Int.reduceBEq])))); rfl
    all_goals omega
  by_cases hL : ¬ l.length = n.links.length
  · have : passE n k l = 3 := by unfold passE; rw [if_neg (by rw [hv]; simp), if_neg hk, if_pos hL]
    rw [this]
    refine pureC (n := 72) (rs := [.tmp 6, .tmp 7, .tmp 8]) (ts := [3, 3, 33]) Try.func9 rfl (by decide) [] (by (exact SD)) ?_
    (repeat' (first | refine swp_seq [0, 1, 2, 3, 6, 7, 8, 10, 11, 12, 13, 17, 27, 34, 42, 43, 44, 45, 55, 65] ?_ | refine st1 ?_ | (show CallQ ..; first | refine cF ?_ | refine cQ (fun hcc => (cv _)) ?_ | (refine lP ?_; refine lQ (fun hcc m => (cv _)) ?_)) | (show Fct ..; refine fctI (fun hf => ?_)) | (show XCallQ ..; first | refine xcF ?_ | refine xQ (fun hcc => (cv _)) ?_ | (refine xlP ?_; refine xlQ (fun hcc m => (cv _)) ?_)) | (show SWp _ _ _ (.region _ _ true) _ _ _ _; refine xG mixed [] ?_) | (show SWp _ _ _ (.cond _ _ _) _ _ _ _; first | (refine cB (fun hc => ?_) (fun hc => ?_) <;> first | exact False.elim hc | exact absurd hc Bool.false_ne_true | exact absurd hc.symm Bool.false_ne_true | skip) | refine cU ?_ ?_)))
    · omega
    · (((simp only [push_cast, reduceIte, reduceDIte, reduceCtorEq, Nat.reduceLT, Nat.reduceLeDiff, Nat.reduceEqDiff, Nat.reduceAdd, Nat.reduceMul, Nat.reduceBEq, Nat.reducePow, Int.zero_add, Int.reduceAdd, Int.reduceSub, Int.reduceLT, Int.reduceLE, Int.reduceToNat, Int.reduceNeg, Nat.reduceSub, Int.reduceBNe, Int.reduceBEq]); repeat (simp (disch := omega) only [idx_nat, idx_mapT, i64w, rows_getS, rows_get, getD_set_self, famR_get]; try (simp only [push_cast, reduceIte, reduceDIte, reduceCtorEq, Nat.reduceLT, Nat.reduceLeDiff, Nat.reduceEqDiff, Nat.reduceAdd, Nat.reduceMul, Nat.reduceBEq, Nat.reducePow, Int.zero_add, Int.reduceAdd, Int.reduceSub, Int.reduceLT, Int.reduceLE, Int.reduceToNat, Int.reduceNeg, Nat.reduceSub, Int.reduceBNe, Int.reduceBEq])))); rfl
    all_goals omega
  cases hr : rangB l 9007199254740992 <;> simp only [hr] at cr
  · have : passE n k l = 2 := by unfold passE; rw [if_neg (by rw [hv]; simp), if_neg hk, if_neg (by omega), if_pos hr]
    rw [this]
    refine pureC (n := 72) (rs := [.tmp 6, .tmp 7, .tmp 8]) (ts := [3, 3, 33]) Try.func9 rfl (by decide) [] (by (exact SD)) ?_
    (repeat' (first | refine swp_seq [0, 1, 2, 3, 6, 7, 8, 10, 11, 12, 13, 17, 27, 34, 42, 43, 44, 45, 55, 65] ?_ | refine st1 ?_ | (show CallQ ..; first | refine cF ?_ | refine cQ (fun hcc => (by first | exact cv _ | exact cr _)) ?_ | (refine lP ?_; refine lQ (fun hcc m => (by first | exact cv _ | exact cr _)) ?_)) | (show Fct ..; refine fctI (fun hf => ?_)) | (show XCallQ ..; first | refine xcF ?_ | refine xQ (fun hcc => (by first | exact cv _ | exact cr _)) ?_ | (refine xlP ?_; refine xlQ (fun hcc m => (by first | exact cv _ | exact cr _)) ?_)) | (show SWp _ _ _ (.region _ _ true) _ _ _ _; refine xG mixed [] ?_) | (show SWp _ _ _ (.cond _ _ _) _ _ _ _; first | (refine cB (fun hc => ?_) (fun hc => ?_) <;> first | exact False.elim hc | exact absurd hc Bool.false_ne_true | exact absurd hc.symm Bool.false_ne_true | skip) | refine cU ?_ ?_)))
    · omega
    · omega
    · (((simp only [push_cast, reduceIte, reduceDIte, reduceCtorEq, Nat.reduceLT, Nat.reduceLeDiff, Nat.reduceEqDiff, Nat.reduceAdd, Nat.reduceMul, Nat.reduceBEq, Nat.reducePow, Int.zero_add, Int.reduceAdd, Int.reduceSub, Int.reduceLT, Int.reduceLE, Int.reduceToNat, Int.reduceNeg, Nat.reduceSub, Int.reduceBNe, Int.reduceBEq]); repeat (simp (disch := omega) only [idx_nat, idx_mapT, i64w, rows_getS, rows_get, getD_set_self, famR_get]; try (simp only [push_cast, reduceIte, reduceDIte, reduceCtorEq, Nat.reduceLT, Nat.reduceLeDiff, Nat.reduceEqDiff, Nat.reduceAdd, Nat.reduceMul, Nat.reduceBEq, Nat.reducePow, Int.zero_add, Int.reduceAdd, Int.reduceSub, Int.reduceLT, Int.reduceLE, Int.reduceToNat, Int.reduceNeg, Nat.reduceSub, Int.reduceBNe, Int.reduceBEq])))); rfl
  have : passE n k l = 0 := by unfold passE; rw [if_neg (by rw [hv]; simp), if_neg hk, if_neg (by omega), if_neg (by rw [hr]; simp)]
  rw [this, if_pos rfl]
  obtain ⟨k, rfl⟩ : ∃ j : Nat, k = j := ⟨k.toNat, by omega⟩
  rw [Int.toNat_natCast]
  have co := fun m => outs_f n m hn hv h14
  have hel := edgeL_len n
  have hb := rang_at hr
  have hkn : k < n.nodes.length := by omega
  refine pureC (n := 72) (rs := [.tmp 6, .tmp 7, .tmp 8]) (ts := [3, 3, 33]) Try.func9 rfl (by decide) [] (by (exact SD)) ?_
  (repeat' (first | refine swp_seq [0, 1, 2, 3, 6, 7, 8, 10, 11, 12, 13, 17, 27, 34, 42, 43, 44, 45, 55, 65] ?_ | refine st1 ?_ | (show CallQ ..; first | refine cF ?_ | refine cQ (fun hcc => (by first | exact cv _ | exact cr _ | exact co _)) ?_ | (refine lP ?_; refine lQ (fun hcc m => (by first | exact cv _ | exact cr _ | exact co _)) ?_)) | (show Fct ..; refine fctI (fun hf => ?_)) | (show XCallQ ..; first | refine xcF ?_ | refine xQ (fun hcc => (by first | exact cv _ | exact cr _ | exact co _)) ?_ | (refine xlP ?_; refine xlQ (fun hcc m => (by first | exact cv _ | exact cr _ | exact co _)) ?_)) | (show SWp _ _ _ (.region _ _ true) _ _ _ _; refine xG mixed [] ?_) | (show SWp _ _ _ (.cond _ _ _) _ _ _ _; first | (refine cB (fun hc => ?_) (fun hc => ?_) <;> first | exact False.elim hc | exact absurd hc Bool.false_ne_true | exact absurd hc.symm Bool.false_ne_true | skip) | refine cU ?_ ?_)))
  · omega
  · omega
  refine loop_swp [1, 6, 7, 10, 42, 43, 44] [] 0 (fun q A H => ∃ i : Nat, i ≤ n.links.length ∧ q = n.links.length - i ∧ A = [(1, li k), (6, li (selI (toB n k) l i)), (7, li (selI (froB n k) l i)), (10, pairs (edgeL n)), (42, ints l), (43, li l.length), (44, li i)] ∧ H = []) (by omega) ?_ ?_ ?_
  · rintro q A H ⟨i, h1, h2, rfl, rfl⟩
    exact ⟨by (exact SD), by (exact SD)⟩
  · refine ⟨_, 0, by omega, rfl, ?_, ?_⟩
    · (((simp only [push_cast, reduceIte, reduceDIte, reduceCtorEq, Nat.reduceLT, Nat.reduceLeDiff, Nat.reduceEqDiff, Nat.reduceAdd, Nat.reduceMul, Nat.reduceBEq, Nat.reducePow, Int.zero_add, Int.reduceAdd, Int.reduceSub, Int.reduceLT, Int.reduceLE, Int.reduceToNat, Int.reduceNeg, Nat.reduceSub, Int.reduceBNe, Int.reduceBEq]); repeat (simp (disch := omega) only [idx_nat, idx_mapT, i64w, rows_getS, rows_get, getD_set_self, famR_get]; try (simp only [push_cast, reduceIte, reduceDIte, reduceCtorEq, Nat.reduceLT, Nat.reduceLeDiff, Nat.reduceEqDiff, Nat.reduceAdd, Nat.reduceMul, Nat.reduceBEq, Nat.reducePow, Int.zero_add, Int.reduceAdd, Int.reduceSub, Int.reduceLT, Int.reduceLE, Int.reduceToNat, Int.reduceNeg, Nat.reduceSub, Int.reduceBNe, Int.reduceBEq])))); rfl
    · (((simp only [push_cast, reduceIte, reduceDIte, reduceCtorEq, Nat.reduceLT, Nat.reduceLeDiff, Nat.reduceEqDiff, Nat.reduceAdd, Nat.reduceMul, Nat.reduceBEq, Nat.reducePow, Int.zero_add, Int.reduceAdd, Int.reduceSub, Int.reduceLT, Int.reduceLE, Int.reduceToNat, Int.reduceNeg, Nat.reduceSub, Int.reduceBNe, Int.reduceBEq]); repeat (simp (disch := omega) only [idx_nat, idx_mapT, i64w, rows_getS, rows_get, getD_set_self, famR_get]; try (simp only [push_cast, reduceIte, reduceDIte, reduceCtorEq, Nat.reduceLT, Nat.reduceLeDiff, Nat.reduceEqDiff, Nat.reduceAdd, Nat.reduceMul, Nat.reduceBEq, Nat.reducePow, Int.zero_add, Int.reduceAdd, Int.reduceSub, Int.reduceLT, Int.reduceLE, Int.reduceToNat, Int.reduceNeg, Nat.reduceSub, Int.reduceBNe, Int.reduceBEq]))))
  rintro q A H ⟨i, k1, k2, rfl, rfl⟩
  by_cases hi : i < n.links.length
  · have e1 := selI_le (p := toB n k) hb i (by omega)
    have e2 := selI_le (p := froB n k) hb i (by omega)
    have e3 := hb i (by omega)
    have f1 : selI (toB n k) l (i + 1) = if toB n k i then selI (toB n k) l i + l.getD i default else selI (toB n k) l i := rfl
    have f2 : selI (froB n k) l (i + 1) = if froB n k i then selI (froB n k) l i + l.getD i default else selI (froB n k) l i := rfl
    have g1 : toB n k i = decide (((edgeL n).getD i default).2 = (k : Int)) := by rw [edgeL_at hi]; exact decide_eq_decide.2 (idx_eq hv hkn _).symm
    have g2 : froB n k i = decide (((edgeL n).getD i default).1 = (k : Int)) := by rw [edgeL_at hi]; exact decide_eq_decide.2 (idx_eq hv hkn _).symm
    have hE : i < (edgeL n).length := by omega
    have hE2 : i < l.length := by omega
    (have := Nonempty.intro hE)
    (have := Nonempty.intro hE2)
    generalize hT : selI (toB n k) l i = X at *
    generalize hF : selI (froB n k) l i = Y at *
    generalize hED : edgeL n = E at *
    by_cases ht : (E.getD i default).2 = (k : Int)
    · rw [decide_eq_true ht] at g1
      rw [g1, if_pos rfl] at f1
      (have := Nonempty.intro ht)
      by_cases hf : (E.getD i default).1 = (k : Int)
      · rw [decide_eq_true hf] at g2
        rw [g2, if_pos rfl] at f2
        (have := Nonempty.intro hf)
        (repeat' (first | refine swp_seq [0, 1, 2, 3, 6, 7, 8, 10, 11, 12, 13, 17, 27, 34, 42, 43, 44, 45, 55, 65] ?_ | refine st1 ?_ | (show Fct ..; refine fctI (fun hf => ?_)) | (show SWp _ _ _ (.region _ _ true) _ _ _ _; refine xG mixed [] ?_) | (show SWp _ _ _ (.cond _ _ _) _ _ _ _; first | (refine cB (fun hc => ?_) (fun hc => ?_) <;> first | exact False.elim hc | exact absurd hc Bool.false_ne_true | exact absurd hc.symm Bool.false_ne_true | skip) | refine cU ?_ ?_)))
        · (refine lN [] ?_)
          exact ⟨_, by omega, i + 1, by omega, rfl, by rw [f1, f2]; rfl, rfl⟩
        · omega
      · rw [decide_eq_false hf] at g2
        rw [g2, if_neg Bool.false_ne_true] at f2
        (have := Nonempty.intro hf)
        (repeat' (first | refine swp_seq [0, 1, 2, 3, 6, 7, 8, 10, 11, 12, 13, 17, 27, 34, 42, 43, 44, 45, 55, 65] ?_ | refine st1 ?_ | (show Fct ..; refine fctI (fun hf => ?_)) | (show SWp _ _ _ (.region _ _ true) _ _ _ _; refine xG mixed [] ?_) | (show SWp _ _ _ (.cond _ _ _) _ _ _ _; first | (refine cB (fun hc => ?_) (fun hc => ?_) <;> first | exact False.elim hc | exact absurd hc Bool.false_ne_true | exact absurd hc.symm Bool.false_ne_true | skip) | refine cU ?_ ?_)))
        · (refine lN [] ?_)
          exact ⟨_, by omega, i + 1, by omega, rfl, by rw [f1, f2]; rfl, rfl⟩
        · omega
    · rw [decide_eq_false ht] at g1
      rw [g1, if_neg Bool.false_ne_true] at f1
      (have := Nonempty.intro ht)
      by_cases hf : (E.getD i default).1 = (k : Int)
      · rw [decide_eq_true hf] at g2
        rw [g2, if_pos rfl] at f2
        (have := Nonempty.intro hf)
        (repeat' (first | refine swp_seq [0, 1, 2, 3, 6, 7, 8, 10, 11, 12, 13, 17, 27, 34, 42, 43, 44, 45, 55, 65] ?_ | refine st1 ?_ | (show Fct ..; refine fctI (fun hf => ?_)) | (show SWp _ _ _ (.region _ _ true) _ _ _ _; refine xG mixed [] ?_) | (show SWp _ _ _ (.cond _ _ _) _ _ _ _; first | (refine cB (fun hc => ?_) (fun hc => ?_) <;> first | exact False.elim hc | exact absurd hc Bool.false_ne_true | exact absurd hc.symm Bool.false_ne_true | skip) | refine cU ?_ ?_)))
        · (refine lN [] ?_)
          exact ⟨_, by omega, i + 1, by omega, rfl, by rw [f1, f2]; rfl, rfl⟩
        · omega
      · rw [decide_eq_false hf] at g2
        rw [g2, if_neg Bool.false_ne_true] at f2
        (have := Nonempty.intro hf)
        (repeat' (first | refine swp_seq [0, 1, 2, 3, 6, 7, 8, 10, 11, 12, 13, 17, 27, 34, 42, 43, 44, 45, 55, 65] ?_ | refine st1 ?_ | (show Fct ..; refine fctI (fun hf => ?_)) | (show SWp _ _ _ (.region _ _ true) _ _ _ _; refine xG mixed [] ?_) | (show SWp _ _ _ (.cond _ _ _) _ _ _ _; first | (refine cB (fun hc => ?_) (fun hc => ?_) <;> first | exact False.elim hc | exact absurd hc Bool.false_ne_true | exact absurd hc.symm Bool.false_ne_true | skip) | refine cU ?_ ?_)))
        · (refine lN [] ?_)
          exact ⟨_, by omega, i + 1, by omega, rfl, by rw [f1, f2]; rfl, rfl⟩
        · omega
  have hi2 : i = n.links.length := by omega
  subst hi2
  (repeat' (first | refine swp_seq [0, 1, 2, 3, 6, 7, 8, 10, 11, 12, 13, 17, 27, 34, 42, 43, 44, 45, 55, 65] ?_ | refine st1 ?_ | (show Fct ..; refine fctI (fun hf => ?_)) | (show SWp _ _ _ (.region _ _ true) _ _ _ _; refine xG mixed [] ?_) | (show SWp _ _ _ (.cond _ _ _) _ _ _ _; first | (refine cB (fun hc => ?_) (fun hc => ?_) <;> first | exact False.elim hc | exact absurd hc Bool.false_ne_true | exact absurd hc.symm Bool.false_ne_true | skip) | refine cU ?_ ?_)))
  · omega
  (((simp only [push_cast, reduceIte, reduceDIte, reduceCtorEq, Nat.reduceLT, Nat.reduceLeDiff, Nat.reduceEqDiff, Nat.reduceAdd, Nat.reduceMul, Nat.reduceBEq, Nat.reducePow, Int.zero_add, Int.reduceAdd, Int.reduceSub, Int.reduceLT, Int.reduceLE, Int.reduceToNat, Int.reduceNeg, Nat.reduceSub, Int.reduceBNe, Int.reduceBEq]); repeat (simp (disch := omega) only [idx_nat, idx_mapT, i64w, rows_getS, rows_get, getD_set_self, famR_get]; try (simp only [push_cast, reduceIte, reduceDIte, reduceCtorEq, Nat.reduceLT, Nat.reduceLeDiff, Nat.reduceEqDiff, Nat.reduceAdd, Nat.reduceMul, Nat.reduceBEq, Nat.reducePow, Int.zero_add, Int.reduceAdd, Int.reduceSub, Int.reduceLT, Int.reduceLE, Int.reduceToNat, Int.reduceNeg, Nat.reduceSub, Int.reduceBNe, Int.reduceBEq]))))

end Go.Proofs.Ytlbadfjonhgppaa
