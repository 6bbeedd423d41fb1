/-
  Contracts of functions of the program, over the engine.
  No condition.
-/
import Derived.Test.YtlbadfjonhgppaaCT9e
namespace Go.Proofs.Ytlbadfjonhgppaa
open Go.Eng
set_option linter.all false
attribute [local irreducible] DCallsG SWp Fct CallQ XCallQ LCallQ XLCallQ drun xrun

def strRow (s : ByteArray) : List PV := [.lit (.string s)]
abbrev strs (l : List ByteArray) : DV := .p (.dat 1 (l.map strRow))
abbrev strL (l : List ByteArray) : HV := .lst 9 1 (rows strRow l)
theorem app_str (l : List ByteArray) (v : ByteArray) : rows strRow l ++ [[.p (.lit (.string v))]] = rows strRow (l ++ [v]) := by simp [rows, strRow]
attribute [push_cast] strRow app_str
def wetI (n : Net) (s : Sta) : Nat → List ByteArray
  | 0 => []
  | i + 1 => if s.pon.getD i default = 0 then wetI n s i else wetI n s i ++ [(n.nodes.getD i default).name]
theorem wetI_len (n : Net) (s : Sta) : ∀ i, (wetI n s i).length ≤ i
  | 0 => by simp [wetI]
  | i + 1 => by
    have := wetI_len n s i
    unfold wetI; split
    · omega
    · simp; omega
set_option maxRecDepth 20000 in
set_option maxHeartbeats 8000000 in
theorem ponded_f (n : Net) (s : Sta) (m : Nat) (hn : netOk n) (hs : staOk s) : DCalls Try.prog 8 [netD n, staD s] (hget []) m
    (if netB n && staB n s then .tup [strs (wetI n s n.nodes.length), li 0] else .tup [strs [], li 1]) (hget []) := by
  have cs := fun m => staValid_f n s m hn hs
  cases hb : netB n && staB n s
  · simp only [hb] at cs
    refine pureC (n := 34) (rs := [.tmp 4, .tmp 5]) (ts := [36, 33]) Try.func8 rfl (by decide) [] (by (exact SD)) ?_
    (repeat' (first | refine swp_seq [0, 1, 2, 3, 4, 5, 6, 7, 8, 12, 14, 15, 16, 17, 22] ?_ | refine st1 ?_ | (show CallQ ..; first | refine cF ?_ | refine cQ (fun hcc => (cs _)) ?_ | (refine lP ?_; refine lQ (fun hcc m => (cs _)) ?_)) | (show Fct ..; refine fctI (fun hf => ?_)) | (show XCallQ ..; first | refine xcF ?_ | refine xQ (fun hcc => (cs _)) ?_ | (refine xlP ?_; refine xlQ (fun hcc m => (cs _)) ?_)) | (show SWp _ _ _ (.region _ _ true) _ _ _ _; refine xG mixed [] ?_) | (show SWp _ _ _ (.cond _ _ _) _ _ _ _; first | (refine cB (fun hc => ?_) (fun hc => ?_) <;> first | exact False.elim hc | exact absurd hc Bool.false_ne_true | exact absurd hc.symm Bool.false_ne_true | skip) | refine cU ?_ ?_)))
    (((simp only [push_cast, reduceIte, reduceDIte, reduceCtorEq, Nat.reduceLT, Nat.reduceLeDiff, Nat.reduceEqDiff, Nat.reduceAdd, Nat.reduceMul, Nat.reduceBEq, Nat.reducePow, Int.zero_add, Int.reduceAdd, Int.reduceSub, Int.reduceLT, Int.reduceLE, Int.reduceToNat, Int.reduceNeg, Nat.reduceSub, Int.reduceBNe, Int.reduceBEq]); repeat (simp (disch := omega) only [idx_nat, idx_mapT, i64w, rows_getS, rows_get, getD_set_self, famR_get]; try (simp only [push_cast, reduceIte, reduceDIte, reduceCtorEq, Nat.reduceLT, Nat.reduceLeDiff, Nat.reduceEqDiff, Nat.reduceAdd, Nat.reduceMul, Nat.reduceBEq, Nat.reducePow, Int.zero_add, Int.reduceAdd, Int.reduceSub, Int.reduceLT, Int.reduceLE, Int.reduceToNat, Int.reduceNeg, Nat.reduceSub, Int.reduceBNe, Int.reduceBEq])))); rfl
  simp only [hb] at cs
  rw [Bool.and_eq_true] at hb
  obtain ⟨hv, hst⟩ := hb
  obtain ⟨hh, hl, l1, l2⟩ := sta_hold hv hst
  have a1 := netB_len hv
  rw [if_pos rfl]
  refine pureC (n := 34) (rs := [.tmp 4, .tmp 5]) (ts := [36, 33]) Try.func8 rfl (by decide) [16] (by (exact SD)) ?_
  (repeat' (first | refine swp_seq [0, 1, 2, 3, 4, 5, 6, 7, 8, 12, 14, 15, 16, 17, 22] ?_ | refine st1 ?_ | (show CallQ ..; first | refine cF ?_ | refine cQ (fun hcc => (cs _)) ?_ | (refine lP ?_; refine lQ (fun hcc m => (cs _)) ?_)) | (show Fct ..; refine fctI (fun hf => ?_)) | (show XCallQ ..; first | refine xcF ?_ | refine xQ (fun hcc => (cs _)) ?_ | (refine xlP ?_; refine xlQ (fun hcc m => (cs _)) ?_)) | (show SWp _ _ _ (.region _ _ true) _ _ _ _; refine xG mixed [] ?_) | (show SWp _ _ _ (.cond _ _ _) _ _ _ _; first | (refine cB (fun hc => ?_) (fun hc => ?_) <;> first | exact False.elim hc | exact absurd hc Bool.false_ne_true | exact absurd hc.symm Bool.false_ne_true | skip) | refine cU ?_ ?_)))
  refine loop_swp [2, 6, 14, 15, 16] [0, 16] 17 (fun q A H => ∃ (i : Nat) (d : DV), i ≤ n.nodes.length ∧ q = n.nodes.length - i ∧ ((wetI n s i = [] ∧ d = nilS ∧ H = [(0, .blk 25 (netC n))]) ∨ (d = .gl 16 ∧ H = [(0, .blk 25 (netC n)), (16, strL (wetI n s i))])) ∧ A = [(2, .ptr 0 0), (6, d), (14, ints s.pon), (15, li s.pon.length), (16, li i)]) (by omega) ?_ ?_ ?_
  · rintro q A H ⟨i, d, h1, h2, h3, rfl⟩
    rcases h3 with ⟨_, rfl, rfl⟩ | ⟨rfl, rfl⟩
    · exact ⟨by (exact SD), by (exact SD)⟩
    · exact ⟨by (exact SD), by (exact SD)⟩
  · refine ⟨_, 0, nilS, by omega, rfl, .inl ⟨rfl, rfl, ?_⟩, ?_⟩
    · (((simp only [push_cast, reduceIte, reduceDIte, reduceCtorEq, Nat.reduceLT, Nat.reduceLeDiff, Nat.reduceEqDiff, Nat.reduceAdd, Nat.reduceMul, Nat.reduceBEq, Nat.reducePow, Int.zero_add, Int.reduceAdd, Int.reduceSub, Int.reduceLT, Int.reduceLE, Int.reduceToNat, Int.reduceNeg, Nat.reduceSub, Int.reduceBNe, Int.reduceBEq]); repeat (simp (disch := omega) only [idx_nat, idx_mapT, i64w, rows_getS, rows_get, getD_set_self, famR_get]; try (simp only [push_cast, reduceIte, reduceDIte, reduceCtorEq, Nat.reduceLT, Nat.reduceLeDiff, Nat.reduceEqDiff, Nat.reduceAdd, Nat.reduceMul, Nat.reduceBEq, Nat.reducePow, Int.zero_add, Int.reduceAdd, Int.reduceSub, Int.reduceLT, Int.reduceLE, Int.reduceToNat, Int.reduceNeg, Nat.reduceSub, Int.reduceBNe, Int.reduceBEq]))))
    · (((simp only [push_cast, reduceIte, reduceDIte, reduceCtorEq, Nat.reduceLT, Nat.reduceLeDiff, Nat.reduceEqDiff, Nat.reduceAdd, Nat.reduceMul, Nat.reduceBEq, Nat.reducePow, Int.zero_add, Int.reduceAdd, Int.reduceSub, Int.reduceLT, Int.reduceLE, Int.reduceToNat, Int.reduceNeg, Nat.reduceSub, Int.reduceBNe, Int.reduceBEq]); repeat (simp (disch := omega) only [idx_nat, idx_mapT, i64w, rows_getS, rows_get, getD_set_self, famR_get]; try (simp only [push_cast, reduceIte, reduceDIte, reduceCtorEq, Nat.reduceLT, Nat.reduceLeDiff, Nat.reduceEqDiff, Nat.reduceAdd, Nat.reduceMul, Nat.reduceBEq, Nat.reducePow, Int.zero_add, Int.reduceAdd, Int.reduceSub, Int.reduceLT, Int.reduceLE, Int.reduceToNat, Int.reduceNeg, Nat.reduceSub, Int.reduceBNe, Int.reduceBEq]))))
  rintro q A H ⟨i, d, h1, h2, h3, rfl⟩
  have hwl := wetI_len n s i
  by_cases hi : i < n.nodes.length
  · have hnext : wetI n s (i + 1) = if s.pon.getD i default = 0 then wetI n s i else wetI n s i ++ [(n.nodes.getD i default).name] := rfl
    by_cases h0 : s.pon.getD i default = 0
    · rw [if_pos h0] at hnext
      (have := Nonempty.intro h0)
      rcases h3 with ⟨hw, rfl, rfl⟩ | ⟨rfl, rfl⟩
      · (repeat' (first | refine swp_seq [0, 1, 2, 3, 4, 5, 6, 7, 8, 12, 14, 15, 16, 17, 22] ?_ | refine st1 ?_ | (show Fct ..; refine fctI (fun hf => ?_)) | (show SWp _ _ _ (.region _ _ true) _ _ _ _; refine xG mixed [] ?_) | (show SWp _ _ _ (.cond _ _ _) _ _ _ _; first | (refine cB (fun hc => ?_) (fun hc => ?_) <;> first | exact False.elim hc | exact absurd hc Bool.false_ne_true | exact absurd hc.symm Bool.false_ne_true | skip) | refine cU ?_ ?_)))
        · (refine lN [0, 16] ?_)
          exact ⟨_, by omega, i + 1, _, by omega, rfl, .inl ⟨by rw [hnext, hw], rfl, rfl⟩, rfl⟩
        · omega
      · generalize hW : wetI n s i = W at *
        (repeat' (first | refine swp_seq [0, 1, 2, 3, 4, 5, 6, 7, 8, 12, 14, 15, 16, 17, 22] ?_ | refine st1 ?_ | (show Fct ..; refine fctI (fun hf => ?_)) | (show SWp _ _ _ (.region _ _ true) _ _ _ _; refine xG mixed [] ?_) | (show SWp _ _ _ (.cond _ _ _) _ _ _ _; first | (refine cB (fun hc => ?_) (fun hc => ?_) <;> first | exact False.elim hc | exact absurd hc Bool.false_ne_true | exact absurd hc.symm Bool.false_ne_true | skip) | refine cU ?_ ?_)))
        · (refine lN [0, 16] ?_)
          exact ⟨_, by omega, i + 1, _, by omega, rfl, .inr ⟨rfl, by rw [hnext]⟩, rfl⟩
        · omega
    · rw [if_neg h0] at hnext
      (have := Nonempty.intro h0)
      rcases h3 with ⟨hw, rfl, rfl⟩ | ⟨rfl, rfl⟩
      · rw [hw] at hnext
        (repeat' (first | refine swp_seq [0, 1, 2, 3, 4, 5, 6, 7, 8, 12, 14, 15, 16, 17, 22] ?_ | refine st1 ?_ | (show Fct ..; refine fctI (fun hf => ?_)) | (show SWp _ _ _ (.region _ _ true) _ _ _ _; refine xG mixed [] ?_) | (show SWp _ _ _ (.cond _ _ _) _ _ _ _; first | (refine cB (fun hc => ?_) (fun hc => ?_) <;> first | exact False.elim hc | exact absurd hc Bool.false_ne_true | exact absurd hc.symm Bool.false_ne_true | skip) | refine cU ?_ ?_)))
        · (refine lR 145 16 [0, 145] ?_)
          exact ⟨_, by omega, i + 1, _, by omega, rfl, .inr ⟨rfl, by rw [hnext]; rfl⟩, rfl⟩
        · omega
      · generalize hW : wetI n s i = W at *
        (repeat' (first | refine swp_seq [0, 1, 2, 3, 4, 5, 6, 7, 8, 12, 14, 15, 16, 17, 22] ?_ | refine st1 ?_ | (show Fct ..; refine fctI (fun hf => ?_)) | (show SWp _ _ _ (.region _ _ true) _ _ _ _; refine xG mixed [] ?_) | (show SWp _ _ _ (.cond _ _ _) _ _ _ _; first | (refine cB (fun hc => ?_) (fun hc => ?_) <;> first | exact False.elim hc | exact absurd hc Bool.false_ne_true | exact absurd hc.symm Bool.false_ne_true | skip) | refine cU ?_ ?_)))
        · (refine lN [0, 16] ?_)
          exact ⟨_, by omega, i + 1, _, by omega, rfl, .inr ⟨rfl, by rw [hnext]⟩, rfl⟩
        · omega
  have hi2 : i = n.nodes.length := by omega
  subst hi2
  have hnl : ¬ ((n.nodes.length : Int) < (s.pon.length : Int)) := by omega
  (have := Nonempty.intro hnl)
  rcases h3 with ⟨h0, rfl, rfl⟩ | ⟨rfl, rfl⟩
  · (repeat' (first | refine swp_seq [0, 1, 2, 3, 4, 5, 6, 7, 8, 12, 14, 15, 16, 17, 22] ?_ | refine st1 ?_ | (show Fct ..; refine fctI (fun hf => ?_)) | (show SWp _ _ _ (.region _ _ true) _ _ _ _; refine xG mixed [] ?_) | (show SWp _ _ _ (.cond _ _ _) _ _ _ _; first | (refine cB (fun hc => ?_) (fun hc => ?_) <;> first | exact False.elim hc | exact absurd hc Bool.false_ne_true | exact absurd hc.symm Bool.false_ne_true | skip) | refine cU ?_ ?_)))
    rw [h0]
    (((simp only [push_cast, reduceIte, reduceDIte, reduceCtorEq, Nat.reduceLT, Nat.reduceLeDiff, Nat.reduceEqDiff, Nat.reduceAdd, Nat.reduceMul, Nat.reduceBEq, Nat.reducePow, Int.zero_add, Int.reduceAdd, Int.reduceSub, Int.reduceLT, Int.reduceLE, Int.reduceToNat, Int.reduceNeg, Nat.reduceSub, Int.reduceBNe, Int.reduceBEq]); repeat (simp (disch := omega) only [idx_nat, idx_mapT, i64w, rows_getS, rows_get, getD_set_self, famR_get]; try (simp only [push_cast, reduceIte, reduceDIte, reduceCtorEq, Nat.reduceLT, Nat.reduceLeDiff, Nat.reduceEqDiff, Nat.reduceAdd, Nat.reduceMul, Nat.reduceBEq, Nat.reducePow, Int.zero_add, Int.reduceAdd, Int.reduceSub, Int.reduceLT, Int.reduceLE, Int.reduceToNat, Int.reduceNeg, Nat.reduceSub, Int.reduceBNe, Int.reduceBEq]))))
    all_goals rfl
  · (repeat' (first | refine swp_seq [0, 1, 2, 3, 4, 5, 6, 7, 8, 12, 14, 15, 16, 17, 22] ?_ | refine st1 ?_ | (show Fct ..; refine fctI (fun hf => ?_)) | (show SWp _ _ _ (.region _ _ true) _ _ _ _; refine xG mixed [] ?_) | (show SWp _ _ _ (.cond _ _ _) _ _ _ _; first | (refine cB (fun hc => ?_) (fun hc => ?_) <;> first | exact False.elim hc | exact absurd hc Bool.false_ne_true | exact absurd hc.symm Bool.false_ne_true | skip) | refine cU ?_ ?_)))
    (((simp only [push_cast, reduceIte, reduceDIte, reduceCtorEq, Nat.reduceLT, Nat.reduceLeDiff, Nat.reduceEqDiff, Nat.reduceAdd, Nat.reduceMul, Nat.reduceBEq, Nat.reducePow, Int.zero_add, Int.reduceAdd, Int.reduceSub, Int.reduceLT, Int.reduceLE, Int.reduceToNat, Int.reduceNeg, Nat.reduceSub, Int.reduceBNe, Int.reduceBEq]); repeat (simp (disch := omega) only [idx_nat, idx_mapT, i64w, rows_getS, rows_get, getD_set_self, famR_get]; try (simp only [push_cast, reduceIte, reduceDIte, reduceCtorEq, Nat.reduceLT, Nat.reduceLeDiff, Nat.reduceEqDiff, Nat.reduceAdd, Nat.reduceMul, Nat.reduceBEq, Nat.reducePow, Int.zero_add, Int.reduceAdd, Int.reduceSub, Int.reduceLT, Int.reduceLE, Int.reduceToNat, Int.reduceNeg, Nat.reduceSub, Int.reduceBNe, Int.reduceBEq]))))
    all_goals rfl

end Go.Proofs.Ytlbadfjonhgppaa
