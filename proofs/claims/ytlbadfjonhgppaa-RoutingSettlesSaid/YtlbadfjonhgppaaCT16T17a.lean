/-
  Contracts of functions of the program, over the engine.
  No condition.
-/
import Derived.Test.YtlbadfjonhgppaaCT14
import Derived.Test.YtlbadfjonhgppaaCT10
import Derived.Test.YtlbadfjonhgppaaCT5T8T9T15T21
import Derived.Test.YtlbadfjonhgppaaCT7c
import Derived.Test.YtlbadfjonhgppaaCT6b
import Derived.Test.YtlbadfjonhgppaaCT9d
namespace Go.Proofs.Ytlbadfjonhgppaa
open Go.Eng
set_option linter.all false
attribute [local irreducible] DCallsG SWp Fct CallQ XCallQ LCallQ XLCallQ drun xrun

def bigN (x : Node) : Bool := decide (20 < x.shape.length) || decide (60 < x.name.size)
def bigL (x : Link) : Bool := decide (20 < x.curve.length) || decide (60 < x.name.size) || decide (60 < x.fro.size) || decide (60 < x.til.size) || decide (60 < x.sect.size)
def largeB (n : Net) : Bool := decide (14 < n.nodes.length) || decide (14 < n.links.length) || n.nodes.any bigN || n.links.any bigL
def longB (s : Sta) (ls : List (List Int)) : Bool := decide (20 < s.vol.length) || decide (20 < s.pon.length) || decide (20 < s.set.length) || decide (20 < s.on.length) || ls.any fun l => decide (20 < l.length)
theorem large1_f (x : Node) (m : Nat) (hx : nodeOk x) : DCalls Try.prog 22 [nodeD x] (hget []) m (lb (bigN x)) (hget []) := by
  obtain ⟨k1, k2, k3, k4, k5, k6, k7⟩ := hx
  refine pureC (n := 13) (rs := [.tmp 2]) (ts := [4]) Try.func22 rfl (by decide) [] (by (exact SD)) ?_
  (repeat' (first | refine swp_seq [0, 1, 2] ?_ | refine st1 ?_ | (show Fct ..; refine fctI (fun hf => ?_)) | (show SWp _ _ _ (.region _ _ true) _ _ _ _; refine xG mixed [] ?_) | (show SWp _ _ _ (.cond _ _ _) _ _ _ _; first | (refine cB (fun hc => ?_) (fun hc => ?_) <;> first | exact False.elim hc | exact absurd hc Bool.false_ne_true | exact absurd hc.symm Bool.false_ne_true | skip) | refine cU ?_ ?_)))
  (((simp only [push_cast, reduceIte, reduceDIte, reduceCtorEq, Nat.reduceLT, Nat.reduceLeDiff, Nat.reduceEqDiff, Nat.reduceAdd, Nat.reduceMul, Nat.reduceBEq, Nat.reducePow, Int.zero_add, Int.reduceAdd, Int.reduceSub, Int.reduceLT, Int.reduceLE, Int.reduceToNat, Int.reduceNeg, Nat.reduceSub, Int.reduceBNe, Int.reduceBEq]); repeat (simp (disch := omega) only [idx_nat, idx_mapT, i64w, rows_getS, rows_get, getD_set_self, famR_get]; try (simp only [push_cast, reduceIte, reduceDIte, reduceCtorEq, Nat.reduceLT, Nat.reduceLeDiff, Nat.reduceEqDiff, Nat.reduceAdd, Nat.reduceMul, Nat.reduceBEq, Nat.reducePow, Int.zero_add, Int.reduceAdd, Int.reduceSub, Int.reduceLT, Int.reduceLE, Int.reduceToNat, Int.reduceNeg, Nat.reduceSub, Int.reduceBNe, Int.reduceBEq]))))
  refine lbC ?_
  unfold bigN; grind
theorem large2_f (x : Link) (m : Nat) (hx : linkOk x) : DCalls Try.prog 24 [linkD x] (hget []) m (lb (bigL x)) (hget []) := by
  obtain ⟨k1, k2, k3, k4, k5, k6, k7, k8, k9, k10, k11, k12⟩ := hx
  refine pureC (n := 31) (rs := [.tmp 2]) (ts := [4]) Try.func24 rfl (by decide) [] (by (exact SD)) ?_
  (repeat' (first | refine swp_seq [0, 1, 2] ?_ | refine st1 ?_ | (show Fct ..; refine fctI (fun hf => ?_)) | (show SWp _ _ _ (.region _ _ true) _ _ _ _; refine xG mixed [] ?_) | (show SWp _ _ _ (.cond _ _ _) _ _ _ _; first | (refine cB (fun hc => ?_) (fun hc => ?_) <;> first | exact False.elim hc | exact absurd hc Bool.false_ne_true | exact absurd hc.symm Bool.false_ne_true | skip) | refine cU ?_ ?_)))
  (((simp only [push_cast, reduceIte, reduceDIte, reduceCtorEq, Nat.reduceLT, Nat.reduceLeDiff, Nat.reduceEqDiff, Nat.reduceAdd, Nat.reduceMul, Nat.reduceBEq, Nat.reducePow, Int.zero_add, Int.reduceAdd, Int.reduceSub, Int.reduceLT, Int.reduceLE, Int.reduceToNat, Int.reduceNeg, Nat.reduceSub, Int.reduceBNe, Int.reduceBEq]); repeat (simp (disch := omega) only [idx_nat, idx_mapT, i64w, rows_getS, rows_get, getD_set_self, famR_get]; try (simp only [push_cast, reduceIte, reduceDIte, reduceCtorEq, Nat.reduceLT, Nat.reduceLeDiff, Nat.reduceEqDiff, Nat.reduceAdd, Nat.reduceMul, Nat.reduceBEq, Nat.reducePow, Int.zero_add, Int.reduceAdd, Int.reduceSub, Int.reduceLT, Int.reduceLE, Int.reduceToNat, Int.reduceNeg, Nat.reduceSub, Int.reduceBNe, Int.reduceBEq]))))
  refine lbC ?_
  unfold bigL; grind
theorem large_f (n : Net) (m : Nat) (hn : netOk n) : DCalls Try.prog 5 [netD n] (hget []) m (lb (largeB n)) (hget []) := by
  obtain ⟨⟨a1, a2⟩, b1, b2⟩ := hn
  refine pureC (n := 23) (rs := [.tmp 2]) (ts := [4]) Try.func5 rfl (by decide) [] (by (exact SD)) ?_
  (repeat' (first | refine swp_seq [0, 1, 2] ?_ | refine st1 ?_ | (show CallQ ..; first | refine cF ?_ | refine cQ (fun hcc => (by first | exact conNode_f _ bigN n.nodes _ a1 (fun x hx m => large1_f x m (a2 x hx)) | exact conLink_f _ bigL n.links _ b1 (fun x hx m => large2_f x m (b2 x hx)))) ?_ | (refine lP ?_; refine lQ (fun hcc m => (by first | exact conNode_f _ bigN n.nodes _ a1 (fun x hx m => large1_f x m (a2 x hx)) | exact conLink_f _ bigL n.links _ b1 (fun x hx m => large2_f x m (b2 x hx)))) ?_)) | (show Fct ..; refine fctI (fun hf => ?_)) | (show XCallQ ..; first | refine xcF ?_ | refine xQ (fun hcc => (by first | exact conNode_f _ bigN n.nodes _ a1 (fun x hx m => large1_f x m (a2 x hx)) | exact conLink_f _ bigL n.links _ b1 (fun x hx m => large2_f x m (b2 x hx)))) ?_ | (refine xlP ?_; refine xlQ (fun hcc m => (by first | exact conNode_f _ bigN n.nodes _ a1 (fun x hx m => large1_f x m (a2 x hx)) | exact conLink_f _ bigL n.links _ b1 (fun x hx m => large2_f x m (b2 x hx)))) ?_)) | (show SWp _ _ _ (.region _ _ true) _ _ _ _; refine xG mixed [] ?_) | (show SWp _ _ _ (.cond _ _ _) _ _ _ _; first | (refine cB (fun hc => ?_) (fun hc => ?_) <;> first | exact False.elim hc | exact absurd hc Bool.false_ne_true | exact absurd hc.symm Bool.false_ne_true | skip) | refine cU ?_ ?_)))
  (((simp only [push_cast, reduceIte, reduceDIte, reduceCtorEq, Nat.reduceLT, Nat.reduceLeDiff, Nat.reduceEqDiff, Nat.reduceAdd, Nat.reduceMul, Nat.reduceBEq, Nat.reducePow, Int.zero_add, Int.reduceAdd, Int.reduceSub, Int.reduceLT, Int.reduceLE, Int.reduceToNat, Int.reduceNeg, Nat.reduceSub, Int.reduceBNe, Int.reduceBEq]); repeat (simp (disch := omega) only [idx_nat, idx_mapT, i64w, rows_getS, rows_get, getD_set_self, famR_get]; try (simp only [push_cast, reduceIte, reduceDIte, reduceCtorEq, Nat.reduceLT, Nat.reduceLeDiff, Nat.reduceEqDiff, Nat.reduceAdd, Nat.reduceMul, Nat.reduceBEq, Nat.reducePow, Int.zero_add, Int.reduceAdd, Int.reduceSub, Int.reduceLT, Int.reduceLE, Int.reduceToNat, Int.reduceNeg, Nat.reduceSub, Int.reduceBNe, Int.reduceBEq]))))
  refine lbC ?_
  unfold largeB; grind
theorem long1_f (l : List Int) (m : Nat) (hl : l.length ≤ 281474976710656) : DCalls Try.prog 26 [ints l] (hget []) m (lb (decide (20 < l.length))) (hget []) := by
  refine pureC (n := 6) (rs := [.tmp 2]) (ts := [4]) Try.func26 rfl (by decide) [] (by (exact SD)) ?_
  (repeat' (first | refine swp_seq [0, 2] ?_ | refine st1 ?_ | (show Fct ..; refine fctI (fun hf => ?_)) | (show SWp _ _ _ (.region _ _ true) _ _ _ _; refine xG mixed [] ?_) | (show SWp _ _ _ (.cond _ _ _) _ _ _ _; first | (refine cB (fun hc => ?_) (fun hc => ?_) <;> first | exact False.elim hc | exact absurd hc Bool.false_ne_true | exact absurd hc.symm Bool.false_ne_true | skip) | refine cU ?_ ?_)))
  (((simp only [push_cast, reduceIte, reduceDIte, reduceCtorEq, Nat.reduceLT, Nat.reduceLeDiff, Nat.reduceEqDiff, Nat.reduceAdd, Nat.reduceMul, Nat.reduceBEq, Nat.reducePow, Int.zero_add, Int.reduceAdd, Int.reduceSub, Int.reduceLT, Int.reduceLE, Int.reduceToNat, Int.reduceNeg, Nat.reduceSub, Int.reduceBNe, Int.reduceBEq]); repeat (simp (disch := omega) only [idx_nat, idx_mapT, i64w, rows_getS, rows_get, getD_set_self, famR_get]; try (simp only [push_cast, reduceIte, reduceDIte, reduceCtorEq, Nat.reduceLT, Nat.reduceLeDiff, Nat.reduceEqDiff, Nat.reduceAdd, Nat.reduceMul, Nat.reduceBEq, Nat.reducePow, Int.zero_add, Int.reduceAdd, Int.reduceSub, Int.reduceLT, Int.reduceLE, Int.reduceToNat, Int.reduceNeg, Nat.reduceSub, Int.reduceBNe, Int.reduceBEq]))))
  refine lbC ?_
  grind
theorem long_f (s : Sta) (ls : List (List Int)) (m : Nat) (hs : staOk s) (h1 : ls.length ≤ 281474976710656) (h2 : ∀ l, l ∈ ls → l.length ≤ 281474976710656) : DCalls Try.prog 6 [staD s, intss ls] (hget []) m (lb (longB s ls)) (hget []) := by
  obtain ⟨⟨s1, _⟩, ⟨s2, _⟩, ⟨s3, _⟩, s4⟩ := hs
  refine pureC (n := 31) (rs := [.tmp 4]) (ts := [4]) Try.func6 rfl (by decide) [] (by (exact SD)) ?_
  (repeat' (first | refine swp_seq [0, 1, 2, 4] ?_ | refine st1 ?_ | (show CallQ ..; first | refine cF ?_ | refine cQ (fun hcc => (conInts_f _ (fun l => decide (20 < l.length)) ls _ h1 (fun x hx m => long1_f x m (h2 x hx)))) ?_ | (refine lP ?_; refine lQ (fun hcc m => (conInts_f _ (fun l => decide (20 < l.length)) ls _ h1 (fun x hx m => long1_f x m (h2 x hx)))) ?_)) | (show Fct ..; refine fctI (fun hf => ?_)) | (show XCallQ ..; first | refine xcF ?_ | refine xQ (fun hcc => (conInts_f _ (fun l => decide (20 < l.length)) ls _ h1 (fun x hx m => long1_f x m (h2 x hx)))) ?_ | (refine xlP ?_; refine xlQ (fun hcc m => (conInts_f _ (fun l => decide (20 < l.length)) ls _ h1 (fun x hx m => long1_f x m (h2 x hx)))) ?_)) | (show SWp _ _ _ (.region _ _ true) _ _ _ _; refine xG mixed [] ?_) | (show SWp _ _ _ (.cond _ _ _) _ _ _ _; first | (refine cB (fun hc => ?_) (fun hc => ?_) <;> first | exact False.elim hc | exact absurd hc Bool.false_ne_true | exact absurd hc.symm Bool.false_ne_true | skip) | refine cU ?_ ?_)))
  (((simp only [push_cast, reduceIte, reduceDIte, reduceCtorEq, Nat.reduceLT, Nat.reduceLeDiff, Nat.reduceEqDiff, Nat.reduceAdd, Nat.reduceMul, Nat.reduceBEq, Nat.reducePow, Int.zero_add, Int.reduceAdd, Int.reduceSub, Int.reduceLT, Int.reduceLE, Int.reduceToNat, Int.reduceNeg, Nat.reduceSub, Int.reduceBNe, Int.reduceBEq]); repeat (simp (disch := omega) only [idx_nat, idx_mapT, i64w, rows_getS, rows_get, getD_set_self, famR_get]; try (simp only [push_cast, reduceIte, reduceDIte, reduceCtorEq, Nat.reduceLT, Nat.reduceLeDiff, Nat.reduceEqDiff, Nat.reduceAdd, Nat.reduceMul, Nat.reduceBEq, Nat.reducePow, Int.zero_add, Int.reduceAdd, Int.reduceSub, Int.reduceLT, Int.reduceLE, Int.reduceToNat, Int.reduceNeg, Nat.reduceSub, Int.reduceBNe, Int.reduceBEq]))))
  refine lbC ?_
  unfold longB; grind
theorem lim1_f (n : Int) (m : Nat) : DCalls Try.prog 44 [li n] (hget []) m (lb (!btwB n 0 9007199254740992)) (hget []) := by
  refine pureC (n := 6) (rs := [.tmp 2]) (ts := [4]) Try.func44 rfl (by decide) [] (by (exact SD)) ?_
  (repeat' (first | refine swp_seq [0, 2] ?_ | refine st1 ?_ | (show CallQ ..; first | refine cF ?_ | refine cQ (fun hcc => (rwithin_f _ _ _)) ?_ | (refine lP ?_; refine lQ (fun hcc m => (rwithin_f _ _ _)) ?_)) | (show Fct ..; refine fctI (fun hf => ?_)) | (show XCallQ ..; first | refine xcF ?_ | refine xQ (fun hcc => (rwithin_f _ _ _)) ?_ | (refine xlP ?_; refine xlQ (fun hcc m => (rwithin_f _ _ _)) ?_)) | (show SWp _ _ _ (.region _ _ true) _ _ _ _; refine xG mixed [] ?_) | (show SWp _ _ _ (.cond _ _ _) _ _ _ _; first | (refine cB (fun hc => ?_) (fun hc => ?_) <;> first | exact False.elim hc | exact absurd hc Bool.false_ne_true | exact absurd hc.symm Bool.false_ne_true | skip) | refine cU ?_ ?_)))
  (((simp only [push_cast, reduceIte, reduceDIte, reduceCtorEq, Nat.reduceLT, Nat.reduceLeDiff, Nat.reduceEqDiff, Nat.reduceAdd, Nat.reduceMul, Nat.reduceBEq, Nat.reducePow, Int.zero_add, Int.reduceAdd, Int.reduceSub, Int.reduceLT, Int.reduceLE, Int.reduceToNat, Int.reduceNeg, Nat.reduceSub, Int.reduceBNe, Int.reduceBEq]); repeat (simp (disch := omega) only [idx_nat, idx_mapT, i64w, rows_getS, rows_get, getD_set_self, famR_get]; try (simp only [push_cast, reduceIte, reduceDIte, reduceCtorEq, Nat.reduceLT, Nat.reduceLeDiff, Nat.reduceEqDiff, Nat.reduceAdd, Nat.reduceMul, Nat.reduceBEq, Nat.reducePow, Int.zero_add, Int.reduceAdd, Int.reduceSub, Int.reduceLT, Int.reduceLE, Int.reduceToNat, Int.reduceNeg, Nat.reduceSub, Int.reduceBNe, Int.reduceBEq]))))
theorem lim2_f (n : Int) (m : Nat) : DCalls Try.prog 45 [li n] (hget []) m (lb (!btwB n 0 1125899906842624)) (hget []) := by
  refine pureC (n := 6) (rs := [.tmp 2]) (ts := [4]) Try.func45 rfl (by decide) [] (by (exact SD)) ?_
  (repeat' (first | refine swp_seq [0, 2] ?_ | refine st1 ?_ | (show CallQ ..; first | refine cF ?_ | refine cQ (fun hcc => (rwithin_f _ _ _)) ?_ | (refine lP ?_; refine lQ (fun hcc m => (rwithin_f _ _ _)) ?_)) | (show Fct ..; refine fctI (fun hf => ?_)) | (show XCallQ ..; first | refine xcF ?_ | refine xQ (fun hcc => (rwithin_f _ _ _)) ?_ | (refine xlP ?_; refine xlQ (fun hcc m => (rwithin_f _ _ _)) ?_)) | (show SWp _ _ _ (.region _ _ true) _ _ _ _; refine xG mixed [] ?_) | (show SWp _ _ _ (.cond _ _ _) _ _ _ _; first | (refine cB (fun hc => ?_) (fun hc => ?_) <;> first | exact False.elim hc | exact absurd hc Bool.false_ne_true | exact absurd hc.symm Bool.false_ne_true | skip) | refine cU ?_ ?_)))
  (((simp only [push_cast, reduceIte, reduceDIte, reduceCtorEq, Nat.reduceLT, Nat.reduceLeDiff, Nat.reduceEqDiff, Nat.reduceAdd, Nat.reduceMul, Nat.reduceBEq, Nat.reducePow, Int.zero_add, Int.reduceAdd, Int.reduceSub, Int.reduceLT, Int.reduceLE, Int.reduceToNat, Int.reduceNeg, Nat.reduceSub, Int.reduceBNe, Int.reduceBEq]); repeat (simp (disch := omega) only [idx_nat, idx_mapT, i64w, rows_getS, rows_get, getD_set_self, famR_get]; try (simp only [push_cast, reduceIte, reduceDIte, reduceCtorEq, Nat.reduceLT, Nat.reduceLeDiff, Nat.reduceEqDiff, Nat.reduceAdd, Nat.reduceMul, Nat.reduceBEq, Nat.reducePow, Int.zero_add, Int.reduceAdd, Int.reduceSub, Int.reduceLT, Int.reduceLE, Int.reduceToNat, Int.reduceNeg, Nat.reduceSub, Int.reduceBNe, Int.reduceBEq]))))
set_option maxHeartbeats 1000000 in
theorem eqlStr_f (l k : List (ByteArray)) (m : Nat) (hl : l.length ≤ 281474976710656) (hk : k.length ≤ 281474976710656) : DCalls Try.prog 17 [strs l, strs k] (hget []) m (lb (decide (l = k))) (hget []) := by
  refine pureC (n := 26) (rs := [.tmp 4]) (ts := [4]) Try.func17 rfl (by decide) [] (by (exact SD)) ?_
  (repeat' (first | refine swp_seq [0, 1, 4, 5, 10, 12, 13, 14, 24] ?_ | refine st1 ?_ | (show Fct ..; refine fctI (fun hf => ?_)) | (show SWp _ _ _ (.region _ _ true) _ _ _ _; refine xG mixed [] ?_) | (show SWp _ _ _ (.cond _ _ _) _ _ _ _; first | (refine cB (fun hc => ?_) (fun hc => ?_) <;> first | exact False.elim hc | exact absurd hc Bool.false_ne_true | exact absurd hc.symm Bool.false_ne_true | skip) | refine cU ?_ ?_)))
  · (((simp only [push_cast, reduceIte, reduceDIte, reduceCtorEq, Nat.reduceLT, Nat.reduceLeDiff, Nat.reduceEqDiff, Nat.reduceAdd, Nat.reduceMul, Nat.reduceBEq, Nat.reducePow, Int.zero_add, Int.reduceAdd, Int.reduceSub, Int.reduceLT, Int.reduceLE, Int.reduceToNat, Int.reduceNeg, Nat.reduceSub, Int.reduceBNe, Int.reduceBEq]); repeat (simp (disch := omega) only [idx_nat, idx_mapT, i64w, rows_getS, rows_get, getD_set_self, famR_get]; try (simp only [push_cast, reduceIte, reduceDIte, reduceCtorEq, Nat.reduceLT, Nat.reduceLeDiff, Nat.reduceEqDiff, Nat.reduceAdd, Nat.reduceMul, Nat.reduceBEq, Nat.reducePow, Int.zero_add, Int.reduceAdd, Int.reduceSub, Int.reduceLT, Int.reduceLE, Int.reduceToNat, Int.reduceNeg, Nat.reduceSub, Int.reduceBNe, Int.reduceBEq]))))
    refine lbC ?_
    have : ¬ l = k := fun e => by subst e; exact hc rfl
    simp [this]
  · refine loop_swp [0, 1, 12, 13] [] 0 (fun q A H => ∃ i : Nat, i ≤ l.length ∧ q = l.length - i ∧ l.take i = k.take i ∧ A = [(0, strs l), (1, strs k), (12, li l.length), (13, li i)] ∧ H = []) (by omega) ?_ ?_ ?_
    · rintro q A H ⟨i, h1, h2, h3, rfl, rfl⟩
      exact ⟨by (exact SD), by (exact SD)⟩
    · refine ⟨_, 0, by omega, rfl, rfl, ?_, ?_⟩
      · (((simp only [push_cast, reduceIte, reduceDIte, reduceCtorEq, Nat.reduceLT, Nat.reduceLeDiff, Nat.reduceEqDiff, Nat.reduceAdd, Nat.reduceMul, Nat.reduceBEq, Nat.reducePow, Int.zero_add, Int.reduceAdd, Int.reduceSub, Int.reduceLT, Int.reduceLE, Int.reduceToNat, Int.reduceNeg, Nat.reduceSub, Int.reduceBNe, Int.reduceBEq]); repeat (simp (disch := omega) only [idx_nat, idx_mapT, i64w, rows_getS, rows_get, getD_set_self, famR_get]; try (simp only [push_cast, reduceIte, reduceDIte, reduceCtorEq, Nat.reduceLT, Nat.reduceLeDiff, Nat.reduceEqDiff, Nat.reduceAdd, Nat.reduceMul, Nat.reduceBEq, Nat.reducePow, Int.zero_add, Int.reduceAdd, Int.reduceSub, Int.reduceLT, Int.reduceLE, Int.reduceToNat, Int.reduceNeg, Nat.reduceSub, Int.reduceBNe, Int.reduceBEq]))))
      · (((simp only [push_cast, reduceIte, reduceDIte, reduceCtorEq, Nat.reduceLT, Nat.reduceLeDiff, Nat.reduceEqDiff, Nat.reduceAdd, Nat.reduceMul, Nat.reduceBEq, Nat.reducePow, Int.zero_add, Int.reduceAdd, Int.reduceSub, Int.reduceLT, Int.reduceLE, Int.reduceToNat, Int.reduceNeg, Nat.reduceSub, Int.reduceBNe, Int.reduceBEq]); repeat (simp (disch := omega) only [idx_nat, idx_mapT, i64w, rows_getS, rows_get, getD_set_self, famR_get]; try (simp only [push_cast, reduceIte, reduceDIte, reduceCtorEq, Nat.reduceLT, Nat.reduceLeDiff, Nat.reduceEqDiff, Nat.reduceAdd, Nat.reduceMul, Nat.reduceBEq, Nat.reducePow, Int.zero_add, Int.reduceAdd, Int.reduceSub, Int.reduceLT, Int.reduceLE, Int.reduceToNat, Int.reduceNeg, Nat.reduceSub, Int.reduceBNe, Int.reduceBEq]))))
    · rintro q A H ⟨i, h1, h2, h3, rfl, rfl⟩
      (repeat' (first | refine swp_seq [0, 1, 4, 5, 10, 12, 13, 14, 24] ?_ | refine st1 ?_ | (show Fct ..; refine fctI (fun hf => ?_)) | (show SWp _ _ _ (.region _ _ true) _ _ _ _; refine xG mixed [] ?_) | (show SWp _ _ _ (.cond _ _ _) _ _ _ _; first | (refine cB (fun hc => ?_) (fun hc => ?_) <;> first | exact False.elim hc | exact absurd hc Bool.false_ne_true | exact absurd hc.symm Bool.false_ne_true | skip) | refine cU ?_ ?_)))
      · (((simp only [push_cast, reduceIte, reduceDIte, reduceCtorEq, Nat.reduceLT, Nat.reduceLeDiff, Nat.reduceEqDiff, Nat.reduceAdd, Nat.reduceMul, Nat.reduceBEq, Nat.reducePow, Int.zero_add, Int.reduceAdd, Int.reduceSub, Int.reduceLT, Int.reduceLE, Int.reduceToNat, Int.reduceNeg, Nat.reduceSub, Int.reduceBNe, Int.reduceBEq]); repeat (simp (disch := omega) only [idx_nat, idx_mapT, i64w, rows_getS, rows_get, getD_set_self, famR_get]; try (simp only [push_cast, reduceIte, reduceDIte, reduceCtorEq, Nat.reduceLT, Nat.reduceLeDiff, Nat.reduceEqDiff, Nat.reduceAdd, Nat.reduceMul, Nat.reduceBEq, Nat.reducePow, Int.zero_add, Int.reduceAdd, Int.reduceSub, Int.reduceLT, Int.reduceLE, Int.reduceToNat, Int.reduceNeg, Nat.reduceSub, Int.reduceBNe, Int.reduceBEq]))))
        refine lbC ?_
        have : ¬ l = k := fun e => by subst e; simp at hc
        simp [this]
      · (refine lN [] ?_)
        exact ⟨_, by omega, i + 1, by omega, rfl, take_next h3 (by omega) (by omega) (by simpa using hc), rfl, rfl⟩
      · (((simp only [push_cast, reduceIte, reduceDIte, reduceCtorEq, Nat.reduceLT, Nat.reduceLeDiff, Nat.reduceEqDiff, Nat.reduceAdd, Nat.reduceMul, Nat.reduceBEq, Nat.reducePow, Int.zero_add, Int.reduceAdd, Int.reduceSub, Int.reduceLT, Int.reduceLE, Int.reduceToNat, Int.reduceNeg, Nat.reduceSub, Int.reduceBNe, Int.reduceBEq]); repeat (simp (disch := omega) only [idx_nat, idx_mapT, i64w, rows_getS, rows_get, getD_set_self, famR_get]; try (simp only [push_cast, reduceIte, reduceDIte, reduceCtorEq, Nat.reduceLT, Nat.reduceLeDiff, Nat.reduceEqDiff, Nat.reduceAdd, Nat.reduceMul, Nat.reduceBEq, Nat.reducePow, Int.zero_add, Int.reduceAdd, Int.reduceSub, Int.reduceLT, Int.reduceLE, Int.reduceToNat, Int.reduceNeg, Nat.reduceSub, Int.reduceBNe, Int.reduceBEq]))))
        refine lbC ?_
        have : l = k := by
          have h4 := h3
          rw [List.take_of_length_le (by omega), List.take_of_length_le (by omega)] at h4
          exact h4
        simp [this]
theorem staC_gl (s : Sta) : glIn (staC s) = none := rfl
theorem netC_gl (n : Net) : glIn (netC n) = none := rfl
attribute [push_cast] staC_gl netC_gl
def zSta : Sta := ⟨[], [], [], []⟩
theorem zOk : staOk zSta := ⟨⟨by simp [zSta], by simp [zSta]⟩, ⟨by simp [zSta], by simp [zSta]⟩, ⟨by simp [zSta], by simp [zSta]⟩, by simp [zSta]⟩
theorem hS_same {n : Net} {s : Sta} (hv : netB n = true) (h : staB n s = true) : hS n (heldL s) = heldL s := by
  obtain ⟨hh, hl, l1, l2⟩ := sta_hold hv h
  obtain ⟨h1, h2, h3⟩ := staB_in hv h
  refine List.ext_getElem (by simp [hS, heldL, l1]) fun i hi _ => ?_
  have hi2 : i < n.nodes.length := by simpa [hS] using hi
  have e := hS_at (held := heldL s) hi2
  have a := heldL_at s (i := i) (by omega)
  have hk := h2 i hi2
  unfold okSN btwB at hk
  simp only [Bool.and_eq_true, decide_eq_true_eq, Bool.not_eq_true', Bool.and_eq_false_iff, decide_eq_false_iff_not] at hk
  have g1 : (hS n (heldL s))[i] = (hS n (heldL s)).getD i default := by simp [List.getD_eq_getElem?_getD, List.getElem?_eq_getElem hi]
  have g2 : (heldL s)[i]'(by rw [heldL_len]; omega) = (heldL s).getD i default := by simp [List.getD_eq_getElem?_getD, List.getElem?_eq_getElem (by rw [heldL_len]; omega : i < (heldL s).length)]
  rw [g1, g2, e]
  split
  · next h3 =>
    have hc : capN (n.nodes.getD i default) = 0 := by unfold capN; rw [if_pos h3]
    rw [a]
    have : s.pon.getD i default = 0 := by
      rcases hk.2 with q | q
      · exact absurd h3 q
      · simpa using q
    omega
  · rfl
theorem sameT (a : Sta) (m : Nat) (ha : staOk a) : DCalls Try.prog 14 [staD a, staD a] (hget []) m (lb true) (hget []) := by
  have := same_f a a m ha ha
  rwa [decide_eq_true rfl] at this
theorem eqlT (l : List ByteArray) (m : Nat) (hl : l.length ≤ 281474976710656) : DCalls Try.prog 17 [strs l, strs l] (hget []) m (lb true) (hget []) := by
  have := eqlStr_f l l m hl hl
  rwa [decide_eq_true rfl] at this
theorem stS_ok {n : Net} {s : Sta} (hv : netB n = true) (hs : staOk s) (l1 : s.vol.length = n.nodes.length) (hle : ∀ i, i < n.nodes.length → 0 ≤ (heldL s).getD i default ∧ (heldL s).getD i default ≤ 2251799813685248) : staOk ⟨vS n (heldL s), pS n (heldL s), s.set, s.on⟩ := by
  have a1 := netB_len hv
  refine ⟨⟨by simp [vS]; omega, fun z hz => ?_⟩, ⟨by simp [pS]; omega, fun z hz => ?_⟩, hs.2.2.1, hs.2.2.2⟩
  · simp only [vS, List.mem_map, List.mem_range] at hz
    obtain ⟨i, hi, rfl⟩ := hz
    have h1 := capN_le hv hi
    have h2 := hle i hi
    unfold i64ok
    split <;> omega
  · simp only [pS, List.mem_map, List.mem_range] at hz
    obtain ⟨i, hi, rfl⟩ := hz
    have h1 := capN_le hv hi
    have h2 := hle i hi
    unfold i64ok
    split <;> omega
def TailS (n : Net) (s T : Sta) (Z E : Int) (W : List ByteArray) (F : Int) : Prop :=
  SWp Try.prog 193 0 (match Try.f3.body with
    | some (.seq _ (.seq _ (.seq _ (.seq _ (.seq _ (.seq _ (.seq _ (.seq _ (.seq _ (.seq _ x)))))))))) => x
    | _ => .skip) (endP Try.prog 0 [ResultVar.tmp 8] [4] [] (fun d1 x => d1 = lb true))
    [(4, .ptr 0 0), (5, .ptr 8 0), (9, .ptr 160 0), (10, li Z), (11, li E), (12, strs W), (13, li F)]
    [(0, .blk 25 (netC n)), (8, .blk 29 (staC s)), (160, .blk 29 (staC T))] 161

end Go.Proofs.Ytlbadfjonhgppaa
