/-
  Contracts of functions of the program, over the engine.
  No condition.
-/
import Derived.Test.YtkhddlhhbanebaaCa8
namespace Go.Proofs.Ytkhddlhhbanebaa
open Go.Eng
set_option linter.all false
instance : Inhabited Rec := ⟨zRec⟩
def volsB (l : List Int) : Bool := l.all volB
def recB (r : Rec) : Bool := recSame r (recPlain r) &&
  (if r.kind = 1 then decide (1 ≤ r.seconds) && decide (r.seconds ≤ 86400) && decide (r.inflows.length ≤ 300) && volsB r.inflows
   else if r.kind = 2 then nameB r.link && inB r.setting 0 1000
   else if r.kind = 3 then msgB r.msg
   else if r.kind = 4 then textB r.text else false)
theorem recPlain_ok {r : Rec} (h : recOk r) : recOk (recPlain r) := by
  obtain ⟨h1, h2, h3, h4⟩ := h
  unfold recPlain recOk
  have e : ByteArray.empty.size = 0 := rfl
  split
  · simp [zRec, zMsg]; omega
  · split
    · simp [zRec, zMsg]; omega
    · split
      · simp [zRec, zMsg]; omega
      · split <;> simp [zRec, zMsg] <;> omega
theorem valid1_f (n : Int) (m : Nat) : DCalls Try.prog 61 (li n :: []) (hget []) m (lb (!volB n)) (hget []) := by
  refine pureC (n := 9) (rs := [.tmp 2]) (ts := [4]) Try.func61 rfl (by decide) [] (by (exact SD)) ?_
  (repeat' (first | refine swp_seq [0, 2] ?_ | (first | refine rF (fun hf => ?_) | refine tN ?_ | refine swp_skip ?_ | refine swp_ret ?_ | refine swp_exit ?_ | refine swp_block ?_ | refine swp_scope ?_ | refine thenK_ret ?_ | refine thenK_exit ?_ | refine blockK_normal ?_ | refine blockK_ret ?_ | refine blockK_here ?_ | refine bX ?_ | refine scopeK_normal ?_ | refine scopeK_ret ?_ | refine scopeK_exit ?_ | refine loopK_ret ?_ | refine loopK_exit ?_ | refine dF mixed ?_ | (refine cB (fun hc => ?_) (fun hc => ?_) <;> first | exact False.elim hc | exact absurd hc Bool.false_ne_true | exact absurd hc.symm Bool.false_ne_true | skip) | refine cU ?_ ?_)))
  (((simp only [push_cast, reduceIte, reduceDIte, reduceCtorEq, Nat.reduceLT, Nat.reduceLeDiff, Nat.reduceEqDiff, Nat.reduceAdd, Nat.reduceMul, Nat.reduceBEq, Nat.reducePow, Int.zero_add, Int.reduceAdd, Int.reduceSub, Int.reduceLT, Int.reduceLE, Int.reduceToNat, Int.reduceNeg, Nat.reduceSub]); repeat (simp (disch := omega) only [idx_map, idx_nat, i64w]; try (simp only [push_cast, reduceIte, reduceDIte, reduceCtorEq, Nat.reduceLT, Nat.reduceLeDiff, Nat.reduceEqDiff, Nat.reduceAdd, Nat.reduceMul, Nat.reduceBEq, Nat.reducePow, Int.zero_add, Int.reduceAdd, Int.reduceSub, Int.reduceLT, Int.reduceLE, Int.reduceToNat, Int.reduceNeg, Nat.reduceSub]))))
  unfold volB
  congr 3
  grind
theorem valid2_f (n : UInt8) (m : Nat) : DCalls Try.prog 65 (u8 n.toNat :: []) (hget []) m (lb (!(decide (32 ≤ n.toNat) && decide (n.toNat ≤ 126)))) (hget []) := by
  refine pureC (n := 9) (rs := [.tmp 2]) (ts := [4]) Try.func65 rfl (by decide) [] (by (exact SD)) ?_
  (repeat' (first | refine swp_seq [0, 2] ?_ | (first | refine rF (fun hf => ?_) | refine tN ?_ | refine swp_skip ?_ | refine swp_ret ?_ | refine swp_exit ?_ | refine swp_block ?_ | refine swp_scope ?_ | refine thenK_ret ?_ | refine thenK_exit ?_ | refine blockK_normal ?_ | refine blockK_ret ?_ | refine blockK_here ?_ | refine bX ?_ | refine scopeK_normal ?_ | refine scopeK_ret ?_ | refine scopeK_exit ?_ | refine loopK_ret ?_ | refine loopK_exit ?_ | refine dF mixed ?_ | (refine cB (fun hc => ?_) (fun hc => ?_) <;> first | exact False.elim hc | exact absurd hc Bool.false_ne_true | exact absurd hc.symm Bool.false_ne_true | skip) | refine cU ?_ ?_)))
  (((simp only [push_cast, reduceIte, reduceDIte, reduceCtorEq, Nat.reduceLT, Nat.reduceLeDiff, Nat.reduceEqDiff, Nat.reduceAdd, Nat.reduceMul, Nat.reduceBEq, Nat.reducePow, Int.zero_add, Int.reduceAdd, Int.reduceSub, Int.reduceLT, Int.reduceLE, Int.reduceToNat, Int.reduceNeg, Nat.reduceSub]); repeat (simp (disch := omega) only [idx_map, idx_nat, i64w]; try (simp only [push_cast, reduceIte, reduceDIte, reduceCtorEq, Nat.reduceLT, Nat.reduceLeDiff, Nat.reduceEqDiff, Nat.reduceAdd, Nat.reduceMul, Nat.reduceBEq, Nat.reducePow, Int.zero_add, Int.reduceAdd, Int.reduceSub, Int.reduceLT, Int.reduceLE, Int.reduceToNat, Int.reduceNeg, Nat.reduceSub]))))
  congr 3
  grind
theorem any_not {α : Type} (p : α → Bool) (l : List α) : (!(l.any fun x => !p x)) = l.all p := by
  induction l with
  | nil => rfl
  | cons x l ih => simp only [List.any_cons, List.all_cons, ← ih]; cases p x <;> simp
set_option maxHeartbeats 4000000 in
theorem valid_f (r : Rec) (m : Nat) (hr : recOk r) : DCalls Try.prog 40 [recD r] (hget []) m (lb (recB r)) (hget []) := by
  obtain ⟨h1, h2, h3, h4⟩ := id hr
  refine pureC (n := 72) (rs := [.tmp 2]) (ts := [4]) Try.func40 rfl (by decide) [] (by (exact SD)) ?_
  (repeat' (first | refine swp_seq [0, 1, 2, 7, 9, 10, 32, 47, 53] ?_ | (first | refine rF (fun hf => ?_) | refine tN ?_ | refine swp_skip ?_ | refine swp_ret ?_ | refine swp_exit ?_ | refine swp_block ?_ | refine swp_scope ?_ | refine thenK_ret ?_ | refine thenK_exit ?_ | refine blockK_normal ?_ | refine blockK_ret ?_ | refine blockK_here ?_ | refine bX ?_ | refine scopeK_normal ?_ | refine scopeK_ret ?_ | refine scopeK_exit ?_ | refine loopK_ret ?_ | refine loopK_exit ?_ | refine dF mixed ?_ | (refine cB (fun hc => ?_) (fun hc => ?_) <;> first | exact False.elim hc | exact absurd hc Bool.false_ne_true | exact absurd hc.symm Bool.false_ne_true | skip) | refine cU ?_ ?_)))
  (refine xC mixed [] ?_)
  (refine yA (plain_f _ _) ?_)
  (refine yA (equal_f _ _ _ hr (recPlain_ok hr)) ?_)
  (refine xrun_end ?_)
  (repeat' (first | refine swp_seq [0, 1, 2, 7, 9, 10, 32, 47, 53] ?_ | (first | refine rF (fun hf => ?_) | refine tN ?_ | refine swp_skip ?_ | refine swp_ret ?_ | refine swp_exit ?_ | refine swp_block ?_ | refine swp_scope ?_ | refine thenK_ret ?_ | refine thenK_exit ?_ | refine blockK_normal ?_ | refine blockK_ret ?_ | refine blockK_here ?_ | refine bX ?_ | refine scopeK_normal ?_ | refine scopeK_ret ?_ | refine scopeK_exit ?_ | refine loopK_ret ?_ | refine loopK_exit ?_ | refine dF mixed ?_ | (refine cB (fun hc => ?_) (fun hc => ?_) <;> first | exact False.elim hc | exact absurd hc Bool.false_ne_true | exact absurd hc.symm Bool.false_ne_true | skip) | refine cU ?_ ?_)))
  · (((simp only [push_cast, reduceIte, reduceDIte, reduceCtorEq, Nat.reduceLT, Nat.reduceLeDiff, Nat.reduceEqDiff, Nat.reduceAdd, Nat.reduceMul, Nat.reduceBEq, Nat.reducePow, Int.zero_add, Int.reduceAdd, Int.reduceSub, Int.reduceLT, Int.reduceLE, Int.reduceToNat, Int.reduceNeg, Nat.reduceSub]); repeat (simp (disch := omega) only [idx_map, idx_nat, i64w]; try (simp only [push_cast, reduceIte, reduceDIte, reduceCtorEq, Nat.reduceLT, Nat.reduceLeDiff, Nat.reduceEqDiff, Nat.reduceAdd, Nat.reduceMul, Nat.reduceBEq, Nat.reducePow, Int.zero_add, Int.reduceAdd, Int.reduceSub, Int.reduceLT, Int.reduceLE, Int.reduceToNat, Int.reduceNeg, Nat.reduceSub])))); simp [recB, hc]
  · ((refine rC (fun hf => ?_); refine cA (conF_f _ [] (fun n => !volB n) (fun n m => valid1_f n m) trivial _ _ h1) (fun hf => ?_); refine drun_end ?_))
    (repeat' (first | refine swp_seq [0, 1, 2, 7, 9, 10, 32, 47, 53] ?_ | (first | refine rF (fun hf => ?_) | refine tN ?_ | refine swp_skip ?_ | refine swp_ret ?_ | refine swp_exit ?_ | refine swp_block ?_ | refine swp_scope ?_ | refine thenK_ret ?_ | refine thenK_exit ?_ | refine blockK_normal ?_ | refine blockK_ret ?_ | refine blockK_here ?_ | refine bX ?_ | refine scopeK_normal ?_ | refine scopeK_ret ?_ | refine scopeK_exit ?_ | refine loopK_ret ?_ | refine loopK_exit ?_ | refine dF mixed ?_ | (refine cB (fun hc => ?_) (fun hc => ?_) <;> first | exact False.elim hc | exact absurd hc Bool.false_ne_true | exact absurd hc.symm Bool.false_ne_true | skip) | refine cU ?_ ?_)))
    (((simp only [push_cast, reduceIte, reduceDIte, reduceCtorEq, Nat.reduceLT, Nat.reduceLeDiff, Nat.reduceEqDiff, Nat.reduceAdd, Nat.reduceMul, Nat.reduceBEq, Nat.reducePow, Int.zero_add, Int.reduceAdd, Int.reduceSub, Int.reduceLT, Int.reduceLE, Int.reduceToNat, Int.reduceNeg, Nat.reduceSub]); repeat (simp (disch := omega) only [idx_map, idx_nat, i64w]; try (simp only [push_cast, reduceIte, reduceDIte, reduceCtorEq, Nat.reduceLT, Nat.reduceLeDiff, Nat.reduceEqDiff, Nat.reduceAdd, Nat.reduceMul, Nat.reduceBEq, Nat.reducePow, Int.zero_add, Int.reduceAdd, Int.reduceSub, Int.reduceLT, Int.reduceLE, Int.reduceToNat, Int.reduceNeg, Nat.reduceSub]))))
    have hs : recSame r (recPlain r) = true := by assumption
    unfold recB volsB
    rw [hs, if_pos hc, ← any_not volB r.inflows]
    generalize r.inflows.any (fun x => !volB x) = t
    congr 3
    grind
  · ((refine rC (fun hf => ?_); refine cA (name_f _ _ h2) (fun hf => ?_); refine drun_end ?_))
    (repeat' (first | refine swp_seq [0, 1, 2, 7, 9, 10, 32, 47, 53] ?_ | (first | refine rF (fun hf => ?_) | refine tN ?_ | refine swp_skip ?_ | refine swp_ret ?_ | refine swp_exit ?_ | refine swp_block ?_ | refine swp_scope ?_ | refine thenK_ret ?_ | refine thenK_exit ?_ | refine blockK_normal ?_ | refine blockK_ret ?_ | refine blockK_here ?_ | refine bX ?_ | refine scopeK_normal ?_ | refine scopeK_ret ?_ | refine scopeK_exit ?_ | refine loopK_ret ?_ | refine loopK_exit ?_ | refine dF mixed ?_ | (refine cB (fun hc => ?_) (fun hc => ?_) <;> first | exact False.elim hc | exact absurd hc Bool.false_ne_true | exact absurd hc.symm Bool.false_ne_true | skip) | refine cU ?_ ?_)))
    (((simp only [push_cast, reduceIte, reduceDIte, reduceCtorEq, Nat.reduceLT, Nat.reduceLeDiff, Nat.reduceEqDiff, Nat.reduceAdd, Nat.reduceMul, Nat.reduceBEq, Nat.reducePow, Int.zero_add, Int.reduceAdd, Int.reduceSub, Int.reduceLT, Int.reduceLE, Int.reduceToNat, Int.reduceNeg, Nat.reduceSub]); repeat (simp (disch := omega) only [idx_map, idx_nat, i64w]; try (simp only [push_cast, reduceIte, reduceDIte, reduceCtorEq, Nat.reduceLT, Nat.reduceLeDiff, Nat.reduceEqDiff, Nat.reduceAdd, Nat.reduceMul, Nat.reduceBEq, Nat.reducePow, Int.zero_add, Int.reduceAdd, Int.reduceSub, Int.reduceLT, Int.reduceLE, Int.reduceToNat, Int.reduceNeg, Nat.reduceSub]))))
    simp only [recB, inB, *]
    congr 3
    grind
  · (refine rC (fun hf => ?_))
    (refine cT [136] (tValid_f r.msg 1 h3) (fun hf => ?_))
    (refine drun_end ?_)
    (repeat' (first | refine swp_seq [0, 1, 2, 7, 9, 10, 32, 47, 53] ?_ | (first | refine rF (fun hf => ?_) | refine tN ?_ | refine swp_skip ?_ | refine swp_ret ?_ | refine swp_exit ?_ | refine swp_block ?_ | refine swp_scope ?_ | refine thenK_ret ?_ | refine thenK_exit ?_ | refine blockK_normal ?_ | refine blockK_ret ?_ | refine blockK_here ?_ | refine bX ?_ | refine scopeK_normal ?_ | refine scopeK_ret ?_ | refine scopeK_exit ?_ | refine loopK_ret ?_ | refine loopK_exit ?_ | refine dF mixed ?_ | (refine cB (fun hc => ?_) (fun hc => ?_) <;> first | exact False.elim hc | exact absurd hc Bool.false_ne_true | exact absurd hc.symm Bool.false_ne_true | skip) | refine cU ?_ ?_)))
    (((simp only [push_cast, reduceIte, reduceDIte, reduceCtorEq, Nat.reduceLT, Nat.reduceLeDiff, Nat.reduceEqDiff, Nat.reduceAdd, Nat.reduceMul, Nat.reduceBEq, Nat.reducePow, Int.zero_add, Int.reduceAdd, Int.reduceSub, Int.reduceLT, Int.reduceLE, Int.reduceToNat, Int.reduceNeg, Nat.reduceSub]); repeat (simp (disch := omega) only [idx_map, idx_nat, i64w]; try (simp only [push_cast, reduceIte, reduceDIte, reduceCtorEq, Nat.reduceLT, Nat.reduceLeDiff, Nat.reduceEqDiff, Nat.reduceAdd, Nat.reduceMul, Nat.reduceBEq, Nat.reducePow, Int.zero_add, Int.reduceAdd, Int.reduceSub, Int.reduceLT, Int.reduceLE, Int.reduceToNat, Int.reduceNeg, Nat.reduceSub]))))
    simp [recB, *]
  · ((refine rC (fun hf => ?_); refine cA (conFb_f _ [] (fun n => !(decide (32 ≤ n.toNat) && decide (n.toNat ≤ 126))) (fun n m => valid2_f n m) trivial _ _ (by rw [bsz]; exact h4)) (fun hf => ?_); refine drun_end ?_))
    (repeat' (first | refine swp_seq [0, 1, 2, 7, 9, 10, 32, 47, 53] ?_ | (first | refine rF (fun hf => ?_) | refine tN ?_ | refine swp_skip ?_ | refine swp_ret ?_ | refine swp_exit ?_ | refine swp_block ?_ | refine swp_scope ?_ | refine thenK_ret ?_ | refine thenK_exit ?_ | refine blockK_normal ?_ | refine blockK_ret ?_ | refine blockK_here ?_ | refine bX ?_ | refine scopeK_normal ?_ | refine scopeK_ret ?_ | refine scopeK_exit ?_ | refine loopK_ret ?_ | refine loopK_exit ?_ | refine dF mixed ?_ | (refine cB (fun hc => ?_) (fun hc => ?_) <;> first | exact False.elim hc | exact absurd hc Bool.false_ne_true | exact absurd hc.symm Bool.false_ne_true | skip) | refine cU ?_ ?_)))
    (((simp only [push_cast, reduceIte, reduceDIte, reduceCtorEq, Nat.reduceLT, Nat.reduceLeDiff, Nat.reduceEqDiff, Nat.reduceAdd, Nat.reduceMul, Nat.reduceBEq, Nat.reducePow, Int.zero_add, Int.reduceAdd, Int.reduceSub, Int.reduceLT, Int.reduceLE, Int.reduceToNat, Int.reduceNeg, Nat.reduceSub]); repeat (simp (disch := omega) only [idx_map, idx_nat, i64w]; try (simp only [push_cast, reduceIte, reduceDIte, reduceCtorEq, Nat.reduceLT, Nat.reduceLeDiff, Nat.reduceEqDiff, Nat.reduceAdd, Nat.reduceMul, Nat.reduceBEq, Nat.reducePow, Int.zero_add, Int.reduceAdd, Int.reduceSub, Int.reduceLT, Int.reduceLE, Int.reduceToNat, Int.reduceNeg, Nat.reduceSub]))))
    have hs : recSame r (recPlain r) = true := by assumption
    rw [any_not (fun n : UInt8 => decide (32 ≤ n.toNat) && decide (n.toNat ≤ 126))]
    simp only [recB, textB, hs, hc]
    generalize (r.text.data.toList.all fun n => decide (32 ≤ n.toNat) && decide (n.toNat ≤ 126)) = t
    congr 3
    grind
  · (((simp only [push_cast, reduceIte, reduceDIte, reduceCtorEq, Nat.reduceLT, Nat.reduceLeDiff, Nat.reduceEqDiff, Nat.reduceAdd, Nat.reduceMul, Nat.reduceBEq, Nat.reducePow, Int.zero_add, Int.reduceAdd, Int.reduceSub, Int.reduceLT, Int.reduceLE, Int.reduceToNat, Int.reduceNeg, Nat.reduceSub]); repeat (simp (disch := omega) only [idx_map, idx_nat, i64w]; try (simp only [push_cast, reduceIte, reduceDIte, reduceCtorEq, Nat.reduceLT, Nat.reduceLeDiff, Nat.reduceEqDiff, Nat.reduceAdd, Nat.reduceMul, Nat.reduceBEq, Nat.reducePow, Int.zero_add, Int.reduceAdd, Int.reduceSub, Int.reduceLT, Int.reduceLE, Int.reduceToNat, Int.reduceNeg, Nat.reduceSub])))); simp [recB, *]
set_option maxHeartbeats 4000000 in
theorem rRight_f (r : Rec) (m : Nat) (hr : recOk r) : DCalls Try.prog 14 [recD r] (hget []) m (lb (recB r)) (hget []) := by
  obtain ⟨h1, h2, h3, h4⟩ := id hr
  refine pureC (n := 89) (rs := [.tmp 2]) (ts := [4]) Try.func14 rfl (by decide) [] (by (exact SD)) ?_
  (repeat' (first | refine swp_seq [0, 1, 2, 3, 4, 9, 10, 31, 36, 45, 46, 67, 68, 76, 77, 85] ?_ | (first | refine rF (fun hf => ?_) | refine tN ?_ | refine swp_skip ?_ | refine swp_ret ?_ | refine swp_exit ?_ | refine swp_block ?_ | refine swp_scope ?_ | refine thenK_ret ?_ | refine thenK_exit ?_ | refine blockK_normal ?_ | refine blockK_ret ?_ | refine blockK_here ?_ | refine bX ?_ | refine scopeK_normal ?_ | refine scopeK_ret ?_ | refine scopeK_exit ?_ | refine loopK_ret ?_ | refine loopK_exit ?_ | refine dF mixed ?_ | (refine cB (fun hc => ?_) (fun hc => ?_) <;> first | exact False.elim hc | exact absurd hc Bool.false_ne_true | exact absurd hc.symm Bool.false_ne_true | skip) | refine cU ?_ ?_)))
  · (((simp only [push_cast, reduceIte, reduceDIte, reduceCtorEq, Nat.reduceLT, Nat.reduceLeDiff, Nat.reduceEqDiff, Nat.reduceAdd, Nat.reduceMul, Nat.reduceBEq, Nat.reducePow, Int.zero_add, Int.reduceAdd, Int.reduceSub, Int.reduceLT, Int.reduceLE, Int.reduceToNat, Int.reduceNeg, Nat.reduceSub]); repeat (simp (disch := omega) only [idx_map, idx_nat, i64w]; try (simp only [push_cast, reduceIte, reduceDIte, reduceCtorEq, Nat.reduceLT, Nat.reduceLeDiff, Nat.reduceEqDiff, Nat.reduceAdd, Nat.reduceMul, Nat.reduceBEq, Nat.reducePow, Int.zero_add, Int.reduceAdd, Int.reduceSub, Int.reduceLT, Int.reduceLE, Int.reduceToNat, Int.reduceNeg, Nat.reduceSub]))))
    have : (decide (1 ≤ r.seconds) && decide (r.seconds ≤ 86400) && decide (r.inflows.length ≤ 300)) = false := by grind
    unfold recB
    rw [if_pos (by assumption), this]; simp
  · refine loop_swp [1, 3, 4] [0, 40] 41 (fun q A H => ∃ i : Nat, i ≤ r.inflows.length ∧ q = r.inflows.length - i ∧ (r.inflows.take i).all volB = true ∧ A = [(1, .ptr 0 0), (3, .ptr 40 0), (4, li i)] ∧ H = [(0, .blk 26 (recC r)), (40, .blk 26 [li r.kind, li r.seconds, ints r.inflows, ls .empty, li 0, ls .empty, li 0, li 0, li 0, li 0, ls .empty])]) (by omega) ?_ ?_ ?_
    · rintro q A H ⟨i, h1, h2, h3, rfl, rfl⟩
      exact ⟨by (exact SD), by (exact SD)⟩
    · refine ⟨_, 0, by omega, rfl, rfl, ?_, ?_⟩
      · (((simp only [push_cast, reduceIte, reduceDIte, reduceCtorEq, Nat.reduceLT, Nat.reduceLeDiff, Nat.reduceEqDiff, Nat.reduceAdd, Nat.reduceMul, Nat.reduceBEq, Nat.reducePow, Int.zero_add, Int.reduceAdd, Int.reduceSub, Int.reduceLT, Int.reduceLE, Int.reduceToNat, Int.reduceNeg, Nat.reduceSub]); repeat (simp (disch := omega) only [idx_map, idx_nat, i64w]; try (simp only [push_cast, reduceIte, reduceDIte, reduceCtorEq, Nat.reduceLT, Nat.reduceLeDiff, Nat.reduceEqDiff, Nat.reduceAdd, Nat.reduceMul, Nat.reduceBEq, Nat.reducePow, Int.zero_add, Int.reduceAdd, Int.reduceSub, Int.reduceLT, Int.reduceLE, Int.reduceToNat, Int.reduceNeg, Nat.reduceSub]))))
      · (((simp only [push_cast, reduceIte, reduceDIte, reduceCtorEq, Nat.reduceLT, Nat.reduceLeDiff, Nat.reduceEqDiff, Nat.reduceAdd, Nat.reduceMul, Nat.reduceBEq, Nat.reducePow, Int.zero_add, Int.reduceAdd, Int.reduceSub, Int.reduceLT, Int.reduceLE, Int.reduceToNat, Int.reduceNeg, Nat.reduceSub]); repeat (simp (disch := omega) only [idx_map, idx_nat, i64w]; try (simp only [push_cast, reduceIte, reduceDIte, reduceCtorEq, Nat.reduceLT, Nat.reduceLeDiff, Nat.reduceEqDiff, Nat.reduceAdd, Nat.reduceMul, Nat.reduceBEq, Nat.reducePow, Int.zero_add, Int.reduceAdd, Int.reduceSub, Int.reduceLT, Int.reduceLE, Int.reduceToNat, Int.reduceNeg, Nat.reduceSub]))))
    · rintro q A H ⟨i, g1, g2, g3, rfl, rfl⟩
      (repeat' (first | refine swp_seq [0, 1, 2, 3, 4, 9, 10, 31, 36, 45, 46, 67, 68, 76, 77, 85] ?_ | (first | refine rF (fun hf => ?_) | refine tN ?_ | refine swp_skip ?_ | refine swp_ret ?_ | refine swp_exit ?_ | refine swp_block ?_ | refine swp_scope ?_ | refine thenK_ret ?_ | refine thenK_exit ?_ | refine blockK_normal ?_ | refine blockK_ret ?_ | refine blockK_here ?_ | refine bX ?_ | refine scopeK_normal ?_ | refine scopeK_ret ?_ | refine scopeK_exit ?_ | refine loopK_ret ?_ | refine loopK_exit ?_ | refine dF mixed ?_ | (refine cB (fun hc => ?_) (fun hc => ?_) <;> first | exact False.elim hc | exact absurd hc Bool.false_ne_true | exact absurd hc.symm Bool.false_ne_true | skip) | refine cU ?_ ?_)))
      · ((refine rC (fun hf => ?_); refine cA (rVol_f _ _) (fun hf => ?_); refine drun_end ?_))
        (repeat' (first | refine swp_seq [0, 1, 2, 3, 4, 9, 10, 31, 36, 45, 46, 67, 68, 76, 77, 85] ?_ | (first | refine rF (fun hf => ?_) | refine tN ?_ | refine swp_skip ?_ | refine swp_ret ?_ | refine swp_exit ?_ | refine swp_block ?_ | refine swp_scope ?_ | refine thenK_ret ?_ | refine thenK_exit ?_ | refine blockK_normal ?_ | refine blockK_ret ?_ | refine blockK_here ?_ | refine bX ?_ | refine scopeK_normal ?_ | refine scopeK_ret ?_ | refine scopeK_exit ?_ | refine loopK_ret ?_ | refine loopK_exit ?_ | refine dF mixed ?_ | (refine cB (fun hc => ?_) (fun hc => ?_) <;> first | exact False.elim hc | exact absurd hc Bool.false_ne_true | exact absurd hc.symm Bool.false_ne_true | skip) | refine cU ?_ ?_)))
        · (((simp only [push_cast, reduceIte, reduceDIte, reduceCtorEq, Nat.reduceLT, Nat.reduceLeDiff, Nat.reduceEqDiff, Nat.reduceAdd, Nat.reduceMul, Nat.reduceBEq, Nat.reducePow, Int.zero_add, Int.reduceAdd, Int.reduceSub, Int.reduceLT, Int.reduceLE, Int.reduceToNat, Int.reduceNeg, Nat.reduceSub]); repeat (simp (disch := omega) only [idx_map, idx_nat, i64w]; try (simp only [push_cast, reduceIte, reduceDIte, reduceCtorEq, Nat.reduceLT, Nat.reduceLeDiff, Nat.reduceEqDiff, Nat.reduceAdd, Nat.reduceMul, Nat.reduceBEq, Nat.reducePow, Int.zero_add, Int.reduceAdd, Int.reduceSub, Int.reduceLT, Int.reduceLE, Int.reduceToNat, Int.reduceNeg, Nat.reduceSub]))))
          have : volsB r.inflows = false := by
            unfold volsB
            rw [List.all_eq_false]
            refine ⟨_, List.getElem_mem (show i < r.inflows.length by omega), ?_⟩
            rw [List.getD_eq_getElem?_getD, List.getElem?_eq_getElem (by omega)] at hc
            simpa using hc
          unfold recB
          rw [if_pos (by assumption), this]; simp
        · (refine lN [0, 40] ?_)
          refine ⟨_, by omega, i + 1, by omega, rfl, ?_, rfl, rfl⟩
          rw [List.take_succ_eq_append_getElem (by omega), List.all_append, g3]
          rw [List.getD_eq_getElem?_getD, List.getElem?_eq_getElem (by omega)] at hc
          simpa using hc
      · ((refine rC (fun hf => ?_); refine cA (same_f r ⟨r.kind, r.seconds, r.inflows, .empty, 0, zMsg, .empty⟩ _ hr ⟨h1, Nat.zero_le _, Nat.zero_le _, Nat.zero_le _⟩) (fun hf => ?_); refine drun_end ?_))
        (repeat' (first | refine swp_seq [0, 1, 2, 3, 4, 9, 10, 31, 36, 45, 46, 67, 68, 76, 77, 85] ?_ | (first | refine rF (fun hf => ?_) | refine tN ?_ | refine swp_skip ?_ | refine swp_ret ?_ | refine swp_exit ?_ | refine swp_block ?_ | refine swp_scope ?_ | refine thenK_ret ?_ | refine thenK_exit ?_ | refine blockK_normal ?_ | refine blockK_ret ?_ | refine blockK_here ?_ | refine bX ?_ | refine scopeK_normal ?_ | refine scopeK_ret ?_ | refine scopeK_exit ?_ | refine loopK_ret ?_ | refine loopK_exit ?_ | refine dF mixed ?_ | (refine cB (fun hc => ?_) (fun hc => ?_) <;> first | exact False.elim hc | exact absurd hc Bool.false_ne_true | exact absurd hc.symm Bool.false_ne_true | skip) | refine cU ?_ ?_)))
        (((simp only [push_cast, reduceIte, reduceDIte, reduceCtorEq, Nat.reduceLT, Nat.reduceLeDiff, Nat.reduceEqDiff, Nat.reduceAdd, Nat.reduceMul, Nat.reduceBEq, Nat.reducePow, Int.zero_add, Int.reduceAdd, Int.reduceSub, Int.reduceLT, Int.reduceLE, Int.reduceToNat, Int.reduceNeg, Nat.reduceSub]); repeat (simp (disch := omega) only [idx_map, idx_nat, i64w]; try (simp only [push_cast, reduceIte, reduceDIte, reduceCtorEq, Nat.reduceLT, Nat.reduceLeDiff, Nat.reduceEqDiff, Nat.reduceAdd, Nat.reduceMul, Nat.reduceBEq, Nat.reducePow, Int.zero_add, Int.reduceAdd, Int.reduceSub, Int.reduceLT, Int.reduceLE, Int.reduceToNat, Int.reduceNeg, Nat.reduceSub]))))
        rw [List.take_of_length_le (by omega)] at g3
        have hk : r.kind = 1 := by assumption
        have e : recPlain r = ⟨r.kind, r.seconds, r.inflows, .empty, 0, zMsg, .empty⟩ := by simp [recPlain, zRec, hk]
        unfold recB volsB
        rw [if_pos hk, e, g3]
        congr 3
        grind
  · ((refine rC (fun hf => ?_); refine cA (rName_f _ _ h2) (fun hf => ?_); refine drun_end ?_))
    (repeat' (first | refine swp_seq [0, 1, 2, 3, 4, 9, 10, 31, 36, 45, 46, 67, 68, 76, 77, 85] ?_ | (first | refine rF (fun hf => ?_) | refine tN ?_ | refine swp_skip ?_ | refine swp_ret ?_ | refine swp_exit ?_ | refine swp_block ?_ | refine swp_scope ?_ | refine thenK_ret ?_ | refine thenK_exit ?_ | refine blockK_normal ?_ | refine blockK_ret ?_ | refine blockK_here ?_ | refine bX ?_ | refine scopeK_normal ?_ | refine scopeK_ret ?_ | refine scopeK_exit ?_ | refine loopK_ret ?_ | refine loopK_exit ?_ | refine dF mixed ?_ | (refine cB (fun hc => ?_) (fun hc => ?_) <;> first | exact False.elim hc | exact absurd hc Bool.false_ne_true | exact absurd hc.symm Bool.false_ne_true | skip) | refine cU ?_ ?_)))
    · (((simp only [push_cast, reduceIte, reduceDIte, reduceCtorEq, Nat.reduceLT, Nat.reduceLeDiff, Nat.reduceEqDiff, Nat.reduceAdd, Nat.reduceMul, Nat.reduceBEq, Nat.reducePow, Int.zero_add, Int.reduceAdd, Int.reduceSub, Int.reduceLT, Int.reduceLE, Int.reduceToNat, Int.reduceNeg, Nat.reduceSub]); repeat (simp (disch := omega) only [idx_map, idx_nat, i64w]; try (simp only [push_cast, reduceIte, reduceDIte, reduceCtorEq, Nat.reduceLT, Nat.reduceLeDiff, Nat.reduceEqDiff, Nat.reduceAdd, Nat.reduceMul, Nat.reduceBEq, Nat.reducePow, Int.zero_add, Int.reduceAdd, Int.reduceSub, Int.reduceLT, Int.reduceLE, Int.reduceToNat, Int.reduceNeg, Nat.reduceSub]))))
      unfold recB inB
      rw [if_neg (by assumption), if_pos (by assumption)]
      congr 3
      grind
    · ((refine rC (fun hf => ?_); refine cA (same_f r ⟨r.kind, 0, [], r.link, r.setting, zMsg, .empty⟩ _ hr ⟨Nat.zero_le _, h2, Nat.zero_le _, Nat.zero_le _⟩) (fun hf => ?_); refine drun_end ?_))
      (repeat' (first | refine swp_seq [0, 1, 2, 3, 4, 9, 10, 31, 36, 45, 46, 67, 68, 76, 77, 85] ?_ | (first | refine rF (fun hf => ?_) | refine tN ?_ | refine swp_skip ?_ | refine swp_ret ?_ | refine swp_exit ?_ | refine swp_block ?_ | refine swp_scope ?_ | refine thenK_ret ?_ | refine thenK_exit ?_ | refine blockK_normal ?_ | refine blockK_ret ?_ | refine blockK_here ?_ | refine bX ?_ | refine scopeK_normal ?_ | refine scopeK_ret ?_ | refine scopeK_exit ?_ | refine loopK_ret ?_ | refine loopK_exit ?_ | refine dF mixed ?_ | (refine cB (fun hc => ?_) (fun hc => ?_) <;> first | exact False.elim hc | exact absurd hc Bool.false_ne_true | exact absurd hc.symm Bool.false_ne_true | skip) | refine cU ?_ ?_)))
      (((simp only [push_cast, reduceIte, reduceDIte, reduceCtorEq, Nat.reduceLT, Nat.reduceLeDiff, Nat.reduceEqDiff, Nat.reduceAdd, Nat.reduceMul, Nat.reduceBEq, Nat.reducePow, Int.zero_add, Int.reduceAdd, Int.reduceSub, Int.reduceLT, Int.reduceLE, Int.reduceToNat, Int.reduceNeg, Nat.reduceSub]); repeat (simp (disch := omega) only [idx_map, idx_nat, i64w]; try (simp only [push_cast, reduceIte, reduceDIte, reduceCtorEq, Nat.reduceLT, Nat.reduceLeDiff, Nat.reduceEqDiff, Nat.reduceAdd, Nat.reduceMul, Nat.reduceBEq, Nat.reducePow, Int.zero_add, Int.reduceAdd, Int.reduceSub, Int.reduceLT, Int.reduceLE, Int.reduceToNat, Int.reduceNeg, Nat.reduceSub]))))
      have hk : r.kind = 2 := by assumption
      have e : recPlain r = ⟨r.kind, 0, [], r.link, r.setting, zMsg, .empty⟩ := by simp [recPlain, zRec, hk]
      unfold recB inB
      rw [if_neg (by assumption), if_pos hk, e]
      congr 3
      grind
  · ((refine rC (fun hf => ?_); refine cA (rRight52_f _ _ h3) (fun hf => ?_); refine drun_end ?_))
    (repeat' (first | refine swp_seq [0, 1, 2, 3, 4, 9, 10, 31, 36, 45, 46, 67, 68, 76, 77, 85] ?_ | (first | refine rF (fun hf => ?_) | refine tN ?_ | refine swp_skip ?_ | refine swp_ret ?_ | refine swp_exit ?_ | refine swp_block ?_ | refine swp_scope ?_ | refine thenK_ret ?_ | refine thenK_exit ?_ | refine blockK_normal ?_ | refine blockK_ret ?_ | refine blockK_here ?_ | refine bX ?_ | refine scopeK_normal ?_ | refine scopeK_ret ?_ | refine scopeK_exit ?_ | refine loopK_ret ?_ | refine loopK_exit ?_ | refine dF mixed ?_ | (refine cB (fun hc => ?_) (fun hc => ?_) <;> first | exact False.elim hc | exact absurd hc Bool.false_ne_true | exact absurd hc.symm Bool.false_ne_true | skip) | refine cU ?_ ?_)))
    · (((simp only [push_cast, reduceIte, reduceDIte, reduceCtorEq, Nat.reduceLT, Nat.reduceLeDiff, Nat.reduceEqDiff, Nat.reduceAdd, Nat.reduceMul, Nat.reduceBEq, Nat.reducePow, Int.zero_add, Int.reduceAdd, Int.reduceSub, Int.reduceLT, Int.reduceLE, Int.reduceToNat, Int.reduceNeg, Nat.reduceSub]); repeat (simp (disch := omega) only [idx_map, idx_nat, i64w]; try (simp only [push_cast, reduceIte, reduceDIte, reduceCtorEq, Nat.reduceLT, Nat.reduceLeDiff, Nat.reduceEqDiff, Nat.reduceAdd, Nat.reduceMul, Nat.reduceBEq, Nat.reducePow, Int.zero_add, Int.reduceAdd, Int.reduceSub, Int.reduceLT, Int.reduceLE, Int.reduceToNat, Int.reduceNeg, Nat.reduceSub]))))
      unfold recB
      rw [if_neg (by assumption), if_neg (by assumption), if_pos (by assumption), hc]; simp
    · ((refine rC (fun hf => ?_); refine cA (same_f r ⟨r.kind, 0, [], .empty, 0, r.msg, .empty⟩ _ hr ⟨Nat.zero_le _, Nat.zero_le _, h3, Nat.zero_le _⟩) (fun hf => ?_); refine drun_end ?_))
      (repeat' (first | refine swp_seq [0, 1, 2, 3, 4, 9, 10, 31, 36, 45, 46, 67, 68, 76, 77, 85] ?_ | (first | refine rF (fun hf => ?_) | refine tN ?_ | refine swp_skip ?_ | refine swp_ret ?_ | refine swp_exit ?_ | refine swp_block ?_ | refine swp_scope ?_ | refine thenK_ret ?_ | refine thenK_exit ?_ | refine blockK_normal ?_ | refine blockK_ret ?_ | refine blockK_here ?_ | refine bX ?_ | refine scopeK_normal ?_ | refine scopeK_ret ?_ | refine scopeK_exit ?_ | refine loopK_ret ?_ | refine loopK_exit ?_ | refine dF mixed ?_ | (refine cB (fun hc => ?_) (fun hc => ?_) <;> first | exact False.elim hc | exact absurd hc Bool.false_ne_true | exact absurd hc.symm Bool.false_ne_true | skip) | refine cU ?_ ?_)))
      (((simp only [push_cast, reduceIte, reduceDIte, reduceCtorEq, Nat.reduceLT, Nat.reduceLeDiff, Nat.reduceEqDiff, Nat.reduceAdd, Nat.reduceMul, Nat.reduceBEq, Nat.reducePow, Int.zero_add, Int.reduceAdd, Int.reduceSub, Int.reduceLT, Int.reduceLE, Int.reduceToNat, Int.reduceNeg, Nat.reduceSub]); repeat (simp (disch := omega) only [idx_map, idx_nat, i64w]; try (simp only [push_cast, reduceIte, reduceDIte, reduceCtorEq, Nat.reduceLT, Nat.reduceLeDiff, Nat.reduceEqDiff, Nat.reduceAdd, Nat.reduceMul, Nat.reduceBEq, Nat.reducePow, Int.zero_add, Int.reduceAdd, Int.reduceSub, Int.reduceLT, Int.reduceLE, Int.reduceToNat, Int.reduceNeg, Nat.reduceSub]))))
      have hk : r.kind = 3 := by assumption
      have e : recPlain r = ⟨r.kind, 0, [], .empty, 0, r.msg, .empty⟩ := by simp [recPlain, zRec, hk]
      unfold recB
      rw [if_neg (by assumption), if_neg (by assumption), if_pos hk, e]
      simp [*]
  · ((refine rC (fun hf => ?_); refine cA (rText_f _ _ h4) (fun hf => ?_); refine drun_end ?_))
    (repeat' (first | refine swp_seq [0, 1, 2, 3, 4, 9, 10, 31, 36, 45, 46, 67, 68, 76, 77, 85] ?_ | (first | refine rF (fun hf => ?_) | refine tN ?_ | refine swp_skip ?_ | refine swp_ret ?_ | refine swp_exit ?_ | refine swp_block ?_ | refine swp_scope ?_ | refine thenK_ret ?_ | refine thenK_exit ?_ | refine blockK_normal ?_ | refine blockK_ret ?_ | refine blockK_here ?_ | refine bX ?_ | refine scopeK_normal ?_ | refine scopeK_ret ?_ | refine scopeK_exit ?_ | refine loopK_ret ?_ | refine loopK_exit ?_ | refine dF mixed ?_ | (refine cB (fun hc => ?_) (fun hc => ?_) <;> first | exact False.elim hc | exact absurd hc Bool.false_ne_true | exact absurd hc.symm Bool.false_ne_true | skip) | refine cU ?_ ?_)))
    · (((simp only [push_cast, reduceIte, reduceDIte, reduceCtorEq, Nat.reduceLT, Nat.reduceLeDiff, Nat.reduceEqDiff, Nat.reduceAdd, Nat.reduceMul, Nat.reduceBEq, Nat.reducePow, Int.zero_add, Int.reduceAdd, Int.reduceSub, Int.reduceLT, Int.reduceLE, Int.reduceToNat, Int.reduceNeg, Nat.reduceSub]); repeat (simp (disch := omega) only [idx_map, idx_nat, i64w]; try (simp only [push_cast, reduceIte, reduceDIte, reduceCtorEq, Nat.reduceLT, Nat.reduceLeDiff, Nat.reduceEqDiff, Nat.reduceAdd, Nat.reduceMul, Nat.reduceBEq, Nat.reducePow, Int.zero_add, Int.reduceAdd, Int.reduceSub, Int.reduceLT, Int.reduceLE, Int.reduceToNat, Int.reduceNeg, Nat.reduceSub]))))
      unfold recB
      rw [if_neg (by assumption), if_neg (by assumption), if_neg (by assumption), if_pos (by assumption), hc]; simp
    · ((refine rC (fun hf => ?_); refine cA (same_f r ⟨r.kind, 0, [], .empty, 0, zMsg, r.text⟩ _ hr ⟨Nat.zero_le _, Nat.zero_le _, Nat.zero_le _, h4⟩) (fun hf => ?_); refine drun_end ?_))
      (repeat' (first | refine swp_seq [0, 1, 2, 3, 4, 9, 10, 31, 36, 45, 46, 67, 68, 76, 77, 85] ?_ | (first | refine rF (fun hf => ?_) | refine tN ?_ | refine swp_skip ?_ | refine swp_ret ?_ | refine swp_exit ?_ | refine swp_block ?_ | refine swp_scope ?_ | refine thenK_ret ?_ | refine thenK_exit ?_ | refine blockK_normal ?_ | refine blockK_ret ?_ | refine blockK_here ?_ | refine bX ?_ | refine scopeK_normal ?_ | refine scopeK_ret ?_ | refine scopeK_exit ?_ | refine loopK_ret ?_ | refine loopK_exit ?_ | refine dF mixed ?_ | (refine cB (fun hc => ?_) (fun hc => ?_) <;> first | exact False.elim hc | exact absurd hc Bool.false_ne_true | exact absurd hc.symm Bool.false_ne_true | skip) | refine cU ?_ ?_)))
      (((simp only [push_cast, reduceIte, reduceDIte, reduceCtorEq, Nat.reduceLT, Nat.reduceLeDiff, Nat.reduceEqDiff, Nat.reduceAdd, Nat.reduceMul, Nat.reduceBEq, Nat.reducePow, Int.zero_add, Int.reduceAdd, Int.reduceSub, Int.reduceLT, Int.reduceLE, Int.reduceToNat, Int.reduceNeg, Nat.reduceSub]); repeat (simp (disch := omega) only [idx_map, idx_nat, i64w]; try (simp only [push_cast, reduceIte, reduceDIte, reduceCtorEq, Nat.reduceLT, Nat.reduceLeDiff, Nat.reduceEqDiff, Nat.reduceAdd, Nat.reduceMul, Nat.reduceBEq, Nat.reducePow, Int.zero_add, Int.reduceAdd, Int.reduceSub, Int.reduceLT, Int.reduceLE, Int.reduceToNat, Int.reduceNeg, Nat.reduceSub]))))
      have hk : r.kind = 4 := by assumption
      have e : recPlain r = ⟨r.kind, 0, [], .empty, 0, zMsg, r.text⟩ := by simp [recPlain, zRec, hk]
      unfold recB
      rw [if_neg (by assumption), if_neg (by assumption), if_neg (by assumption), if_pos hk, e]
      simp [*]
  · (((simp only [push_cast, reduceIte, reduceDIte, reduceCtorEq, Nat.reduceLT, Nat.reduceLeDiff, Nat.reduceEqDiff, Nat.reduceAdd, Nat.reduceMul, Nat.reduceBEq, Nat.reducePow, Int.zero_add, Int.reduceAdd, Int.reduceSub, Int.reduceLT, Int.reduceLE, Int.reduceToNat, Int.reduceNeg, Nat.reduceSub]); repeat (simp (disch := omega) only [idx_map, idx_nat, i64w]; try (simp only [push_cast, reduceIte, reduceDIte, reduceCtorEq, Nat.reduceLT, Nat.reduceLeDiff, Nat.reduceEqDiff, Nat.reduceAdd, Nat.reduceMul, Nat.reduceBEq, Nat.reducePow, Int.zero_add, Int.reduceAdd, Int.reduceSub, Int.reduceLT, Int.reduceLE, Int.reduceToNat, Int.reduceNeg, Nat.reduceSub]))))
    unfold recB
    rw [if_neg (by assumption), if_neg (by assumption), if_neg (by assumption), if_neg (by assumption)]; simp
instance decRec : DecidableEq Rec := fun a b => decidable_of_iff (recSame a b = true) (recSame_iff a b)
theorem recOk_get {l : List Rec} (h : ∀ r, r ∈ l → recOk r) {i : Nat} (hi : i < l.length) : recOk (l.getD i default) := by
  rw [List.getD_eq_getElem?_getD, List.getElem?_eq_getElem hi]; exact h _ (List.getElem_mem hi)
set_option maxHeartbeats 2000000 in
theorem sameAll_f (l k : List Rec) (m : Nat) (hl : l.length ≤ 281474976710656) (hk : k.length ≤ 281474976710656) (hl2 : ∀ r, r ∈ l → recOk r) (hk2 : ∀ r, r ∈ k → recOk r) :
    DCalls Try.prog 33 [recs l, recs k] (hget []) m (lb (decide (l = k))) (hget []) := by
  refine pureC (n := 27) (rs := [.tmp 4]) (ts := [4]) Try.func33 rfl (by decide) [] (by (exact SD)) ?_
  (repeat' (first | refine swp_seq [0, 1, 4, 5, 10, 14, 26] ?_ | (first | refine rF (fun hf => ?_) | refine tN ?_ | refine swp_skip ?_ | refine swp_ret ?_ | refine swp_exit ?_ | refine swp_block ?_ | refine swp_scope ?_ | refine thenK_ret ?_ | refine thenK_exit ?_ | refine blockK_normal ?_ | refine blockK_ret ?_ | refine blockK_here ?_ | refine bX ?_ | refine scopeK_normal ?_ | refine scopeK_ret ?_ | refine scopeK_exit ?_ | refine loopK_ret ?_ | refine loopK_exit ?_ | refine dF mixed ?_ | (refine cB (fun hc => ?_) (fun hc => ?_) <;> first | exact False.elim hc | exact absurd hc Bool.false_ne_true | exact absurd hc.symm Bool.false_ne_true | skip) | refine cU ?_ ?_)))
  · (((simp only [push_cast, reduceIte, reduceDIte, reduceCtorEq, Nat.reduceLT, Nat.reduceLeDiff, Nat.reduceEqDiff, Nat.reduceAdd, Nat.reduceMul, Nat.reduceBEq, Nat.reducePow, Int.zero_add, Int.reduceAdd, Int.reduceSub, Int.reduceLT, Int.reduceLE, Int.reduceToNat, Int.reduceNeg, Nat.reduceSub]); repeat (simp (disch := omega) only [idx_map, idx_nat, i64w]; try (simp only [push_cast, reduceIte, reduceDIte, reduceCtorEq, Nat.reduceLT, Nat.reduceLeDiff, Nat.reduceEqDiff, Nat.reduceAdd, Nat.reduceMul, Nat.reduceBEq, Nat.reducePow, Int.zero_add, Int.reduceAdd, Int.reduceSub, Int.reduceLT, Int.reduceLE, Int.reduceToNat, Int.reduceNeg, Nat.reduceSub]))))
    have : ¬ l = k := fun e => by subst e; exact hc rfl
    simp [this]
  · refine loop_swp [0, 1, 5] [] 0 (fun q A H => ∃ i : Nat, i ≤ l.length ∧ q = l.length - i ∧ l.take i = k.take i ∧ A = [(0, recs l), (1, recs k), (5, li i)] ∧ H = []) (by omega) ?_ ?_ ?_
    · rintro q A H ⟨i, h1, h2, h3, rfl, rfl⟩
      exact ⟨by (exact SD), by (exact SD)⟩
    · refine ⟨_, 0, by omega, rfl, rfl, ?_, ?_⟩
      · (((simp only [push_cast, reduceIte, reduceDIte, reduceCtorEq, Nat.reduceLT, Nat.reduceLeDiff, Nat.reduceEqDiff, Nat.reduceAdd, Nat.reduceMul, Nat.reduceBEq, Nat.reducePow, Int.zero_add, Int.reduceAdd, Int.reduceSub, Int.reduceLT, Int.reduceLE, Int.reduceToNat, Int.reduceNeg, Nat.reduceSub]); repeat (simp (disch := omega) only [idx_map, idx_nat, i64w]; try (simp only [push_cast, reduceIte, reduceDIte, reduceCtorEq, Nat.reduceLT, Nat.reduceLeDiff, Nat.reduceEqDiff, Nat.reduceAdd, Nat.reduceMul, Nat.reduceBEq, Nat.reducePow, Int.zero_add, Int.reduceAdd, Int.reduceSub, Int.reduceLT, Int.reduceLE, Int.reduceToNat, Int.reduceNeg, Nat.reduceSub]))))
      · (((simp only [push_cast, reduceIte, reduceDIte, reduceCtorEq, Nat.reduceLT, Nat.reduceLeDiff, Nat.reduceEqDiff, Nat.reduceAdd, Nat.reduceMul, Nat.reduceBEq, Nat.reducePow, Int.zero_add, Int.reduceAdd, Int.reduceSub, Int.reduceLT, Int.reduceLE, Int.reduceToNat, Int.reduceNeg, Nat.reduceSub]); repeat (simp (disch := omega) only [idx_map, idx_nat, i64w]; try (simp only [push_cast, reduceIte, reduceDIte, reduceCtorEq, Nat.reduceLT, Nat.reduceLeDiff, Nat.reduceEqDiff, Nat.reduceAdd, Nat.reduceMul, Nat.reduceBEq, Nat.reducePow, Int.zero_add, Int.reduceAdd, Int.reduceSub, Int.reduceLT, Int.reduceLE, Int.reduceToNat, Int.reduceNeg, Nat.reduceSub]))))
    · rintro q A H ⟨i, h1, h2, h3, rfl, rfl⟩
      (repeat' (first | refine swp_seq [0, 1, 4, 5, 10, 14, 26] ?_ | (first | refine rF (fun hf => ?_) | refine tN ?_ | refine swp_skip ?_ | refine swp_ret ?_ | refine swp_exit ?_ | refine swp_block ?_ | refine swp_scope ?_ | refine thenK_ret ?_ | refine thenK_exit ?_ | refine blockK_normal ?_ | refine blockK_ret ?_ | refine blockK_here ?_ | refine bX ?_ | refine scopeK_normal ?_ | refine scopeK_ret ?_ | refine scopeK_exit ?_ | refine loopK_ret ?_ | refine loopK_exit ?_ | refine dF mixed ?_ | (refine cB (fun hc => ?_) (fun hc => ?_) <;> first | exact False.elim hc | exact absurd hc Bool.false_ne_true | exact absurd hc.symm Bool.false_ne_true | skip) | refine cU ?_ ?_)))
      · (refine xC mixed [] ?_)
        (refine yA (same_f (l.getD i default) (k.getD i default) _ (recOk_get hl2 (by omega)) (recOk_get hk2 (by omega))) ?_)
        (refine xrun_end ?_)
        (repeat' (first | refine swp_seq [0, 1, 4, 5, 10, 14, 26] ?_ | (first | refine rF (fun hf => ?_) | refine tN ?_ | refine swp_skip ?_ | refine swp_ret ?_ | refine swp_exit ?_ | refine swp_block ?_ | refine swp_scope ?_ | refine thenK_ret ?_ | refine thenK_exit ?_ | refine blockK_normal ?_ | refine blockK_ret ?_ | refine blockK_here ?_ | refine bX ?_ | refine scopeK_normal ?_ | refine scopeK_ret ?_ | refine scopeK_exit ?_ | refine loopK_ret ?_ | refine loopK_exit ?_ | refine dF mixed ?_ | (refine cB (fun hc => ?_) (fun hc => ?_) <;> first | exact False.elim hc | exact absurd hc Bool.false_ne_true | exact absurd hc.symm Bool.false_ne_true | skip) | refine cU ?_ ?_)))
        · (((simp only [push_cast, reduceIte, reduceDIte, reduceCtorEq, Nat.reduceLT, Nat.reduceLeDiff, Nat.reduceEqDiff, Nat.reduceAdd, Nat.reduceMul, Nat.reduceBEq, Nat.reducePow, Int.zero_add, Int.reduceAdd, Int.reduceSub, Int.reduceLT, Int.reduceLE, Int.reduceToNat, Int.reduceNeg, Nat.reduceSub]); repeat (simp (disch := omega) only [idx_map, idx_nat, i64w]; try (simp only [push_cast, reduceIte, reduceDIte, reduceCtorEq, Nat.reduceLT, Nat.reduceLeDiff, Nat.reduceEqDiff, Nat.reduceAdd, Nat.reduceMul, Nat.reduceBEq, Nat.reducePow, Int.zero_add, Int.reduceAdd, Int.reduceSub, Int.reduceLT, Int.reduceLE, Int.reduceToNat, Int.reduceNeg, Nat.reduceSub]))))
          have : ¬ l = k := fun e => by
            subst e
            rw [(recSame_iff _ _).2 rfl] at hc
            exact absurd hc (by decide)
          simp [this]
        · (refine lN [] ?_)
          exact ⟨_, by omega, i + 1, by omega, rfl, take_next h3 (by omega) (by omega) ((recSame_iff _ _).1 hc), rfl, rfl⟩
      · (((simp only [push_cast, reduceIte, reduceDIte, reduceCtorEq, Nat.reduceLT, Nat.reduceLeDiff, Nat.reduceEqDiff, Nat.reduceAdd, Nat.reduceMul, Nat.reduceBEq, Nat.reducePow, Int.zero_add, Int.reduceAdd, Int.reduceSub, Int.reduceLT, Int.reduceLE, Int.reduceToNat, Int.reduceNeg, Nat.reduceSub]); repeat (simp (disch := omega) only [idx_map, idx_nat, i64w]; try (simp only [push_cast, reduceIte, reduceDIte, reduceCtorEq, Nat.reduceLT, Nat.reduceLeDiff, Nat.reduceEqDiff, Nat.reduceAdd, Nat.reduceMul, Nat.reduceBEq, Nat.reducePow, Int.zero_add, Int.reduceAdd, Int.reduceSub, Int.reduceLT, Int.reduceLE, Int.reduceToNat, Int.reduceNeg, Nat.reduceSub]))))
        have : l = k := by
          have h4 := h3
          rwa [List.take_of_length_le (by omega), List.take_of_length_le (by omega)] at h4
        simp [this]

end Go.Proofs.Ytkhddlhhbanebaa
