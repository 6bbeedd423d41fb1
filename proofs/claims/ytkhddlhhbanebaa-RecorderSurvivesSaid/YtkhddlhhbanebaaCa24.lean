/-
  Contracts of functions of the program, over the engine.
  No condition.
-/
import Derived.Test.YtkhddlhhbanebaaCl54
namespace Go.Proofs.Ytkhddlhhbanebaa
open Go.Eng
set_option linter.all false

def longB (d : Disk) : Bool := (decide (5000 < d.data.length) && decide (d.data.length ≤ 1048576)) || decide (1048586 < d.data.length)
theorem longB_in {d : Disk} (h : longB d = false) : d.data.length ≤ 1048586 := by unfold longB at h; grind
theorem long_f (d : Disk) (m : Nat) : DCalls Try.prog 17 [dskD d] (hget []) m (lb (longB d)) (hget []) := by
  refine pureC (n := 19) (rs := [.tmp 2]) (ts := [4]) Try.func17 rfl (by decide) [] (by (exact SD)) ?_
  (repeat' (first | refine swp_seq [0, 1, 2] ?_ | (first | refine rF (fun hf => ?_) | refine tN ?_ | refine swp_skip ?_ | refine swp_ret ?_ | refine swp_exit ?_ | refine swp_block ?_ | refine swp_scope ?_ | refine thenK_ret ?_ | refine thenK_exit ?_ | refine blockK_normal ?_ | refine blockK_ret ?_ | refine blockK_here ?_ | refine bX ?_ | refine scopeK_normal ?_ | refine scopeK_ret ?_ | refine scopeK_exit ?_ | refine loopK_ret ?_ | refine loopK_exit ?_ | refine dF mixed ?_ | (refine cB (fun hc => ?_) (fun hc => ?_) <;> first | exact False.elim hc | exact absurd hc Bool.false_ne_true | exact absurd hc.symm Bool.false_ne_true | skip) | refine cU ?_ ?_)))
  (((simp only [push_cast, reduceIte, reduceDIte, reduceCtorEq, Nat.reduceLT, Nat.reduceLeDiff, Nat.reduceEqDiff, Nat.reduceAdd, Nat.reduceMul, Nat.reduceBEq, Nat.reducePow, Int.zero_add, Int.reduceAdd, Int.reduceSub, Int.reduceLT, Int.reduceLE, Int.reduceToNat, Int.reduceNeg, Nat.reduceSub]); repeat (simp (disch := omega) only [idx_map, idx_nat, i64w]; try (simp only [push_cast, reduceIte, reduceDIte, reduceCtorEq, Nat.reduceLT, Nat.reduceLeDiff, Nat.reduceEqDiff, Nat.reduceAdd, Nat.reduceMul, Nat.reduceBEq, Nat.reducePow, Int.zero_add, Int.reduceAdd, Int.reduceSub, Int.reduceLT, Int.reduceLE, Int.reduceToNat, Int.reduceNeg, Nat.reduceSub]))))
  unfold longB
  congr 3
  grind
theorem sameDisk_self (a : Disk) (m : Nat) : DCalls Try.prog 19 [dskD a, dskD a] (hget []) m (lb true) (hget []) := by
  have := sameDisk_f a a m
  rwa [(diskSame_iff a a).2 rfl] at this
set_option maxHeartbeats 8000000 in
theorem disks_f (d : Disk) (af keep : Int) (m : Nat) (hd : d.data.length ≤ 281474976710656) : DCalls Try.prog 4 [dskD d, li af, li keep] (hget []) m (lb true) (hget []) := by
  refine pureC (n := 128) (rs := [.tmp 6]) (ts := [4]) Try.func4 rfl (by decide) [] (by (exact SD)) ?_
  (repeat' (first | refine swp_seq [0, 1, 2, 3, 6, 7, 8, 9, 10, 11, 12, 13, 14, 15, 16, 17, 18, 19, 20, 21, 23, 25, 36, 44, 53] ?_ | (first | refine rF (fun hf => ?_) | refine tN ?_ | refine swp_skip ?_ | refine swp_ret ?_ | refine swp_exit ?_ | refine swp_block ?_ | refine swp_scope ?_ | refine thenK_ret ?_ | refine thenK_exit ?_ | refine blockK_normal ?_ | refine blockK_ret ?_ | refine blockK_here ?_ | refine bX ?_ | refine scopeK_normal ?_ | refine scopeK_ret ?_ | refine scopeK_exit ?_ | refine loopK_ret ?_ | refine loopK_exit ?_ | refine dF mixed ?_ | (refine cB (fun hc => ?_) (fun hc => ?_) <;> first | exact False.elim hc | exact absurd hc Bool.false_ne_true | exact absurd hc.symm Bool.false_ne_true | skip) | refine cU ?_ ?_)))
  ((refine rC (fun hf => ?_); refine cA (awake_f _) (fun hf => ?_); refine drun_end ?_))
  (repeat' (first | refine swp_seq [0, 1, 2, 3, 6, 7, 8, 9, 10, 11, 12, 13, 14, 15, 16, 17, 18, 19, 20, 21, 23, 25, 36, 44, 53] ?_ | (first | refine rF (fun hf => ?_) | refine tN ?_ | refine swp_skip ?_ | refine swp_ret ?_ | refine swp_exit ?_ | refine swp_block ?_ | refine swp_scope ?_ | refine thenK_ret ?_ | refine thenK_exit ?_ | refine blockK_normal ?_ | refine blockK_ret ?_ | refine blockK_here ?_ | refine bX ?_ | refine scopeK_normal ?_ | refine scopeK_ret ?_ | refine scopeK_exit ?_ | refine loopK_ret ?_ | refine loopK_exit ?_ | refine dF mixed ?_ | (refine cB (fun hc => ?_) (fun hc => ?_) <;> first | exact False.elim hc | exact absurd hc Bool.false_ne_true | exact absurd hc.symm Bool.false_ne_true | skip) | refine cU ?_ ?_)))
  ((refine rC (fun hf => ?_); refine cA (long_f d _) (fun hf => ?_); refine drun_end ?_))
  by_cases hw : longB d = true
  · rw [hw]
    (repeat' (first | refine swp_seq [0, 1, 2, 3, 6, 7, 8, 9, 10, 11, 12, 13, 14, 15, 16, 17, 18, 19, 20, 21, 23, 25, 36, 44, 53] ?_ | (first | refine rF (fun hf => ?_) | refine tN ?_ | refine swp_skip ?_ | refine swp_ret ?_ | refine swp_exit ?_ | refine swp_block ?_ | refine swp_scope ?_ | refine thenK_ret ?_ | refine thenK_exit ?_ | refine blockK_normal ?_ | refine blockK_ret ?_ | refine blockK_here ?_ | refine bX ?_ | refine scopeK_normal ?_ | refine scopeK_ret ?_ | refine scopeK_exit ?_ | refine loopK_ret ?_ | refine loopK_exit ?_ | refine dF mixed ?_ | (refine cB (fun hc => ?_) (fun hc => ?_) <;> first | exact False.elim hc | exact absurd hc Bool.false_ne_true | exact absurd hc.symm Bool.false_ne_true | skip) | refine cU ?_ ?_)))
    (((simp only [push_cast, reduceIte, reduceDIte, reduceCtorEq, Nat.reduceLT, Nat.reduceLeDiff, Nat.reduceEqDiff, Nat.reduceAdd, Nat.reduceMul, Nat.reduceBEq, Nat.reducePow, Int.zero_add, Int.reduceAdd, Int.reduceSub, Int.reduceLT, Int.reduceLE, Int.reduceToNat, Int.reduceNeg, Nat.reduceSub]); repeat (simp (disch := omega) only [idx_map, idx_nat, i64w]; try (simp only [push_cast, reduceIte, reduceDIte, reduceCtorEq, Nat.reduceLT, Nat.reduceLeDiff, Nat.reduceEqDiff, Nat.reduceAdd, Nat.reduceMul, Nat.reduceBEq, Nat.reducePow, Int.zero_add, Int.reduceAdd, Int.reduceSub, Int.reduceLT, Int.reduceLE, Int.reduceToNat, Int.reduceNeg, Nat.reduceSub]))))
  · rw [Bool.not_eq_true] at hw
    have hl := longB_in hw
    rw [hw]
    (repeat' (first | refine swp_seq [0, 1, 2, 3, 6, 7, 8, 9, 10, 11, 12, 13, 14, 15, 16, 17, 18, 19, 20, 21, 23, 25, 36, 44, 53] ?_ | (first | refine rF (fun hf => ?_) | refine tN ?_ | refine swp_skip ?_ | refine swp_ret ?_ | refine swp_exit ?_ | refine swp_block ?_ | refine swp_scope ?_ | refine thenK_ret ?_ | refine thenK_exit ?_ | refine blockK_normal ?_ | refine blockK_ret ?_ | refine blockK_here ?_ | refine bX ?_ | refine scopeK_normal ?_ | refine scopeK_ret ?_ | refine scopeK_exit ?_ | refine loopK_ret ?_ | refine loopK_exit ?_ | refine dF mixed ?_ | (refine cB (fun hc => ?_) (fun hc => ?_) <;> first | exact False.elim hc | exact absurd hc Bool.false_ne_true | exact absurd hc.symm Bool.false_ne_true | skip) | refine cU ?_ ?_)))
    (refine rC (fun hf => ?_))
    (refine cA (format_f af _) (fun hf => ?_))
    (refine drun_end ?_)
    by_cases hf : fmtOk af = true
    · have e1 : fmtD af = ⟨[], 0, af⟩ := by unfold fmtD; rw [if_pos hf]
      have e2 : fmtE af = 0 := by unfold fmtE; rw [if_pos hf]
      have e3 : -1 ≤ af ∧ af ≤ 1048576 := by unfold fmtOk at hf; grind
      rw [e1, e2]
      (repeat' (first | refine swp_seq [0, 1, 2, 3, 6, 7, 8, 9, 10, 11, 12, 13, 14, 15, 16, 17, 18, 19, 20, 21, 23, 25, 36, 44, 53] ?_ | (first | refine rF (fun hf => ?_) | refine tN ?_ | refine swp_skip ?_ | refine swp_ret ?_ | refine swp_exit ?_ | refine swp_block ?_ | refine swp_scope ?_ | refine thenK_ret ?_ | refine thenK_exit ?_ | refine blockK_normal ?_ | refine blockK_ret ?_ | refine blockK_here ?_ | refine bX ?_ | refine scopeK_normal ?_ | refine scopeK_ret ?_ | refine scopeK_exit ?_ | refine loopK_ret ?_ | refine loopK_exit ?_ | refine dF mixed ?_ | (refine cB (fun hc => ?_) (fun hc => ?_) <;> first | exact False.elim hc | exact absurd hc Bool.false_ne_true | exact absurd hc.symm Bool.false_ne_true | skip) | refine cU ?_ ?_)))
      · exfalso; omega
      (refine rC (fun hf => ?_))
      (refine cA (sameDisk_self ⟨[], 0, af⟩ _) (fun hf => ?_))
      (refine drun_end ?_)
      (repeat' (first | refine swp_seq [0, 1, 2, 3, 6, 7, 8, 9, 10, 11, 12, 13, 14, 15, 16, 17, 18, 19, 20, 21, 23, 25, 36, 44, 53] ?_ | (first | refine rF (fun hf => ?_) | refine tN ?_ | refine swp_skip ?_ | refine swp_ret ?_ | refine swp_exit ?_ | refine swp_block ?_ | refine swp_scope ?_ | refine thenK_ret ?_ | refine thenK_exit ?_ | refine blockK_normal ?_ | refine blockK_ret ?_ | refine blockK_here ?_ | refine bX ?_ | refine scopeK_normal ?_ | refine scopeK_ret ?_ | refine scopeK_exit ?_ | refine loopK_ret ?_ | refine loopK_exit ?_ | refine dF mixed ?_ | (refine cB (fun hc => ?_) (fun hc => ?_) <;> first | exact False.elim hc | exact absurd hc Bool.false_ne_true | exact absurd hc.symm Bool.false_ne_true | skip) | refine cU ?_ ?_)))
      all_goals first | exact absurd trivial hc | skip
      (refine rC (fun hf => ?_))
      (refine cA (copy_f d _ (by omega)) (fun hf => ?_))
      (refine drun_end ?_)
      (repeat' (first | refine swp_seq [0, 1, 2, 3, 6, 7, 8, 9, 10, 11, 12, 13, 14, 15, 16, 17, 18, 19, 20, 21, 23, 25, 36, 44, 53] ?_ | (first | refine rF (fun hf => ?_) | refine tN ?_ | refine swp_skip ?_ | refine swp_ret ?_ | refine swp_exit ?_ | refine swp_block ?_ | refine swp_scope ?_ | refine thenK_ret ?_ | refine thenK_exit ?_ | refine blockK_normal ?_ | refine blockK_ret ?_ | refine blockK_here ?_ | refine bX ?_ | refine scopeK_normal ?_ | refine scopeK_ret ?_ | refine scopeK_exit ?_ | refine loopK_ret ?_ | refine loopK_exit ?_ | refine dF mixed ?_ | (refine cB (fun hc => ?_) (fun hc => ?_) <;> first | exact False.elim hc | exact absurd hc Bool.false_ne_true | exact absurd hc.symm Bool.false_ne_true | skip) | refine cU ?_ ?_)))
      obtain ⟨x1, y1, q1⟩ : ∃ a b, syncD d = (a, b) := ⟨_, _, rfl⟩
      obtain ⟨x2, y2, q2⟩ : ∃ a b, crashD d keep = (a, b) := ⟨_, _, rfl⟩
      obtain ⟨x3, y3, q3⟩ : ∃ a b, openD d = (a, b) := ⟨_, _, rfl⟩
      (refine rC (fun hf => ?_))
      (refine cA (sync_f d _) (fun hf => ?_))
      (refine drun_end ?_)
      rw [q1]
      (repeat' (first | refine swp_seq [0, 1, 2, 3, 6, 7, 8, 9, 10, 11, 12, 13, 14, 15, 16, 17, 18, 19, 20, 21, 23, 25, 36, 44, 53] ?_ | (first | refine rF (fun hf => ?_) | refine tN ?_ | refine swp_skip ?_ | refine swp_ret ?_ | refine swp_exit ?_ | refine swp_block ?_ | refine swp_scope ?_ | refine thenK_ret ?_ | refine thenK_exit ?_ | refine blockK_normal ?_ | refine blockK_ret ?_ | refine blockK_here ?_ | refine bX ?_ | refine scopeK_normal ?_ | refine scopeK_ret ?_ | refine scopeK_exit ?_ | refine loopK_ret ?_ | refine loopK_exit ?_ | refine dF mixed ?_ | (refine cB (fun hc => ?_) (fun hc => ?_) <;> first | exact False.elim hc | exact absurd hc Bool.false_ne_true | exact absurd hc.symm Bool.false_ne_true | skip) | refine cU ?_ ?_)))
      (refine rC (fun hf => ?_))
      (refine cA (crash_f d keep _) (fun hf => ?_))
      (refine drun_end ?_)
      rw [q2]
      (repeat' (first | refine swp_seq [0, 1, 2, 3, 6, 7, 8, 9, 10, 11, 12, 13, 14, 15, 16, 17, 18, 19, 20, 21, 23, 25, 36, 44, 53] ?_ | (first | refine rF (fun hf => ?_) | refine tN ?_ | refine swp_skip ?_ | refine swp_ret ?_ | refine swp_exit ?_ | refine swp_block ?_ | refine swp_scope ?_ | refine thenK_ret ?_ | refine thenK_exit ?_ | refine blockK_normal ?_ | refine blockK_ret ?_ | refine blockK_here ?_ | refine bX ?_ | refine scopeK_normal ?_ | refine scopeK_ret ?_ | refine scopeK_exit ?_ | refine loopK_ret ?_ | refine loopK_exit ?_ | refine dF mixed ?_ | (refine cB (fun hc => ?_) (fun hc => ?_) <;> first | exact False.elim hc | exact absurd hc Bool.false_ne_true | exact absurd hc.symm Bool.false_ne_true | skip) | refine cU ?_ ?_)))
      (refine rC (fun hf => ?_))
      (refine cA (open_f d _) (fun hf => ?_))
      (refine drun_end ?_)
      rw [q3]
      (repeat' (first | refine swp_seq [0, 1, 2, 3, 6, 7, 8, 9, 10, 11, 12, 13, 14, 15, 16, 17, 18, 19, 20, 21, 23, 25, 36, 44, 53] ?_ | (first | refine rF (fun hf => ?_) | refine tN ?_ | refine swp_skip ?_ | refine swp_ret ?_ | refine swp_exit ?_ | refine swp_block ?_ | refine swp_scope ?_ | refine thenK_ret ?_ | refine thenK_exit ?_ | refine blockK_normal ?_ | refine blockK_ret ?_ | refine blockK_here ?_ | refine bX ?_ | refine scopeK_normal ?_ | refine scopeK_ret ?_ | refine scopeK_exit ?_ | refine loopK_ret ?_ | refine loopK_exit ?_ | refine dF mixed ?_ | (refine cB (fun hc => ?_) (fun hc => ?_) <;> first | exact False.elim hc | exact absurd hc Bool.false_ne_true | exact absurd hc.symm Bool.false_ne_true | skip) | refine cU ?_ ?_)))
      (refine rC (fun hf => ?_))
      (refine cA (rsync_f d _) (fun hf => ?_))
      (refine drun_end ?_)
      rw [q1]
      (repeat' (first | refine swp_seq [0, 1, 2, 3, 6, 7, 8, 9, 10, 11, 12, 13, 14, 15, 16, 17, 18, 19, 20, 21, 23, 25, 36, 44, 53] ?_ | (first | refine rF (fun hf => ?_) | refine tN ?_ | refine swp_skip ?_ | refine swp_ret ?_ | refine swp_exit ?_ | refine swp_block ?_ | refine swp_scope ?_ | refine thenK_ret ?_ | refine thenK_exit ?_ | refine blockK_normal ?_ | refine blockK_ret ?_ | refine blockK_here ?_ | refine bX ?_ | refine scopeK_normal ?_ | refine scopeK_ret ?_ | refine scopeK_exit ?_ | refine loopK_ret ?_ | refine loopK_exit ?_ | refine dF mixed ?_ | (refine cB (fun hc => ?_) (fun hc => ?_) <;> first | exact False.elim hc | exact absurd hc Bool.false_ne_true | exact absurd hc.symm Bool.false_ne_true | skip) | refine cU ?_ ?_)))
      (refine rC (fun hf => ?_))
      (refine cA (rcrash_f d keep _) (fun hf => ?_))
      (refine drun_end ?_)
      rw [q2]
      (repeat' (first | refine swp_seq [0, 1, 2, 3, 6, 7, 8, 9, 10, 11, 12, 13, 14, 15, 16, 17, 18, 19, 20, 21, 23, 25, 36, 44, 53] ?_ | (first | refine rF (fun hf => ?_) | refine tN ?_ | refine swp_skip ?_ | refine swp_ret ?_ | refine swp_exit ?_ | refine swp_block ?_ | refine swp_scope ?_ | refine thenK_ret ?_ | refine thenK_exit ?_ | refine blockK_normal ?_ | refine blockK_ret ?_ | refine blockK_here ?_ | refine bX ?_ | refine scopeK_normal ?_ | refine scopeK_ret ?_ | refine scopeK_exit ?_ | refine loopK_ret ?_ | refine loopK_exit ?_ | refine dF mixed ?_ | (refine cB (fun hc => ?_) (fun hc => ?_) <;> first | exact False.elim hc | exact absurd hc Bool.false_ne_true | exact absurd hc.symm Bool.false_ne_true | skip) | refine cU ?_ ?_)))
      (refine rC (fun hf => ?_))
      (refine cA (ropen_f d _) (fun hf => ?_))
      (refine drun_end ?_)
      rw [q3]
      (repeat' (first | refine swp_seq [0, 1, 2, 3, 6, 7, 8, 9, 10, 11, 12, 13, 14, 15, 16, 17, 18, 19, 20, 21, 23, 25, 36, 44, 53] ?_ | (first | refine rF (fun hf => ?_) | refine tN ?_ | refine swp_skip ?_ | refine swp_ret ?_ | refine swp_exit ?_ | refine swp_block ?_ | refine swp_scope ?_ | refine thenK_ret ?_ | refine thenK_exit ?_ | refine blockK_normal ?_ | refine blockK_ret ?_ | refine blockK_here ?_ | refine bX ?_ | refine scopeK_normal ?_ | refine scopeK_ret ?_ | refine scopeK_exit ?_ | refine loopK_ret ?_ | refine loopK_exit ?_ | refine dF mixed ?_ | (refine cB (fun hc => ?_) (fun hc => ?_) <;> first | exact False.elim hc | exact absurd hc Bool.false_ne_true | exact absurd hc.symm Bool.false_ne_true | skip) | refine cU ?_ ?_)))
      (refine xC mixed [] ?_)
      (refine yA (dvalid_f d _) ?_)
      (refine yA (rvalid_f d _) ?_)
      have qb : (diskB d == diskB d) = true := by simp
      (refine yA (sameDisk_self x1 _) ?_)
      (refine yA (sameDisk_self x2 _) ?_)
      (refine yA (sameDisk_self x3 _) ?_)
      (refine yA (sameDisk_self d _) ?_)
      (refine xrun_end ?_)
      (repeat' (first | refine swp_seq [0, 1, 2, 3, 6, 7, 8, 9, 10, 11, 12, 13, 14, 15, 16, 17, 18, 19, 20, 21, 23, 25, 36, 44, 53] ?_ | (first | refine rF (fun hf => ?_) | refine tN ?_ | refine swp_skip ?_ | refine swp_ret ?_ | refine swp_exit ?_ | refine swp_block ?_ | refine swp_scope ?_ | refine thenK_ret ?_ | refine thenK_exit ?_ | refine blockK_normal ?_ | refine blockK_ret ?_ | refine blockK_here ?_ | refine bX ?_ | refine scopeK_normal ?_ | refine scopeK_ret ?_ | refine scopeK_exit ?_ | refine loopK_ret ?_ | refine loopK_exit ?_ | refine dF mixed ?_ | (refine cB (fun hc => ?_) (fun hc => ?_) <;> first | exact False.elim hc | exact absurd hc Bool.false_ne_true | exact absurd hc.symm Bool.false_ne_true | skip) | refine cU ?_ ?_)))
      (((simp only [push_cast, reduceIte, reduceDIte, reduceCtorEq, Nat.reduceLT, Nat.reduceLeDiff, Nat.reduceEqDiff, Nat.reduceAdd, Nat.reduceMul, Nat.reduceBEq, Nat.reducePow, Int.zero_add, Int.reduceAdd, Int.reduceSub, Int.reduceLT, Int.reduceLE, Int.reduceToNat, Int.reduceNeg, Nat.reduceSub]); repeat (simp (disch := omega) only [idx_map, idx_nat, i64w]; try (simp only [push_cast, reduceIte, reduceDIte, reduceCtorEq, Nat.reduceLT, Nat.reduceLeDiff, Nat.reduceEqDiff, Nat.reduceAdd, Nat.reduceMul, Nat.reduceBEq, Nat.reducePow, Int.zero_add, Int.reduceAdd, Int.reduceSub, Int.reduceLT, Int.reduceLE, Int.reduceToNat, Int.reduceNeg, Nat.reduceSub]))))
    · have e1 : fmtD af = noDisk := by unfold fmtD; rw [if_neg hf]
      have e2 : fmtE af = 2 := by unfold fmtE; rw [if_neg hf]
      have e3 : ¬ (-1 ≤ af ∧ af ≤ 1048576) := by unfold fmtOk at hf; grind
      rw [e1, e2]
      (repeat' (first | refine swp_seq [0, 1, 2, 3, 6, 7, 8, 9, 10, 11, 12, 13, 14, 15, 16, 17, 18, 19, 20, 21, 23, 25, 36, 44, 53] ?_ | (first | refine rF (fun hf => ?_) | refine tN ?_ | refine swp_skip ?_ | refine swp_ret ?_ | refine swp_exit ?_ | refine swp_block ?_ | refine swp_scope ?_ | refine thenK_ret ?_ | refine thenK_exit ?_ | refine blockK_normal ?_ | refine blockK_ret ?_ | refine blockK_here ?_ | refine bX ?_ | refine scopeK_normal ?_ | refine scopeK_ret ?_ | refine scopeK_exit ?_ | refine loopK_ret ?_ | refine loopK_exit ?_ | refine dF mixed ?_ | (refine cB (fun hc => ?_) (fun hc => ?_) <;> first | exact False.elim hc | exact absurd hc Bool.false_ne_true | exact absurd hc.symm Bool.false_ne_true | skip) | refine cU ?_ ?_)))
      · (refine rC (fun hf => ?_))
        (refine cA (sameDisk_self noDisk _) (fun hf => ?_))
        (refine drun_end ?_)
        (repeat' (first | refine swp_seq [0, 1, 2, 3, 6, 7, 8, 9, 10, 11, 12, 13, 14, 15, 16, 17, 18, 19, 20, 21, 23, 25, 36, 44, 53] ?_ | (first | refine rF (fun hf => ?_) | refine tN ?_ | refine swp_skip ?_ | refine swp_ret ?_ | refine swp_exit ?_ | refine swp_block ?_ | refine swp_scope ?_ | refine thenK_ret ?_ | refine thenK_exit ?_ | refine blockK_normal ?_ | refine blockK_ret ?_ | refine blockK_here ?_ | refine bX ?_ | refine scopeK_normal ?_ | refine scopeK_ret ?_ | refine scopeK_exit ?_ | refine loopK_ret ?_ | refine loopK_exit ?_ | refine dF mixed ?_ | (refine cB (fun hc => ?_) (fun hc => ?_) <;> first | exact False.elim hc | exact absurd hc Bool.false_ne_true | exact absurd hc.symm Bool.false_ne_true | skip) | refine cU ?_ ?_)))
        all_goals first | exact absurd trivial hc | skip
        (refine rC (fun hf => ?_))
        (refine cA (copy_f d _ (by omega)) (fun hf => ?_))
        (refine drun_end ?_)
        (repeat' (first | refine swp_seq [0, 1, 2, 3, 6, 7, 8, 9, 10, 11, 12, 13, 14, 15, 16, 17, 18, 19, 20, 21, 23, 25, 36, 44, 53] ?_ | (first | refine rF (fun hf => ?_) | refine tN ?_ | refine swp_skip ?_ | refine swp_ret ?_ | refine swp_exit ?_ | refine swp_block ?_ | refine swp_scope ?_ | refine thenK_ret ?_ | refine thenK_exit ?_ | refine blockK_normal ?_ | refine blockK_ret ?_ | refine blockK_here ?_ | refine bX ?_ | refine scopeK_normal ?_ | refine scopeK_ret ?_ | refine scopeK_exit ?_ | refine loopK_ret ?_ | refine loopK_exit ?_ | refine dF mixed ?_ | (refine cB (fun hc => ?_) (fun hc => ?_) <;> first | exact False.elim hc | exact absurd hc Bool.false_ne_true | exact absurd hc.symm Bool.false_ne_true | skip) | refine cU ?_ ?_)))
        obtain ⟨x1, y1, q1⟩ : ∃ a b, syncD d = (a, b) := ⟨_, _, rfl⟩
        obtain ⟨x2, y2, q2⟩ : ∃ a b, crashD d keep = (a, b) := ⟨_, _, rfl⟩
        obtain ⟨x3, y3, q3⟩ : ∃ a b, openD d = (a, b) := ⟨_, _, rfl⟩
        (refine rC (fun hf => ?_))
        (refine cA (sync_f d _) (fun hf => ?_))
        (refine drun_end ?_)
        rw [q1]
        (repeat' (first | refine swp_seq [0, 1, 2, 3, 6, 7, 8, 9, 10, 11, 12, 13, 14, 15, 16, 17, 18, 19, 20, 21, 23, 25, 36, 44, 53] ?_ | (first | refine rF (fun hf => ?_) | refine tN ?_ | refine swp_skip ?_ | refine swp_ret ?_ | refine swp_exit ?_ | refine swp_block ?_ | refine swp_scope ?_ | refine thenK_ret ?_ | refine thenK_exit ?_ | refine blockK_normal ?_ | refine blockK_ret ?_ | refine blockK_here ?_ | refine bX ?_ | refine scopeK_normal ?_ | refine scopeK_ret ?_ | refine scopeK_exit ?_ | refine loopK_ret ?_ | refine loopK_exit ?_ | refine dF mixed ?_ | (refine cB (fun hc => ?_) (fun hc => ?_) <;> first | exact False.elim hc | exact absurd hc Bool.false_ne_true | exact absurd hc.symm Bool.false_ne_true | skip) | refine cU ?_ ?_)))
        (refine rC (fun hf => ?_))
        (refine cA (crash_f d keep _) (fun hf => ?_))
        (refine drun_end ?_)
        rw [q2]
        (repeat' (first | refine swp_seq [0, 1, 2, 3, 6, 7, 8, 9, 10, 11, 12, 13, 14, 15, 16, 17, 18, 19, 20, 21, 23, 25, 36, 44, 53] ?_ | (first | refine rF (fun hf => ?_) | refine tN ?_ | refine swp_skip ?_ | refine swp_ret ?_ | refine swp_exit ?_ | refine swp_block ?_ | refine swp_scope ?_ | refine thenK_ret ?_ | refine thenK_exit ?_ | refine blockK_normal ?_ | refine blockK_ret ?_ | refine blockK_here ?_ | refine bX ?_ | refine scopeK_normal ?_ | refine scopeK_ret ?_ | refine scopeK_exit ?_ | refine loopK_ret ?_ | refine loopK_exit ?_ | refine dF mixed ?_ | (refine cB (fun hc => ?_) (fun hc => ?_) <;> first | exact False.elim hc | exact absurd hc Bool.false_ne_true | exact absurd hc.symm Bool.false_ne_true | skip) | refine cU ?_ ?_)))
        (refine rC (fun hf => ?_))
        (refine cA (open_f d _) (fun hf => ?_))
        (refine drun_end ?_)
        rw [q3]
        (repeat' (first | refine swp_seq [0, 1, 2, 3, 6, 7, 8, 9, 10, 11, 12, 13, 14, 15, 16, 17, 18, 19, 20, 21, 23, 25, 36, 44, 53] ?_ | (first | refine rF (fun hf => ?_) | refine tN ?_ | refine swp_skip ?_ | refine swp_ret ?_ | refine swp_exit ?_ | refine swp_block ?_ | refine swp_scope ?_ | refine thenK_ret ?_ | refine thenK_exit ?_ | refine blockK_normal ?_ | refine blockK_ret ?_ | refine blockK_here ?_ | refine bX ?_ | refine scopeK_normal ?_ | refine scopeK_ret ?_ | refine scopeK_exit ?_ | refine loopK_ret ?_ | refine loopK_exit ?_ | refine dF mixed ?_ | (refine cB (fun hc => ?_) (fun hc => ?_) <;> first | exact False.elim hc | exact absurd hc Bool.false_ne_true | exact absurd hc.symm Bool.false_ne_true | skip) | refine cU ?_ ?_)))
        (refine rC (fun hf => ?_))
        (refine cA (rsync_f d _) (fun hf => ?_))
        (refine drun_end ?_)
        rw [q1]
        (repeat' (first | refine swp_seq [0, 1, 2, 3, 6, 7, 8, 9, 10, 11, 12, 13, 14, 15, 16, 17, 18, 19, 20, 21, 23, 25, 36, 44, 53] ?_ | (first | refine rF (fun hf => ?_) | refine tN ?_ | refine swp_skip ?_ | refine swp_ret ?_ | refine swp_exit ?_ | refine swp_block ?_ | refine swp_scope ?_ | refine thenK_ret ?_ | refine thenK_exit ?_ | refine blockK_normal ?_ | refine blockK_ret ?_ | refine blockK_here ?_ | refine bX ?_ | refine scopeK_normal ?_ | refine scopeK_ret ?_ | refine scopeK_exit ?_ | refine loopK_ret ?_ | refine loopK_exit ?_ | refine dF mixed ?_ | (refine cB (fun hc => ?_) (fun hc => ?_) <;> first | exact False.elim hc | exact absurd hc Bool.false_ne_true | exact absurd hc.symm Bool.false_ne_true | skip) | refine cU ?_ ?_)))
        (refine rC (fun hf => ?_))
        (refine cA (rcrash_f d keep _) (fun hf => ?_))
        (refine drun_end ?_)
        rw [q2]
        (repeat' (first | refine swp_seq [0, 1, 2, 3, 6, 7, 8, 9, 10, 11, 12, 13, 14, 15, 16, 17, 18, 19, 20, 21, 23, 25, 36, 44, 53] ?_ | (first | refine rF (fun hf => ?_) | refine tN ?_ | refine swp_skip ?_ | refine swp_ret ?_ | refine swp_exit ?_ | refine swp_block ?_ | refine swp_scope ?_ | refine thenK_ret ?_ | refine thenK_exit ?_ | refine blockK_normal ?_ | refine blockK_ret ?_ | refine blockK_here ?_ | refine bX ?_ | refine scopeK_normal ?_ | refine scopeK_ret ?_ | refine scopeK_exit ?_ | refine loopK_ret ?_ | refine loopK_exit ?_ | refine dF mixed ?_ | (refine cB (fun hc => ?_) (fun hc => ?_) <;> first | exact False.elim hc | exact absurd hc Bool.false_ne_true | exact absurd hc.symm Bool.false_ne_true | skip) | refine cU ?_ ?_)))
        (refine rC (fun hf => ?_))
        (refine cA (ropen_f d _) (fun hf => ?_))
        (refine drun_end ?_)
        rw [q3]
        (repeat' (first | refine swp_seq [0, 1, 2, 3, 6, 7, 8, 9, 10, 11, 12, 13, 14, 15, 16, 17, 18, 19, 20, 21, 23, 25, 36, 44, 53] ?_ | (first | refine rF (fun hf => ?_) | refine tN ?_ | refine swp_skip ?_ | refine swp_ret ?_ | refine swp_exit ?_ | refine swp_block ?_ | refine swp_scope ?_ | refine thenK_ret ?_ | refine thenK_exit ?_ | refine blockK_normal ?_ | refine blockK_ret ?_ | refine blockK_here ?_ | refine bX ?_ | refine scopeK_normal ?_ | refine scopeK_ret ?_ | refine scopeK_exit ?_ | refine loopK_ret ?_ | refine loopK_exit ?_ | refine dF mixed ?_ | (refine cB (fun hc => ?_) (fun hc => ?_) <;> first | exact False.elim hc | exact absurd hc Bool.false_ne_true | exact absurd hc.symm Bool.false_ne_true | skip) | refine cU ?_ ?_)))
        (refine xC mixed [] ?_)
        (refine yA (dvalid_f d _) ?_)
        (refine yA (rvalid_f d _) ?_)
        have qb : (diskB d == diskB d) = true := by simp
        (refine yA (sameDisk_self x1 _) ?_)
        (refine yA (sameDisk_self x2 _) ?_)
        (refine yA (sameDisk_self x3 _) ?_)
        (refine yA (sameDisk_self d _) ?_)
        (refine xrun_end ?_)
        (repeat' (first | refine swp_seq [0, 1, 2, 3, 6, 7, 8, 9, 10, 11, 12, 13, 14, 15, 16, 17, 18, 19, 20, 21, 23, 25, 36, 44, 53] ?_ | (first | refine rF (fun hf => ?_) | refine tN ?_ | refine swp_skip ?_ | refine swp_ret ?_ | refine swp_exit ?_ | refine swp_block ?_ | refine swp_scope ?_ | refine thenK_ret ?_ | refine thenK_exit ?_ | refine blockK_normal ?_ | refine blockK_ret ?_ | refine blockK_here ?_ | refine bX ?_ | refine scopeK_normal ?_ | refine scopeK_ret ?_ | refine scopeK_exit ?_ | refine loopK_ret ?_ | refine loopK_exit ?_ | refine dF mixed ?_ | (refine cB (fun hc => ?_) (fun hc => ?_) <;> first | exact False.elim hc | exact absurd hc Bool.false_ne_true | exact absurd hc.symm Bool.false_ne_true | skip) | refine cU ?_ ?_)))
        (((simp only [push_cast, reduceIte, reduceDIte, reduceCtorEq, Nat.reduceLT, Nat.reduceLeDiff, Nat.reduceEqDiff, Nat.reduceAdd, Nat.reduceMul, Nat.reduceBEq, Nat.reducePow, Int.zero_add, Int.reduceAdd, Int.reduceSub, Int.reduceLT, Int.reduceLE, Int.reduceToNat, Int.reduceNeg, Nat.reduceSub]); repeat (simp (disch := omega) only [idx_map, idx_nat, i64w]; try (simp only [push_cast, reduceIte, reduceDIte, reduceCtorEq, Nat.reduceLT, Nat.reduceLeDiff, Nat.reduceEqDiff, Nat.reduceAdd, Nat.reduceMul, Nat.reduceBEq, Nat.reducePow, Int.zero_add, Int.reduceAdd, Int.reduceSub, Int.reduceLT, Int.reduceLE, Int.reduceToNat, Int.reduceNeg, Nat.reduceSub]))))
      · exfalso; omega

end Go.Proofs.Ytkhddlhhbanebaa
