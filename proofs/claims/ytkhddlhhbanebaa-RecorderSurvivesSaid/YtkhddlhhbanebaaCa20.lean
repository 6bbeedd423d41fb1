/-
  Contracts of functions of the program, over the engine.
  No condition.
-/
import Derived.Test.YtkhddlhhbanebaaCa19
namespace Go.Proofs.Ytkhddlhhbanebaa
open Go.Eng
set_option linter.all false

def gRec : Rec := ⟨2, 0, [], ⟨#[103]⟩, 500, zMsg, .empty⟩
theorem gB : recB gRec = true := by decide +kernel
theorem gE : encE gRec = 0 := by decide +kernel
theorem gBytes : encB gRec = [2, 1, 103, 1, 244] := by decide +kernel
theorem gA1 : (appD ⟨[], 0, -1⟩ gRec).2 = 0 := by decide +kernel
theorem gA2 : (appD ⟨[], 0, -1⟩ gRec).1.data.length = 13 := by decide +kernel
theorem gA3 : (appD ⟨[], 0, 4⟩ gRec).2 = 19 := by decide +kernel
theorem gA4 : (appD ⟨[], 0, 4⟩ gRec).1.data.length = 4 := by decide +kernel
theorem gA5 : (appD ⟨[], 0, 4⟩ gRec).1.after = 0 := by decide +kernel
theorem gOk : recOk gRec := ⟨by decide, by decide, by decide, by decide⟩
theorem bytesEq_self (l : List UInt8) (m : Nat) : DCalls Try.prog 15 [bys l, bys l] (hget []) m (lb true) (hget []) := by
  have := bytesEq_f l l m
  rwa [decide_eq_true rfl] at this
set_option maxHeartbeats 4000000 in
theorem awake_f (m : Nat) : DCalls Try.prog 8 [] (hget []) m (lb true) (hget []) := by
  refine pureC (n := 58) (rs := [.tmp 0]) (ts := [4]) Try.func8 rfl (by decide) [] (by (exact SD)) ?_
  (repeat' (first | refine swp_seq [0, 1, 2, 3, 4, 5, 6, 7] ?_ | (first | refine rF (fun hf => ?_) | refine tN ?_ | refine swp_skip ?_ | refine swp_ret ?_ | refine swp_exit ?_ | refine swp_block ?_ | refine swp_scope ?_ | refine thenK_ret ?_ | refine thenK_exit ?_ | refine blockK_normal ?_ | refine blockK_ret ?_ | refine blockK_here ?_ | refine bX ?_ | refine scopeK_normal ?_ | refine scopeK_ret ?_ | refine scopeK_exit ?_ | refine loopK_ret ?_ | refine loopK_exit ?_ | refine dF mixed ?_ | (refine cB (fun hc => ?_) (fun hc => ?_) <;> first | exact False.elim hc | exact absurd hc Bool.false_ne_true | exact absurd hc.symm Bool.false_ne_true | skip) | refine cU ?_ ?_)))
  (refine rC (fun hf => ?_))
  (refine cA (encode_f gRec _ gOk (by decide) (by decide) (by decide) (by decide)) (fun hf => ?_))
  (refine drun_end ?_)
  rw [gE, gBytes]
  (repeat' (first | refine swp_seq [0, 1, 2, 3, 4, 5, 6, 7] ?_ | (first | refine rF (fun hf => ?_) | refine tN ?_ | refine swp_skip ?_ | refine swp_ret ?_ | refine swp_exit ?_ | refine swp_block ?_ | refine swp_scope ?_ | refine thenK_ret ?_ | refine thenK_exit ?_ | refine blockK_normal ?_ | refine blockK_ret ?_ | refine blockK_here ?_ | refine bX ?_ | refine scopeK_normal ?_ | refine scopeK_ret ?_ | refine scopeK_exit ?_ | refine loopK_ret ?_ | refine loopK_exit ?_ | refine dF mixed ?_ | (refine cB (fun hc => ?_) (fun hc => ?_) <;> first | exact False.elim hc | exact absurd hc Bool.false_ne_true | exact absurd hc.symm Bool.false_ne_true | skip) | refine cU ?_ ?_)))
  (refine rC (fun hf => ?_))
  (refine cA (append_f ⟨[], 0, -1⟩ gRec _ gOk (by decide) (by decide) (by decide) (by decide)) (fun hf => ?_))
  (refine drun_end ?_)
  have q1 := gA1
  have q2 := gA2
  generalize appD ⟨[], 0, -1⟩ gRec = x1 at *
  obtain ⟨⟨x1d, x1s, x1a⟩, x1e⟩ := x1
  simp only at q1 q2
  subst q1
  (repeat' (first | refine swp_seq [0, 1, 2, 3, 4, 5, 6, 7] ?_ | (first | refine rF (fun hf => ?_) | refine tN ?_ | refine swp_skip ?_ | refine swp_ret ?_ | refine swp_exit ?_ | refine swp_block ?_ | refine swp_scope ?_ | refine thenK_ret ?_ | refine thenK_exit ?_ | refine blockK_normal ?_ | refine blockK_ret ?_ | refine blockK_here ?_ | refine bX ?_ | refine scopeK_normal ?_ | refine scopeK_ret ?_ | refine scopeK_exit ?_ | refine loopK_ret ?_ | refine loopK_exit ?_ | refine dF mixed ?_ | (refine cB (fun hc => ?_) (fun hc => ?_) <;> first | exact False.elim hc | exact absurd hc Bool.false_ne_true | exact absurd hc.symm Bool.false_ne_true | skip) | refine cU ?_ ?_)))
  (refine rC (fun hf => ?_))
  (refine cA (append_f ⟨[], 0, 4⟩ gRec _ gOk (by decide) (by decide) (by decide) (by decide)) (fun hf => ?_))
  (refine drun_end ?_)
  have q3 := gA3
  have q4 := gA4
  have q5 := gA5
  generalize appD ⟨[], 0, 4⟩ gRec = x2 at *
  obtain ⟨⟨x2d, x2s, x2a⟩, x2e⟩ := x2
  simp only at q3 q4 q5
  subst q3 q5
  (repeat' (first | refine swp_seq [0, 1, 2, 3, 4, 5, 6, 7] ?_ | (first | refine rF (fun hf => ?_) | refine tN ?_ | refine swp_skip ?_ | refine swp_ret ?_ | refine swp_exit ?_ | refine swp_block ?_ | refine swp_scope ?_ | refine thenK_ret ?_ | refine thenK_exit ?_ | refine blockK_normal ?_ | refine blockK_ret ?_ | refine blockK_here ?_ | refine bX ?_ | refine scopeK_normal ?_ | refine scopeK_ret ?_ | refine scopeK_exit ?_ | refine loopK_ret ?_ | refine loopK_exit ?_ | refine dF mixed ?_ | (refine cB (fun hc => ?_) (fun hc => ?_) <;> first | exact False.elim hc | exact absurd hc Bool.false_ne_true | exact absurd hc.symm Bool.false_ne_true | skip) | refine cU ?_ ?_)))
  (refine rC (fun hf => ?_))
  (refine cL 264 (fun m => bytesEq_self [2, 1, 103, 1, 244] m) (fun hf => ?_))
  have z1 : ((x1d.length : Int) == 13) = true := by rw [q2]; rfl
  have z2 : ((x2d.length : Int) == 4) = true := by rw [q4]; rfl
  (refine drun_end ?_)
  (repeat' (first | refine swp_seq [0, 1, 2, 3, 4, 5, 6, 7] ?_ | (first | refine rF (fun hf => ?_) | refine tN ?_ | refine swp_skip ?_ | refine swp_ret ?_ | refine swp_exit ?_ | refine swp_block ?_ | refine swp_scope ?_ | refine thenK_ret ?_ | refine thenK_exit ?_ | refine blockK_normal ?_ | refine blockK_ret ?_ | refine blockK_here ?_ | refine bX ?_ | refine scopeK_normal ?_ | refine scopeK_ret ?_ | refine scopeK_exit ?_ | refine loopK_ret ?_ | refine loopK_exit ?_ | refine dF mixed ?_ | (refine cB (fun hc => ?_) (fun hc => ?_) <;> first | exact False.elim hc | exact absurd hc Bool.false_ne_true | exact absurd hc.symm Bool.false_ne_true | skip) | refine cU ?_ ?_)))
  (((simp only [push_cast, reduceIte, reduceDIte, reduceCtorEq, Nat.reduceLT, Nat.reduceLeDiff, Nat.reduceEqDiff, Nat.reduceAdd, Nat.reduceMul, Nat.reduceBEq, Nat.reducePow, Int.zero_add, Int.reduceAdd, Int.reduceSub, Int.reduceLT, Int.reduceLE, Int.reduceToNat, Int.reduceNeg, Nat.reduceSub]); repeat (simp (disch := omega) only [idx_map, idx_nat, i64w]; try (simp only [push_cast, reduceIte, reduceDIte, reduceCtorEq, Nat.reduceLT, Nat.reduceLeDiff, Nat.reduceEqDiff, Nat.reduceAdd, Nat.reduceMul, Nat.reduceBEq, Nat.reducePow, Int.zero_add, Int.reduceAdd, Int.reduceSub, Int.reduceLT, Int.reduceLE, Int.reduceToNat, Int.reduceNeg, Nat.reduceSub]))))
  rw [z1, z2]; rfl
def wordyB (r : Rec) : Bool := (decide (40 < r.inflows.length) && decide (r.inflows.length ≤ 300)) || decide (310 < r.inflows.length) || decide (100 < r.link.size) || decide (510 < r.text.size) || decide (100 < r.msg.node.size)
theorem wordy_f (r : Rec) (m : Nat) : DCalls Try.prog 9 [recD r] (hget []) m (lb (wordyB r)) (hget []) := by
  refine pureC (n := 38) (rs := [.tmp 2]) (ts := [4]) Try.func9 rfl (by decide) [] (by (exact SD)) ?_
  (repeat' (first | refine swp_seq [0, 1, 2] ?_ | (first | refine rF (fun hf => ?_) | refine tN ?_ | refine swp_skip ?_ | refine swp_ret ?_ | refine swp_exit ?_ | refine swp_block ?_ | refine swp_scope ?_ | refine thenK_ret ?_ | refine thenK_exit ?_ | refine blockK_normal ?_ | refine blockK_ret ?_ | refine blockK_here ?_ | refine bX ?_ | refine scopeK_normal ?_ | refine scopeK_ret ?_ | refine scopeK_exit ?_ | refine loopK_ret ?_ | refine loopK_exit ?_ | refine dF mixed ?_ | (refine cB (fun hc => ?_) (fun hc => ?_) <;> first | exact False.elim hc | exact absurd hc Bool.false_ne_true | exact absurd hc.symm Bool.false_ne_true | skip) | refine cU ?_ ?_)))
  (((simp only [push_cast, reduceIte, reduceDIte, reduceCtorEq, Nat.reduceLT, Nat.reduceLeDiff, Nat.reduceEqDiff, Nat.reduceAdd, Nat.reduceMul, Nat.reduceBEq, Nat.reducePow, Int.zero_add, Int.reduceAdd, Int.reduceSub, Int.reduceLT, Int.reduceLE, Int.reduceToNat, Int.reduceNeg, Nat.reduceSub]); repeat (simp (disch := omega) only [idx_map, idx_nat, i64w]; try (simp only [push_cast, reduceIte, reduceDIte, reduceCtorEq, Nat.reduceLT, Nat.reduceLeDiff, Nat.reduceEqDiff, Nat.reduceAdd, Nat.reduceMul, Nat.reduceBEq, Nat.reducePow, Int.zero_add, Int.reduceAdd, Int.reduceSub, Int.reduceLT, Int.reduceLE, Int.reduceToNat, Int.reduceNeg, Nat.reduceSub]))))
  unfold wordyB
  congr 3
  grind
theorem wordyB_in {r : Rec} (h : wordyB r = false) : r.inflows.length ≤ 310 ∧ r.link.size ≤ 100 ∧ r.text.size ≤ 510 ∧ r.msg.node.size ≤ 100 := by
  unfold wordyB at h; grind

end Go.Proofs.Ytkhddlhhbanebaa
