/-
  Contracts of functions of the program, over the engine.
  No condition.
-/
import Derived.Test.YtkhddlhhbanebaaCa10
namespace Go.Proofs.Ytkhddlhhbanebaa
open Go.Eng
set_option linter.all false

def frameB (b : List UInt8) : List UInt8 := beBytes 4 (un64 b.length) ++ b ++ beBytes 4 (un64 (sumN (beBytes 4 (un64 b.length) ++ b)))
set_option maxHeartbeats 1000000 in
theorem frame_f (b : List UInt8) (m : Nat) (hb : b.length ≤ 1000000) : DCalls Try.prog 55 [bys b] (hget []) m (bys (frameB b)) (hget []) := by
  refine pureC (n := 13) (rs := [.tmp 2]) (ts := [27]) Try.func55 rfl (by decide) [80] (by (exact SD)) ?_
  (repeat' (first | refine swp_seq [0, 2, 3] ?_ | (first | refine rF (fun hf => ?_) | refine tN ?_ | refine swp_skip ?_ | refine swp_ret ?_ | refine swp_exit ?_ | refine swp_block ?_ | refine swp_scope ?_ | refine thenK_ret ?_ | refine thenK_exit ?_ | refine blockK_normal ?_ | refine blockK_ret ?_ | refine blockK_here ?_ | refine bX ?_ | refine scopeK_normal ?_ | refine scopeK_ret ?_ | refine scopeK_exit ?_ | refine loopK_ret ?_ | refine loopK_exit ?_ | refine dF mixed ?_ | (refine cB (fun hc => ?_) (fun hc => ?_) <;> first | exact False.elim hc | exact absurd hc Bool.false_ne_true | exact absurd hc.symm Bool.false_ne_true | skip) | refine cU ?_ ?_)))
  ((refine rC (fun hf => ?_); refine cA (putN_f b.length 4 _ (by omega) (by omega)) (fun hf => ?_); refine drun_end ?_))
  (repeat' (first | refine swp_seq [0, 2, 3] ?_ | (first | refine rF (fun hf => ?_) | refine tN ?_ | refine swp_skip ?_ | refine swp_ret ?_ | refine swp_exit ?_ | refine swp_block ?_ | refine swp_scope ?_ | refine thenK_ret ?_ | refine thenK_exit ?_ | refine blockK_normal ?_ | refine blockK_ret ?_ | refine blockK_here ?_ | refine bX ?_ | refine scopeK_normal ?_ | refine scopeK_ret ?_ | refine scopeK_exit ?_ | refine loopK_ret ?_ | refine loopK_exit ?_ | refine dF mixed ?_ | (refine cB (fun hc => ?_) (fun hc => ?_) <;> first | exact False.elim hc | exact absurd hc Bool.false_ne_true | exact absurd hc.symm Bool.false_ne_true | skip) | refine cU ?_ ?_)))
  (refine rC (fun hf => ?_))
  (refine cL 24 (fun m => rsum_f (beBytes 4 (un64 b.length) ++ b) m (by simp [beBytes_length]; omega)) (fun hf => ?_))
  (refine cT [24] (put_f (beBytes 4 (un64 b.length) ++ b) (sumN (beBytes 4 (un64 b.length) ++ b)) 4 1 (by omega) (by simp [beBytes_length]; omega)) (fun hf => ?_))
  (refine drun_end ?_)
  (repeat' (first | refine swp_seq [0, 2, 3] ?_ | (first | refine rF (fun hf => ?_) | refine tN ?_ | refine swp_skip ?_ | refine swp_ret ?_ | refine swp_exit ?_ | refine swp_block ?_ | refine swp_scope ?_ | refine thenK_ret ?_ | refine thenK_exit ?_ | refine blockK_normal ?_ | refine blockK_ret ?_ | refine blockK_here ?_ | refine bX ?_ | refine scopeK_normal ?_ | refine scopeK_ret ?_ | refine scopeK_exit ?_ | refine loopK_ret ?_ | refine loopK_exit ?_ | refine dF mixed ?_ | (refine cB (fun hc => ?_) (fun hc => ?_) <;> first | exact False.elim hc | exact absurd hc Bool.false_ne_true | exact absurd hc.symm Bool.false_ne_true | skip) | refine cU ?_ ?_)))
  (((simp only [push_cast, reduceIte, reduceDIte, reduceCtorEq, Nat.reduceLT, Nat.reduceLeDiff, Nat.reduceEqDiff, Nat.reduceAdd, Nat.reduceMul, Nat.reduceBEq, Nat.reducePow, Int.zero_add, Int.reduceAdd, Int.reduceSub, Int.reduceLT, Int.reduceLE, Int.reduceToNat, Int.reduceNeg, Nat.reduceSub]); repeat (simp (disch := omega) only [idx_map, idx_nat, i64w]; try (simp only [push_cast, reduceIte, reduceDIte, reduceCtorEq, Nat.reduceLT, Nat.reduceLeDiff, Nat.reduceEqDiff, Nat.reduceAdd, Nat.reduceMul, Nat.reduceBEq, Nat.reducePow, Int.zero_add, Int.reduceAdd, Int.reduceSub, Int.reduceLT, Int.reduceLE, Int.reduceToNat, Int.reduceNeg, Nat.reduceSub])))); rfl
set_option maxHeartbeats 1000000 in
theorem rframe_f (b : List UInt8) (m : Nat) (hb : b.length ≤ 1000000) : DCalls Try.prog 56 [bys b] (hget []) m (bys (frameB b)) (hget []) := by
  refine pureC (n := 13) (rs := [.tmp 2]) (ts := [27]) Try.func56 rfl (by decide) [80] (by (exact SD)) ?_
  (repeat' (first | refine swp_seq [0, 2, 3] ?_ | (first | refine rF (fun hf => ?_) | refine tN ?_ | refine swp_skip ?_ | refine swp_ret ?_ | refine swp_exit ?_ | refine swp_block ?_ | refine swp_scope ?_ | refine thenK_ret ?_ | refine thenK_exit ?_ | refine blockK_normal ?_ | refine blockK_ret ?_ | refine blockK_here ?_ | refine bX ?_ | refine scopeK_normal ?_ | refine scopeK_ret ?_ | refine scopeK_exit ?_ | refine loopK_ret ?_ | refine loopK_exit ?_ | refine dF mixed ?_ | (refine cB (fun hc => ?_) (fun hc => ?_) <;> first | exact False.elim hc | exact absurd hc Bool.false_ne_true | exact absurd hc.symm Bool.false_ne_true | skip) | refine cU ?_ ?_)))
  ((refine rC (fun hf => ?_); refine cA (rputN_f b.length 4 _ (by omega) (by omega)) (fun hf => ?_); refine drun_end ?_))
  (repeat' (first | refine swp_seq [0, 2, 3] ?_ | (first | refine rF (fun hf => ?_) | refine tN ?_ | refine swp_skip ?_ | refine swp_ret ?_ | refine swp_exit ?_ | refine swp_block ?_ | refine swp_scope ?_ | refine thenK_ret ?_ | refine thenK_exit ?_ | refine blockK_normal ?_ | refine blockK_ret ?_ | refine blockK_here ?_ | refine bX ?_ | refine scopeK_normal ?_ | refine scopeK_ret ?_ | refine scopeK_exit ?_ | refine loopK_ret ?_ | refine loopK_exit ?_ | refine dF mixed ?_ | (refine cB (fun hc => ?_) (fun hc => ?_) <;> first | exact False.elim hc | exact absurd hc Bool.false_ne_true | exact absurd hc.symm Bool.false_ne_true | skip) | refine cU ?_ ?_)))
  (refine rC (fun hf => ?_))
  (refine cL 24 (fun m => sum18_f (beBytes 4 (un64 b.length) ++ b) m (by simp [beBytes_length]; omega)) (fun hf => ?_))
  (refine cT [24] (rput_f (beBytes 4 (un64 b.length) ++ b) (sumN (beBytes 4 (un64 b.length) ++ b)) 4 1 (by omega) (by simp [beBytes_length]; omega)) (fun hf => ?_))
  (refine drun_end ?_)
  (repeat' (first | refine swp_seq [0, 2, 3] ?_ | (first | refine rF (fun hf => ?_) | refine tN ?_ | refine swp_skip ?_ | refine swp_ret ?_ | refine swp_exit ?_ | refine swp_block ?_ | refine swp_scope ?_ | refine thenK_ret ?_ | refine thenK_exit ?_ | refine blockK_normal ?_ | refine blockK_ret ?_ | refine blockK_here ?_ | refine bX ?_ | refine scopeK_normal ?_ | refine scopeK_ret ?_ | refine scopeK_exit ?_ | refine loopK_ret ?_ | refine loopK_exit ?_ | refine dF mixed ?_ | (refine cB (fun hc => ?_) (fun hc => ?_) <;> first | exact False.elim hc | exact absurd hc Bool.false_ne_true | exact absurd hc.symm Bool.false_ne_true | skip) | refine cU ?_ ?_)))
  (((simp only [push_cast, reduceIte, reduceDIte, reduceCtorEq, Nat.reduceLT, Nat.reduceLeDiff, Nat.reduceEqDiff, Nat.reduceAdd, Nat.reduceMul, Nat.reduceBEq, Nat.reducePow, Int.zero_add, Int.reduceAdd, Int.reduceSub, Int.reduceLT, Int.reduceLE, Int.reduceToNat, Int.reduceNeg, Nat.reduceSub]); repeat (simp (disch := omega) only [idx_map, idx_nat, i64w]; try (simp only [push_cast, reduceIte, reduceDIte, reduceCtorEq, Nat.reduceLT, Nat.reduceLeDiff, Nat.reduceEqDiff, Nat.reduceAdd, Nat.reduceMul, Nat.reduceBEq, Nat.reducePow, Int.zero_add, Int.reduceAdd, Int.reduceSub, Int.reduceLT, Int.reduceLE, Int.reduceToNat, Int.reduceNeg, Nat.reduceSub])))); rfl
theorem numU_lt (l : List UInt8) : ∀ k, l.length ≤ k → k ≤ 4 → numU l < 256 ^ k := by
  have key : ∀ (l : List UInt8) (n k : Nat), n < 256 ^ k → k + l.length ≤ 4 → l.foldl numStep n < 256 ^ (k + l.length) := by
    intro l
    induction l with
    | nil => intro n k h _; simpa using h
    | cons c l ih =>
      intro n k h hk
      simp only [List.length_cons] at hk
      simp only [List.foldl_cons, List.length_cons]
      have h1 : numStep n c < 256 ^ (k + 1) := by
        unfold numStep
        have := u8lt c
        have : n * 256 + c.toNat < 256 ^ (k + 1) := by rw [Nat.pow_succ]; omega
        exact Nat.lt_of_le_of_lt (Nat.mod_le _ _) this
      have := ih (numStep n c) (k + 1) h1 (by omega)
      rwa [show k + 1 + l.length = k + (l.length + 1) by omega] at this
  intro k h1 h2
  have := key l 0 0 (by decide) (by omega)
  rw [Nat.zero_add] at this
  exact Nat.lt_of_lt_of_le this (Nat.pow_le_pow_right (by decide) h1)
def nAt (l : List UInt8) (p : Nat) : Nat := numU ((l.drop p).take 4)
theorem nAt_lt (l : List UInt8) (p : Nat) : nAt l p < 4294967296 := numU_lt _ 4 (by simp; omega) (by omega)
def okF (l : List UInt8) (p : Nat) : Bool := decide (p + 4 ≤ l.length) && decide (nAt l p ≤ 65535) && decide (p + nAt l p + 8 ≤ l.length) && (nAt l (p + 4 + nAt l p) == sumN ((l.drop p).take (4 + nAt l p)))
def aft (l : List UInt8) (p : Nat) : Int := if okF l p = true then ((p + nAt l p + 8 : Nat) : Int) else -1
theorem tnV4 (l : List UInt8) (p : Nat) (h : p + 4 ≤ l.length) : tnV l p 4 = nAt l p ∧ tnOk l p 4 = true := by
  have h1 : tnOk l p 4 = true := by unfold tnOk; simp; omega
  refine ⟨?_, h1⟩
  unfold tnV
  rw [h1, if_pos rfl, Int.toNat_natCast]
  have := nAt_lt l p
  exact i64w (by unfold nAt at this; omega)
theorem tnV4n (l : List UInt8) (p : Nat) (h : ¬ p + 4 ≤ l.length) : tnV l p 4 = 0 ∧ tnOk l p 4 = false := by
  have h1 : tnOk l p 4 = false := by unfold tnOk; simp; omega
  exact ⟨by unfold tnV; rw [h1]; rfl, h1⟩
set_option maxHeartbeats 2000000 in
theorem after_f (l : List UInt8) (p : Nat) (m : Nat) (hl : l.length ≤ 1048576) (hp : p ≤ l.length) : DCalls Try.prog 71 [bys l, li p] (hget []) m (li (aft l p)) (hget []) := by
  have hn := nAt_lt l p
  by_cases h4 : p + 4 ≤ l.length
  · obtain ⟨e1, e2⟩ := tnV4 l p h4
    refine pureC (n := 53) (rs := [.tmp 4]) (ts := [3]) Try.func71 rfl (by decide) [] (by (exact SD)) ?_
    (repeat' (first | refine swp_seq [0, 1, 4, 5, 6, 7, 29, 48] ?_ | (first | refine rF (fun hf => ?_) | refine tN ?_ | refine swp_skip ?_ | refine swp_ret ?_ | refine swp_exit ?_ | refine swp_block ?_ | refine swp_scope ?_ | refine thenK_ret ?_ | refine thenK_exit ?_ | refine blockK_normal ?_ | refine blockK_ret ?_ | refine blockK_here ?_ | refine bX ?_ | refine scopeK_normal ?_ | refine scopeK_ret ?_ | refine scopeK_exit ?_ | refine loopK_ret ?_ | refine loopK_exit ?_ | refine dF mixed ?_ | (refine cB (fun hc => ?_) (fun hc => ?_) <;> first | exact False.elim hc | exact absurd hc Bool.false_ne_true | exact absurd hc.symm Bool.false_ne_true | skip) | refine cU ?_ ?_)))
    ((refine rC (fun hf => ?_); refine cA (rtake_f l p 4 _ (by omega) (by omega) (by omega)) (fun hf => ?_); refine drun_end ?_))
    rw [e1, e2]
    (repeat' (first | refine swp_seq [0, 1, 4, 5, 6, 7, 29, 48] ?_ | (first | refine rF (fun hf => ?_) | refine tN ?_ | refine swp_skip ?_ | refine swp_ret ?_ | refine swp_exit ?_ | refine swp_block ?_ | refine swp_scope ?_ | refine thenK_ret ?_ | refine thenK_exit ?_ | refine blockK_normal ?_ | refine blockK_ret ?_ | refine blockK_here ?_ | refine bX ?_ | refine scopeK_normal ?_ | refine scopeK_ret ?_ | refine scopeK_exit ?_ | refine loopK_ret ?_ | refine loopK_exit ?_ | refine dF mixed ?_ | (refine cB (fun hc => ?_) (fun hc => ?_) <;> first | exact False.elim hc | exact absurd hc Bool.false_ne_true | exact absurd hc.symm Bool.false_ne_true | skip) | refine cU ?_ ?_)))
    · (((simp only [push_cast, reduceIte, reduceDIte, reduceCtorEq, Nat.reduceLT, Nat.reduceLeDiff, Nat.reduceEqDiff, Nat.reduceAdd, Nat.reduceMul, Nat.reduceBEq, Nat.reducePow, Int.zero_add, Int.reduceAdd, Int.reduceSub, Int.reduceLT, Int.reduceLE, Int.reduceToNat, Int.reduceNeg, Nat.reduceSub]); repeat (simp (disch := omega) only [idx_map, idx_nat, i64w]; try (simp only [push_cast, reduceIte, reduceDIte, reduceCtorEq, Nat.reduceLT, Nat.reduceLeDiff, Nat.reduceEqDiff, Nat.reduceAdd, Nat.reduceMul, Nat.reduceBEq, Nat.reducePow, Int.zero_add, Int.reduceAdd, Int.reduceSub, Int.reduceLT, Int.reduceLE, Int.reduceToNat, Int.reduceNeg, Nat.reduceSub]))))
      have : okF l p = false := by unfold okF; grind
      unfold aft
      rw [this]; rfl
    · have e0 : (p : Int) + 4 + (nAt l p : Int) = ((p + 4 + nAt l p : Nat) : Int) := by omega
      obtain ⟨e3, e4⟩ := tnV4 l (p + 4 + nAt l p) (by omega)
      rw [← e0] at e3 e4
      ((refine rC (fun hf => ?_); refine cA (rtake_f l ((p : Int) + 4 + (nAt l p : Int)) 4 _ (by omega) (by omega) (by omega)) (fun hf => ?_); refine drun_end ?_))
      rw [e3, e4]
      (repeat' (first | refine swp_seq [0, 1, 4, 5, 6, 7, 29, 48] ?_ | (first | refine rF (fun hf => ?_) | refine tN ?_ | refine swp_skip ?_ | refine swp_ret ?_ | refine swp_exit ?_ | refine swp_block ?_ | refine swp_scope ?_ | refine thenK_ret ?_ | refine thenK_exit ?_ | refine blockK_normal ?_ | refine blockK_ret ?_ | refine blockK_here ?_ | refine bX ?_ | refine scopeK_normal ?_ | refine scopeK_ret ?_ | refine scopeK_exit ?_ | refine loopK_ret ?_ | refine loopK_exit ?_ | refine dF mixed ?_ | (refine cB (fun hc => ?_) (fun hc => ?_) <;> first | exact False.elim hc | exact absurd hc Bool.false_ne_true | exact absurd hc.symm Bool.false_ne_true | skip) | refine cU ?_ ?_)))
      have e5 : ((p : Int) + 4 + (nAt l p : Int)).toNat - p = 4 + nAt l p := by omega
      ((refine rC (fun hf => ?_); refine cA (sum18_f ((l.drop p).take (((p : Int) + 4 + (nAt l p : Int)).toNat - p)) _ (by simp; omega)) (fun hf => ?_); refine drun_end ?_))
      rw [e5]
      (repeat' (first | refine swp_seq [0, 1, 4, 5, 6, 7, 29, 48] ?_ | (first | refine rF (fun hf => ?_) | refine tN ?_ | refine swp_skip ?_ | refine swp_ret ?_ | refine swp_exit ?_ | refine swp_block ?_ | refine swp_scope ?_ | refine thenK_ret ?_ | refine thenK_exit ?_ | refine blockK_normal ?_ | refine blockK_ret ?_ | refine blockK_here ?_ | refine bX ?_ | refine scopeK_normal ?_ | refine scopeK_ret ?_ | refine scopeK_exit ?_ | refine loopK_ret ?_ | refine loopK_exit ?_ | refine dF mixed ?_ | (refine cB (fun hc => ?_) (fun hc => ?_) <;> first | exact False.elim hc | exact absurd hc Bool.false_ne_true | exact absurd hc.symm Bool.false_ne_true | skip) | refine cU ?_ ?_)))
      · (((simp only [push_cast, reduceIte, reduceDIte, reduceCtorEq, Nat.reduceLT, Nat.reduceLeDiff, Nat.reduceEqDiff, Nat.reduceAdd, Nat.reduceMul, Nat.reduceBEq, Nat.reducePow, Int.zero_add, Int.reduceAdd, Int.reduceSub, Int.reduceLT, Int.reduceLE, Int.reduceToNat, Int.reduceNeg, Nat.reduceSub]); repeat (simp (disch := omega) only [idx_map, idx_nat, i64w]; try (simp only [push_cast, reduceIte, reduceDIte, reduceCtorEq, Nat.reduceLT, Nat.reduceLeDiff, Nat.reduceEqDiff, Nat.reduceAdd, Nat.reduceMul, Nat.reduceBEq, Nat.reducePow, Int.zero_add, Int.reduceAdd, Int.reduceSub, Int.reduceLT, Int.reduceLE, Int.reduceToNat, Int.reduceNeg, Nat.reduceSub]))))
        have : okF l p = false := by unfold okF; grind
        unfold aft
        rw [this]; rfl
      · (((simp only [push_cast, reduceIte, reduceDIte, reduceCtorEq, Nat.reduceLT, Nat.reduceLeDiff, Nat.reduceEqDiff, Nat.reduceAdd, Nat.reduceMul, Nat.reduceBEq, Nat.reducePow, Int.zero_add, Int.reduceAdd, Int.reduceSub, Int.reduceLT, Int.reduceLE, Int.reduceToNat, Int.reduceNeg, Nat.reduceSub]); repeat (simp (disch := omega) only [idx_map, idx_nat, i64w]; try (simp only [push_cast, reduceIte, reduceDIte, reduceCtorEq, Nat.reduceLT, Nat.reduceLeDiff, Nat.reduceEqDiff, Nat.reduceAdd, Nat.reduceMul, Nat.reduceBEq, Nat.reducePow, Int.zero_add, Int.reduceAdd, Int.reduceSub, Int.reduceLT, Int.reduceLE, Int.reduceToNat, Int.reduceNeg, Nat.reduceSub]))))
        have : okF l p = true := by unfold okF; grind
        unfold aft
        rw [this, if_pos rfl]; simp
  · obtain ⟨e1, e2⟩ := tnV4n l p h4
    refine pureC (n := 53) (rs := [.tmp 4]) (ts := [3]) Try.func71 rfl (by decide) [] (by (exact SD)) ?_
    (repeat' (first | refine swp_seq [0, 1, 4, 5, 6, 7, 29, 48] ?_ | (first | refine rF (fun hf => ?_) | refine tN ?_ | refine swp_skip ?_ | refine swp_ret ?_ | refine swp_exit ?_ | refine swp_block ?_ | refine swp_scope ?_ | refine thenK_ret ?_ | refine thenK_exit ?_ | refine blockK_normal ?_ | refine blockK_ret ?_ | refine blockK_here ?_ | refine bX ?_ | refine scopeK_normal ?_ | refine scopeK_ret ?_ | refine scopeK_exit ?_ | refine loopK_ret ?_ | refine loopK_exit ?_ | refine dF mixed ?_ | (refine cB (fun hc => ?_) (fun hc => ?_) <;> first | exact False.elim hc | exact absurd hc Bool.false_ne_true | exact absurd hc.symm Bool.false_ne_true | skip) | refine cU ?_ ?_)))
    ((refine rC (fun hf => ?_); refine cA (rtake_f l p 4 _ (by omega) (by omega) (by omega)) (fun hf => ?_); refine drun_end ?_))
    rw [e1, e2]
    (repeat' (first | refine swp_seq [0, 1, 4, 5, 6, 7, 29, 48] ?_ | (first | refine rF (fun hf => ?_) | refine tN ?_ | refine swp_skip ?_ | refine swp_ret ?_ | refine swp_exit ?_ | refine swp_block ?_ | refine swp_scope ?_ | refine thenK_ret ?_ | refine thenK_exit ?_ | refine blockK_normal ?_ | refine blockK_ret ?_ | refine blockK_here ?_ | refine bX ?_ | refine scopeK_normal ?_ | refine scopeK_ret ?_ | refine scopeK_exit ?_ | refine loopK_ret ?_ | refine loopK_exit ?_ | refine dF mixed ?_ | (refine cB (fun hc => ?_) (fun hc => ?_) <;> first | exact False.elim hc | exact absurd hc Bool.false_ne_true | exact absurd hc.symm Bool.false_ne_true | skip) | refine cU ?_ ?_)))
    · (((simp only [push_cast, reduceIte, reduceDIte, reduceCtorEq, Nat.reduceLT, Nat.reduceLeDiff, Nat.reduceEqDiff, Nat.reduceAdd, Nat.reduceMul, Nat.reduceBEq, Nat.reducePow, Int.zero_add, Int.reduceAdd, Int.reduceSub, Int.reduceLT, Int.reduceLE, Int.reduceToNat, Int.reduceNeg, Nat.reduceSub]); repeat (simp (disch := omega) only [idx_map, idx_nat, i64w]; try (simp only [push_cast, reduceIte, reduceDIte, reduceCtorEq, Nat.reduceLT, Nat.reduceLeDiff, Nat.reduceEqDiff, Nat.reduceAdd, Nat.reduceMul, Nat.reduceBEq, Nat.reducePow, Int.zero_add, Int.reduceAdd, Int.reduceSub, Int.reduceLT, Int.reduceLE, Int.reduceToNat, Int.reduceNeg, Nat.reduceSub]))))
      have : okF l p = false := by unfold okF; grind
      unfold aft
      rw [this]; rfl
theorem aft_ge (l : List UInt8) (p : Nat) (h : ¬ aft l p < 0) : okF l p = true ∧ aft l p = ((p + nAt l p + 8 : Nat) : Int) ∧ p + nAt l p + 8 ≤ l.length := by
  unfold aft at *
  by_cases hk : okF l p = true
  · rw [if_pos hk] at *
    refine ⟨hk, rfl, ?_⟩
    unfold okF at hk; grind
  · rw [if_neg hk] at h; exact absurd (by decide) h
def endsF : Nat → List UInt8 → Nat → List Int
  | 0, _, _ => []
  | k + 1, l, p => if okF l p = true then ((p + nAt l p + 8 : Nat) : Int) :: endsF k l (p + nAt l p + 8) else []
theorem endsF_more (l : List UInt8) : ∀ (k p : Nat), l.length + 1 - p ≤ k → p ≤ l.length → endsF (k + 1) l p = endsF k l p := by
  intro k
  induction k with
  | zero => intro p h1 h2; omega
  | succ k ih =>
    intro p h1 h2
    have ea : endsF (k + 1 + 1) l p = if okF l p = true then ((p + nAt l p + 8 : Nat) : Int) :: endsF (k + 1) l (p + nAt l p + 8) else [] := rfl
    have eb : endsF (k + 1) l p = if okF l p = true then ((p + nAt l p + 8 : Nat) : Int) :: endsF k l (p + nAt l p + 8) else [] := rfl
    rw [ea, eb]
    by_cases hk : okF l p = true
    · rw [if_pos hk, if_pos hk]
      have h3 : p + nAt l p + 8 ≤ l.length := by unfold okF at hk; grind
      rw [ih (p + nAt l p + 8) (by omega) h3]
    · rw [if_neg hk, if_neg hk]
theorem endsF_le (l : List UInt8) : ∀ (j k p : Nat), l.length + 1 - p ≤ k → k ≤ j → p ≤ l.length → endsF j l p = endsF k l p := by
  intro j k p h1 h2 h3
  induction j with
  | zero => have : k = 0 := by omega
            rw [this]
  | succ j ih =>
    by_cases e : k = j + 1
    · rw [e]
    · rw [endsF_more l j p (by omega) h3, ih (by omega)]
def ends (l : List UInt8) : List Int := endsF (l.length + 1) l 0
def endsAt (l : List UInt8) (p : Nat) : List Int := endsF (l.length + 1) l p
theorem endsAt_step (l : List UInt8) (p : Nat) (hp : p ≤ l.length) (hk : okF l p = true) : endsAt l p = ((p + nAt l p + 8 : Nat) : Int) :: endsAt l (p + nAt l p + 8) := by
  have h3 : p + nAt l p + 8 ≤ l.length := by unfold okF at hk; grind
  unfold endsAt
  rw [endsF, if_pos hk, endsF_le l (l.length + 1) l.length _ (by omega) (by omega) h3]
theorem endsAt_stop (l : List UInt8) (p : Nat) (hk : ¬ okF l p = true) : endsAt l p = [] := by
  unfold endsAt; rw [endsF, if_neg hk]
theorem endsF_len (l : List UInt8) : ∀ (k p : Nat), p ≤ l.length → 8 * (endsF k l p).length + p ≤ l.length := by
  intro k
  induction k with
  | zero => intro p h; simpa [endsF] using h
  | succ k ih =>
    intro p h
    rw [endsF]
    by_cases hk : okF l p = true
    · rw [if_pos hk]
      have h3 : p + nAt l p + 8 ≤ l.length := by unfold okF at hk; grind
      have := ih _ h3
      simp only [List.length_cons]; omega
    · rw [if_neg hk]; simpa using h
set_option maxHeartbeats 2000000 in
theorem ends_f (l : List UInt8) (m : Nat) (hl : l.length ≤ 1048576) : DCalls Try.prog 54 [bys l] (hget []) m (ints (ends l)) (hget []) := by
  refine pureC (n := 17) (rs := [.tmp 2]) (ts := [22]) Try.func54 rfl (by decide) [200] (by (exact SD)) ?_
  (repeat' (first | refine swp_seq [0, 2, 3, 4, 8] ?_ | (first | refine rF (fun hf => ?_) | refine tN ?_ | refine swp_skip ?_ | refine swp_ret ?_ | refine swp_exit ?_ | refine swp_block ?_ | refine swp_scope ?_ | refine thenK_ret ?_ | refine thenK_exit ?_ | refine blockK_normal ?_ | refine blockK_ret ?_ | refine blockK_here ?_ | refine bX ?_ | refine scopeK_normal ?_ | refine scopeK_ret ?_ | refine scopeK_exit ?_ | refine loopK_ret ?_ | refine loopK_exit ?_ | refine dF mixed ?_ | (refine cB (fun hc => ?_) (fun hc => ?_) <;> first | exact False.elim hc | exact absurd hc Bool.false_ne_true | exact absurd hc.symm Bool.false_ne_true | skip) | refine cU ?_ ?_)))
  ((refine rC (fun hf => ?_); refine cA (after_f l 0 _ hl (by omega)) (fun hf => ?_); refine drun_end ?_))
  (repeat' (first | refine swp_seq [0, 2, 3, 4, 8] ?_ | (first | refine rF (fun hf => ?_) | refine tN ?_ | refine swp_skip ?_ | refine swp_ret ?_ | refine swp_exit ?_ | refine swp_block ?_ | refine swp_scope ?_ | refine thenK_ret ?_ | refine thenK_exit ?_ | refine blockK_normal ?_ | refine blockK_ret ?_ | refine blockK_here ?_ | refine bX ?_ | refine scopeK_normal ?_ | refine scopeK_ret ?_ | refine scopeK_exit ?_ | refine loopK_ret ?_ | refine loopK_exit ?_ | refine dF mixed ?_ | (refine cB (fun hc => ?_) (fun hc => ?_) <;> first | exact False.elim hc | exact absurd hc Bool.false_ne_true | exact absurd hc.symm Bool.false_ne_true | skip) | refine cU ?_ ?_)))
  refine loop_swp [0, 3, 4] [] 201 (fun k A H => ∃ (q : List Int) (d : DV) (p : Nat), p ≤ l.length ∧ k = l.length - p ∧ 8 * q.length ≤ p ∧ q ++ endsAt l p = ends l ∧ ((q = [] ∧ d = nilS ∧ H = []) ∨ (d = .gl 200 ∧ H = [(200, inL q)])) ∧ A = [(0, bys l), (3, d), (4, li (aft l p))]) (by omega) ?_ ?_ ?_
  · rintro k A H ⟨q, d, p, h1, h2, h3, h4, h5, rfl⟩
    rcases h5 with ⟨_, rfl, rfl⟩ | ⟨rfl, rfl⟩
    · exact ⟨by (exact SD), by (exact SD)⟩
    · exact ⟨by (exact SD), by (exact SD)⟩
  · refine ⟨_, [], _, 0, by omega, rfl, by simp, rfl, .inl ⟨rfl, rfl, ?_⟩, ?_⟩
    · (((simp only [push_cast, reduceIte, reduceDIte, reduceCtorEq, Nat.reduceLT, Nat.reduceLeDiff, Nat.reduceEqDiff, Nat.reduceAdd, Nat.reduceMul, Nat.reduceBEq, Nat.reducePow, Int.zero_add, Int.reduceAdd, Int.reduceSub, Int.reduceLT, Int.reduceLE, Int.reduceToNat, Int.reduceNeg, Nat.reduceSub]); repeat (simp (disch := omega) only [idx_map, idx_nat, i64w]; try (simp only [push_cast, reduceIte, reduceDIte, reduceCtorEq, Nat.reduceLT, Nat.reduceLeDiff, Nat.reduceEqDiff, Nat.reduceAdd, Nat.reduceMul, Nat.reduceBEq, Nat.reducePow, Int.zero_add, Int.reduceAdd, Int.reduceSub, Int.reduceLT, Int.reduceLE, Int.reduceToNat, Int.reduceNeg, Nat.reduceSub]))))
    · (((simp only [push_cast, reduceIte, reduceDIte, reduceCtorEq, Nat.reduceLT, Nat.reduceLeDiff, Nat.reduceEqDiff, Nat.reduceAdd, Nat.reduceMul, Nat.reduceBEq, Nat.reducePow, Int.zero_add, Int.reduceAdd, Int.reduceSub, Int.reduceLT, Int.reduceLE, Int.reduceToNat, Int.reduceNeg, Nat.reduceSub]); repeat (simp (disch := omega) only [idx_map, idx_nat, i64w]; try (simp only [push_cast, reduceIte, reduceDIte, reduceCtorEq, Nat.reduceLT, Nat.reduceLeDiff, Nat.reduceEqDiff, Nat.reduceAdd, Nat.reduceMul, Nat.reduceBEq, Nat.reducePow, Int.zero_add, Int.reduceAdd, Int.reduceSub, Int.reduceLT, Int.reduceLE, Int.reduceToNat, Int.reduceNeg, Nat.reduceSub]))))
  · rintro k A H ⟨q, d, p, h1, h2, h3, h4, h5, rfl⟩
    rcases h5 with ⟨rfl, rfl, rfl⟩ | ⟨rfl, rfl⟩
    · (repeat' (first | refine swp_seq [0, 2, 3, 4, 8] ?_ | (first | refine rF (fun hf => ?_) | refine tN ?_ | refine swp_skip ?_ | refine swp_ret ?_ | refine swp_exit ?_ | refine swp_block ?_ | refine swp_scope ?_ | refine thenK_ret ?_ | refine thenK_exit ?_ | refine blockK_normal ?_ | refine blockK_ret ?_ | refine blockK_here ?_ | refine bX ?_ | refine scopeK_normal ?_ | refine scopeK_ret ?_ | refine scopeK_exit ?_ | refine loopK_ret ?_ | refine loopK_exit ?_ | refine dF mixed ?_ | (refine cB (fun hc => ?_) (fun hc => ?_) <;> first | exact False.elim hc | exact absurd hc Bool.false_ne_true | exact absurd hc.symm Bool.false_ne_true | skip) | refine cU ?_ ?_)))
      · obtain ⟨hk, e, hle⟩ := aft_ge l p (by omega)
        have hst := endsAt_step l p h1 hk
        obtain ⟨p', hp'⟩ : ∃ p', p' = p + nAt l p + 8 := ⟨_, rfl⟩
        rw [← hp'] at e hle hst
        rw [e]
        ((refine rC (fun hf => ?_); refine cA (after_f l p' _ hl hle) (fun hf => ?_); refine drun_end ?_))
        (repeat' (first | refine swp_seq [0, 2, 3, 4, 8] ?_ | (first | refine rF (fun hf => ?_) | refine tN ?_ | refine swp_skip ?_ | refine swp_ret ?_ | refine swp_exit ?_ | refine swp_block ?_ | refine swp_scope ?_ | refine thenK_ret ?_ | refine thenK_exit ?_ | refine blockK_normal ?_ | refine blockK_ret ?_ | refine blockK_here ?_ | refine bX ?_ | refine scopeK_normal ?_ | refine scopeK_ret ?_ | refine scopeK_exit ?_ | refine loopK_ret ?_ | refine loopK_exit ?_ | refine dF mixed ?_ | (refine cB (fun hc => ?_) (fun hc => ?_) <;> first | exact False.elim hc | exact absurd hc Bool.false_ne_true | exact absurd hc.symm Bool.false_ne_true | skip) | refine cU ?_ ?_)))
        (refine lR 241 200 [241] ?_)
        exact ⟨_, by omega, [(p' : Int)], _, p', hle, rfl, by simp; omega, by rw [← h4, hst]; rfl, .inr ⟨rfl, rfl⟩, rfl⟩
      · (((simp only [push_cast, reduceIte, reduceDIte, reduceCtorEq, Nat.reduceLT, Nat.reduceLeDiff, Nat.reduceEqDiff, Nat.reduceAdd, Nat.reduceMul, Nat.reduceBEq, Nat.reducePow, Int.zero_add, Int.reduceAdd, Int.reduceSub, Int.reduceLT, Int.reduceLE, Int.reduceToNat, Int.reduceNeg, Nat.reduceSub]); repeat (simp (disch := omega) only [idx_map, idx_nat, i64w]; try (simp only [push_cast, reduceIte, reduceDIte, reduceCtorEq, Nat.reduceLT, Nat.reduceLeDiff, Nat.reduceEqDiff, Nat.reduceAdd, Nat.reduceMul, Nat.reduceBEq, Nat.reducePow, Int.zero_add, Int.reduceAdd, Int.reduceSub, Int.reduceLT, Int.reduceLE, Int.reduceToNat, Int.reduceNeg, Nat.reduceSub]))))
        have hk : ¬ okF l p = true := fun hk => by unfold aft at hc; rw [if_pos hk] at hc; omega
        rw [endsAt_stop l p hk] at h4
        rw [← h4]; rfl
    · (repeat' (first | refine swp_seq [0, 2, 3, 4, 8] ?_ | (first | refine rF (fun hf => ?_) | refine tN ?_ | refine swp_skip ?_ | refine swp_ret ?_ | refine swp_exit ?_ | refine swp_block ?_ | refine swp_scope ?_ | refine thenK_ret ?_ | refine thenK_exit ?_ | refine blockK_normal ?_ | refine blockK_ret ?_ | refine blockK_here ?_ | refine bX ?_ | refine scopeK_normal ?_ | refine scopeK_ret ?_ | refine scopeK_exit ?_ | refine loopK_ret ?_ | refine loopK_exit ?_ | refine dF mixed ?_ | (refine cB (fun hc => ?_) (fun hc => ?_) <;> first | exact False.elim hc | exact absurd hc Bool.false_ne_true | exact absurd hc.symm Bool.false_ne_true | skip) | refine cU ?_ ?_)))
      · obtain ⟨hk, e, hle⟩ := aft_ge l p (by omega)
        have hst := endsAt_step l p h1 hk
        obtain ⟨p', hp'⟩ : ∃ p', p' = p + nAt l p + 8 := ⟨_, rfl⟩
        rw [← hp'] at e hle hst
        rw [e]
        ((refine rC (fun hf => ?_); refine cA (after_f l p' _ hl hle) (fun hf => ?_); refine drun_end ?_))
        (repeat' (first | refine swp_seq [0, 2, 3, 4, 8] ?_ | (first | refine rF (fun hf => ?_) | refine tN ?_ | refine swp_skip ?_ | refine swp_ret ?_ | refine swp_exit ?_ | refine swp_block ?_ | refine swp_scope ?_ | refine thenK_ret ?_ | refine thenK_exit ?_ | refine blockK_normal ?_ | refine blockK_ret ?_ | refine blockK_here ?_ | refine bX ?_ | refine scopeK_normal ?_ | refine scopeK_ret ?_ | refine scopeK_exit ?_ | refine loopK_ret ?_ | refine loopK_exit ?_ | refine dF mixed ?_ | (refine cB (fun hc => ?_) (fun hc => ?_) <;> first | exact False.elim hc | exact absurd hc Bool.false_ne_true | exact absurd hc.symm Bool.false_ne_true | skip) | refine cU ?_ ?_)))
        (refine lN [200] ?_)
        refine ⟨_, by omega, q ++ [(p' : Int)], _, p', hle, rfl, by simp; omega, by rw [← h4, hst]; simp, .inr ⟨rfl, ?_⟩, rfl⟩
        simp [rows, inRow]
      · (((simp only [push_cast, reduceIte, reduceDIte, reduceCtorEq, Nat.reduceLT, Nat.reduceLeDiff, Nat.reduceEqDiff, Nat.reduceAdd, Nat.reduceMul, Nat.reduceBEq, Nat.reducePow, Int.zero_add, Int.reduceAdd, Int.reduceSub, Int.reduceLT, Int.reduceLE, Int.reduceToNat, Int.reduceNeg, Nat.reduceSub]); repeat (simp (disch := omega) only [idx_map, idx_nat, i64w]; try (simp only [push_cast, reduceIte, reduceDIte, reduceCtorEq, Nat.reduceLT, Nat.reduceLeDiff, Nat.reduceEqDiff, Nat.reduceAdd, Nat.reduceMul, Nat.reduceBEq, Nat.reducePow, Int.zero_add, Int.reduceAdd, Int.reduceSub, Int.reduceLT, Int.reduceLE, Int.reduceToNat, Int.reduceNeg, Nat.reduceSub]))))
        have hk : ¬ okF l p = true := fun hk => by unfold aft at hc; rw [if_pos hk] at hc; omega
        rw [endsAt_stop l p hk, List.append_nil] at h4
        rw [← h4]
def wholeV (l : List UInt8) : Int := (ends l).getLastD 0
set_option maxHeartbeats 1000000 in
theorem rwhole_f (l : List UInt8) (m : Nat) (hl : l.length ≤ 1048576) : DCalls Try.prog 51 [bys l] (hget []) m (li (wholeV l)) (hget []) := by
  have hE := endsF_len l (l.length + 1) 0 (by omega)
  refine pureC (n := 15) (rs := [.tmp 2]) (ts := [3]) Try.func51 rfl (by decide) [] (by (exact SD)) ?_
  (repeat' (first | refine swp_seq [0, 2, 3, 8] ?_ | (first | refine rF (fun hf => ?_) | refine tN ?_ | refine swp_skip ?_ | refine swp_ret ?_ | refine swp_exit ?_ | refine swp_block ?_ | refine swp_scope ?_ | refine thenK_ret ?_ | refine thenK_exit ?_ | refine blockK_normal ?_ | refine blockK_ret ?_ | refine blockK_here ?_ | refine bX ?_ | refine scopeK_normal ?_ | refine scopeK_ret ?_ | refine scopeK_exit ?_ | refine loopK_ret ?_ | refine loopK_exit ?_ | refine dF mixed ?_ | (refine cB (fun hc => ?_) (fun hc => ?_) <;> first | exact False.elim hc | exact absurd hc Bool.false_ne_true | exact absurd hc.symm Bool.false_ne_true | skip) | refine cU ?_ ?_)))
  ((refine rC (fun hf => ?_); refine cA (ends_f l _ hl) (fun hf => ?_); refine drun_end ?_))
  unfold wholeV
  have hE' : (ends l).length ≤ 1048576 := by unfold ends; omega
  generalize ends l = q at *
  (repeat' (first | refine swp_seq [0, 2, 3, 8] ?_ | (first | refine rF (fun hf => ?_) | refine tN ?_ | refine swp_skip ?_ | refine swp_ret ?_ | refine swp_exit ?_ | refine swp_block ?_ | refine swp_scope ?_ | refine thenK_ret ?_ | refine thenK_exit ?_ | refine blockK_normal ?_ | refine blockK_ret ?_ | refine blockK_here ?_ | refine bX ?_ | refine scopeK_normal ?_ | refine scopeK_ret ?_ | refine scopeK_exit ?_ | refine loopK_ret ?_ | refine loopK_exit ?_ | refine dF mixed ?_ | (refine cB (fun hc => ?_) (fun hc => ?_) <;> first | exact False.elim hc | exact absurd hc Bool.false_ne_true | exact absurd hc.symm Bool.false_ne_true | skip) | refine cU ?_ ?_)))
  · (((simp only [push_cast, reduceIte, reduceDIte, reduceCtorEq, Nat.reduceLT, Nat.reduceLeDiff, Nat.reduceEqDiff, Nat.reduceAdd, Nat.reduceMul, Nat.reduceBEq, Nat.reducePow, Int.zero_add, Int.reduceAdd, Int.reduceSub, Int.reduceLT, Int.reduceLE, Int.reduceToNat, Int.reduceNeg, Nat.reduceSub]); repeat (simp (disch := omega) only [idx_map, idx_nat, i64w]; try (simp only [push_cast, reduceIte, reduceDIte, reduceCtorEq, Nat.reduceLT, Nat.reduceLeDiff, Nat.reduceEqDiff, Nat.reduceAdd, Nat.reduceMul, Nat.reduceBEq, Nat.reducePow, Int.zero_add, Int.reduceAdd, Int.reduceSub, Int.reduceLT, Int.reduceLE, Int.reduceToNat, Int.reduceNeg, Nat.reduceSub]))))
    have : q = [] := List.eq_nil_of_length_eq_zero (by omega)
    rw [this]; rfl
  · (((simp only [push_cast, reduceIte, reduceDIte, reduceCtorEq, Nat.reduceLT, Nat.reduceLeDiff, Nat.reduceEqDiff, Nat.reduceAdd, Nat.reduceMul, Nat.reduceBEq, Nat.reducePow, Int.zero_add, Int.reduceAdd, Int.reduceSub, Int.reduceLT, Int.reduceLE, Int.reduceToNat, Int.reduceNeg, Nat.reduceSub]); repeat (simp (disch := omega) only [idx_map, idx_nat, i64w]; try (simp only [push_cast, reduceIte, reduceDIte, reduceCtorEq, Nat.reduceLT, Nat.reduceLeDiff, Nat.reduceEqDiff, Nat.reduceAdd, Nat.reduceMul, Nat.reduceBEq, Nat.reducePow, Int.zero_add, Int.reduceAdd, Int.reduceSub, Int.reduceLT, Int.reduceLE, Int.reduceToNat, Int.reduceNeg, Nat.reduceSub]))))
    have e : ((q.length : Int) - 1).toNat = q.length - 1 := by omega
    rw [e]
    have hq : q ≠ [] := fun k => by rw [k] at hc; exact hc rfl
    have : q.getLastD 0 = q.getD (q.length - 1) default := by
      rw [List.getLastD_eq_getLast?, List.getLast?_eq_getElem?, List.getD_eq_getElem?_getD]
      have : q.length - 1 < q.length := by have := List.length_pos_iff.2 hq; omega
      rw [List.getElem?_eq_getElem this]; rfl
    rw [this]

end Go.Proofs.Ytkhddlhhbanebaa
