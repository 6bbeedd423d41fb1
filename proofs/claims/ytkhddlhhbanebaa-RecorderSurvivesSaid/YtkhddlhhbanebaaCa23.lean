/-
  Contracts of functions of the program, over the engine.
  No condition.
-/
import Derived.Test.YtkhddlhhbanebaaCa24
namespace Go.Proofs.Ytkhddlhhbanebaa
open Go.Eng
set_option linter.all false

def recsGo (acc : List Rec) : List (List UInt8) → List Rec × Int
  | [] => (acc, 0)
  | b :: l => if (decD b).2 = 0 then recsGo (acc ++ [(decD b).1]) l else ([], (decD b).2)
def recsD (d : Disk) : List Rec × Int := if diskB d = true then recsGo [] (bods d.data) else ([], 1)
theorem bodF_len (l : List UInt8) : ∀ (k p : Nat), ∀ b ∈ bodF k l p, b.length ≤ l.length := by
  intro k
  induction k with
  | zero => intro p b hb; simp [bodF] at hb
  | succ k ih =>
    intro p b hb
    rw [bodF] at hb
    split at hb
    · rcases List.mem_cons.1 hb with rfl | hb
      · simp; omega
      · exact ih _ _ hb
    · simp at hb
theorem bods_len (l : List UInt8) : ∀ b ∈ bods l, b.length ≤ l.length := bodF_len l _ _
theorem bodF_cnt (l : List UInt8) : ∀ (k p : Nat), p ≤ l.length → 8 * (bodF k l p).length + p ≤ l.length := by
  intro k
  induction k with
  | zero => intro p hp; simp [bodF]; exact hp
  | succ k ih =>
    intro p hp
    rw [bodF]
    split
    · next hk =>
      have h3 : p + nAt l p + 8 ≤ l.length := by unfold okF at hk; grind
      have := ih (p + nAt l p + 8) h3
      simp only [List.length_cons]; omega
    · simp; exact hp
theorem bods_cnt (l : List UInt8) : 8 * (bods l).length ≤ l.length := by have := bodF_cnt l (l.length + 1) 0 (by omega); unfold bods; omega
set_option maxHeartbeats 8000000 in
theorem records_f (d : Disk) (m : Nat) : DCalls Try.prog 30 [dskD d] (hget []) m (.tup [recs (recsD d).1, li (recsD d).2]) (hget []) := by
  refine pureC (n := 40) (rs := [.tmp 2, .tmp 3]) (ts := [55, 30]) Try.func30 rfl (by decide) [144] (by (exact SD)) ?_
  (repeat' (first | refine swp_seq [0, 1, 2, 3, 4, 6, 8, 9, 10, 13, 20, 21, 22, 23, 32] ?_ | (first | refine rF (fun hf => ?_) | refine tN ?_ | refine swp_skip ?_ | refine swp_ret ?_ | refine swp_exit ?_ | refine swp_block ?_ | refine swp_scope ?_ | refine thenK_ret ?_ | refine thenK_exit ?_ | refine blockK_normal ?_ | refine blockK_ret ?_ | refine blockK_here ?_ | refine bX ?_ | refine scopeK_normal ?_ | refine scopeK_ret ?_ | refine scopeK_exit ?_ | refine loopK_ret ?_ | refine loopK_exit ?_ | refine dF mixed ?_ | (refine cB (fun hc => ?_) (fun hc => ?_) <;> first | exact False.elim hc | exact absurd hc Bool.false_ne_true | exact absurd hc.symm Bool.false_ne_true | skip) | refine cU ?_ ?_)))
  ((refine rC (fun hf => ?_); refine cA (dvalid_f d _) (fun hf => ?_); refine drun_end ?_))
  by_cases hD : diskB d = true
  · obtain ⟨h1, h2, h3, h4, h5⟩ := diskB_in d hD
    have hres : recsD d = recsGo [] (bods d.data) := by unfold recsD; rw [if_pos hD]
    rw [hres, hD]
    (repeat' (first | refine swp_seq [0, 1, 2, 3, 4, 6, 8, 9, 10, 13, 20, 21, 22, 23, 32] ?_ | (first | refine rF (fun hf => ?_) | refine tN ?_ | refine swp_skip ?_ | refine swp_ret ?_ | refine swp_exit ?_ | refine swp_block ?_ | refine swp_scope ?_ | refine thenK_ret ?_ | refine thenK_exit ?_ | refine blockK_normal ?_ | refine blockK_ret ?_ | refine blockK_here ?_ | refine bX ?_ | refine scopeK_normal ?_ | refine scopeK_ret ?_ | refine scopeK_exit ?_ | refine loopK_ret ?_ | refine loopK_exit ?_ | refine dF mixed ?_ | (refine cB (fun hc => ?_) (fun hc => ?_) <;> first | exact False.elim hc | exact absurd hc Bool.false_ne_true | exact absurd hc.symm Bool.false_ne_true | skip) | refine cU ?_ ?_)))
    (refine rC (fun hf => ?_))
    (refine cA (frames_f d.data _ h1) (fun hf => ?_))
    (refine drun_end ?_)
    have hbl := bods_len d.data
    have hbc := bods_cnt d.data
    generalize bods d.data = l at *
    generalize ends d.data = en at *
    (repeat' (first | refine swp_seq [0, 1, 2, 3, 4, 6, 8, 9, 10, 13, 20, 21, 22, 23, 32] ?_ | (first | refine rF (fun hf => ?_) | refine tN ?_ | refine swp_skip ?_ | refine swp_ret ?_ | refine swp_exit ?_ | refine swp_block ?_ | refine swp_scope ?_ | refine thenK_ret ?_ | refine thenK_exit ?_ | refine blockK_normal ?_ | refine blockK_ret ?_ | refine blockK_here ?_ | refine bX ?_ | refine scopeK_normal ?_ | refine scopeK_ret ?_ | refine scopeK_exit ?_ | refine loopK_ret ?_ | refine loopK_exit ?_ | refine dF mixed ?_ | (refine cB (fun hc => ?_) (fun hc => ?_) <;> first | exact False.elim hc | exact absurd hc Bool.false_ne_true | exact absurd hc.symm Bool.false_ne_true | skip) | refine cU ?_ ?_)))
    (refine sN 6 26 11 ?_)
    refine loop_swp [2, 3, 6, 20, 21, 22] [144] 152 (fun q A H => ∃ (i : Nat) (acc : List Rec), i ≤ l.length ∧ q = l.length - i ∧ acc.length = i ∧ recsGo acc (l.drop i) = recsGo [] l ∧ A = [(2, nilS), (3, li 0), (6, .gl 144), (20, bss l), (21, li l.length), (22, li i)] ∧ H = [(144, .lst 26 11 (rows recP acc))]) (by omega) ?_ ?_ ?_
    · rintro q A H ⟨i, acc, g1, g2, g3, g4, rfl, rfl⟩
      exact ⟨by (exact SD), by (exact SD)⟩
    · refine ⟨_, 0, [], by omega, rfl, rfl, rfl, ?_, ?_⟩
      · (((simp only [push_cast, reduceIte, reduceDIte, reduceCtorEq, Nat.reduceLT, Nat.reduceLeDiff, Nat.reduceEqDiff, Nat.reduceAdd, Nat.reduceMul, Nat.reduceBEq, Nat.reducePow, Int.zero_add, Int.reduceAdd, Int.reduceSub, Int.reduceLT, Int.reduceLE, Int.reduceToNat, Int.reduceNeg, Nat.reduceSub]); repeat (simp (disch := omega) only [idx_map, idx_nat, i64w]; try (simp only [push_cast, reduceIte, reduceDIte, reduceCtorEq, Nat.reduceLT, Nat.reduceLeDiff, Nat.reduceEqDiff, Nat.reduceAdd, Nat.reduceMul, Nat.reduceBEq, Nat.reducePow, Int.zero_add, Int.reduceAdd, Int.reduceSub, Int.reduceLT, Int.reduceLE, Int.reduceToNat, Int.reduceNeg, Nat.reduceSub]))))
      · (((simp only [push_cast, reduceIte, reduceDIte, reduceCtorEq, Nat.reduceLT, Nat.reduceLeDiff, Nat.reduceEqDiff, Nat.reduceAdd, Nat.reduceMul, Nat.reduceBEq, Nat.reducePow, Int.zero_add, Int.reduceAdd, Int.reduceSub, Int.reduceLT, Int.reduceLE, Int.reduceToNat, Int.reduceNeg, Nat.reduceSub]); repeat (simp (disch := omega) only [idx_map, idx_nat, i64w]; try (simp only [push_cast, reduceIte, reduceDIte, reduceCtorEq, Nat.reduceLT, Nat.reduceLeDiff, Nat.reduceEqDiff, Nat.reduceAdd, Nat.reduceMul, Nat.reduceBEq, Nat.reducePow, Int.zero_add, Int.reduceAdd, Int.reduceSub, Int.reduceLT, Int.reduceLE, Int.reduceToNat, Int.reduceNeg, Nat.reduceSub]))))
    · rintro q A H ⟨i, acc, g1, g2, g3, g4, rfl, rfl⟩
      (repeat' (first | refine swp_seq [0, 1, 2, 3, 4, 6, 8, 9, 10, 13, 20, 21, 22, 23, 32] ?_ | (first | refine rF (fun hf => ?_) | refine tN ?_ | refine swp_skip ?_ | refine swp_ret ?_ | refine swp_exit ?_ | refine swp_block ?_ | refine swp_scope ?_ | refine thenK_ret ?_ | refine thenK_exit ?_ | refine blockK_normal ?_ | refine blockK_ret ?_ | refine blockK_here ?_ | refine bX ?_ | refine scopeK_normal ?_ | refine scopeK_ret ?_ | refine scopeK_exit ?_ | refine loopK_ret ?_ | refine loopK_exit ?_ | refine dF mixed ?_ | (refine cB (fun hc => ?_) (fun hc => ?_) <;> first | exact False.elim hc | exact absurd hc Bool.false_ne_true | exact absurd hc.symm Bool.false_ne_true | skip) | refine cU ?_ ?_)))
      · have hi : i < l.length := by omega
        have hb1 : (l.getD i default).length ≤ 1048576 := by
          rw [List.getD_eq_getElem?_getD, List.getElem?_eq_getElem hi]
          have := hbl _ (List.getElem_mem hi)
          simp only [Option.getD_some]; omega
        have hdrop : l.drop i = l.getD i default :: l.drop (i + 1) := by
          rw [List.drop_eq_getElem_cons hi, List.getD_eq_getElem?_getD, List.getElem?_eq_getElem hi]; rfl
        rw [hdrop, recsGo] at g4
        (refine rC (fun hf => ?_))
        (refine cA (decode_f (l.getD i default) _ hb1) (fun hf => ?_))
        (refine drun_end ?_)
        generalize decD (l.getD i default) = x at *
        obtain ⟨x, e⟩ := x
        simp only at g4
        (repeat' (first | refine swp_seq [0, 1, 2, 3, 4, 6, 8, 9, 10, 13, 20, 21, 22, 23, 32] ?_ | (first | refine rF (fun hf => ?_) | refine tN ?_ | refine swp_skip ?_ | refine swp_ret ?_ | refine swp_exit ?_ | refine swp_block ?_ | refine swp_scope ?_ | refine thenK_ret ?_ | refine thenK_exit ?_ | refine blockK_normal ?_ | refine blockK_ret ?_ | refine blockK_here ?_ | refine bX ?_ | refine scopeK_normal ?_ | refine scopeK_ret ?_ | refine scopeK_exit ?_ | refine loopK_ret ?_ | refine loopK_exit ?_ | refine dF mixed ?_ | (refine cB (fun hc => ?_) (fun hc => ?_) <;> first | exact False.elim hc | exact absurd hc Bool.false_ne_true | exact absurd hc.symm Bool.false_ne_true | skip) | refine cU ?_ ?_)))
        · rw [if_neg (by assumption)] at g4
          rw [← g4]
          (((simp only [push_cast, reduceIte, reduceDIte, reduceCtorEq, Nat.reduceLT, Nat.reduceLeDiff, Nat.reduceEqDiff, Nat.reduceAdd, Nat.reduceMul, Nat.reduceBEq, Nat.reducePow, Int.zero_add, Int.reduceAdd, Int.reduceSub, Int.reduceLT, Int.reduceLE, Int.reduceToNat, Int.reduceNeg, Nat.reduceSub]); repeat (simp (disch := omega) only [idx_map, idx_nat, i64w]; try (simp only [push_cast, reduceIte, reduceDIte, reduceCtorEq, Nat.reduceLT, Nat.reduceLeDiff, Nat.reduceEqDiff, Nat.reduceAdd, Nat.reduceMul, Nat.reduceBEq, Nat.reducePow, Int.zero_add, Int.reduceAdd, Int.reduceSub, Int.reduceLT, Int.reduceLE, Int.reduceToNat, Int.reduceNeg, Nat.reduceSub])))); rfl
        · rw [if_pos (by assumption)] at g4
          (refine lN [144] ?_)
          refine ⟨_, by omega, i + 1, acc ++ [x], by omega, rfl, by simp [g3], g4, rfl, ?_⟩
          simp [rows, recP]
      · rw [List.drop_of_length_le (by omega), recsGo] at g4
        rw [← g4]
        (((simp only [push_cast, reduceIte, reduceDIte, reduceCtorEq, Nat.reduceLT, Nat.reduceLeDiff, Nat.reduceEqDiff, Nat.reduceAdd, Nat.reduceMul, Nat.reduceBEq, Nat.reducePow, Int.zero_add, Int.reduceAdd, Int.reduceSub, Int.reduceLT, Int.reduceLE, Int.reduceToNat, Int.reduceNeg, Nat.reduceSub]); repeat (simp (disch := omega) only [idx_map, idx_nat, i64w]; try (simp only [push_cast, reduceIte, reduceDIte, reduceCtorEq, Nat.reduceLT, Nat.reduceLeDiff, Nat.reduceEqDiff, Nat.reduceAdd, Nat.reduceMul, Nat.reduceBEq, Nat.reducePow, Int.zero_add, Int.reduceAdd, Int.reduceSub, Int.reduceLT, Int.reduceLE, Int.reduceToNat, Int.reduceNeg, Nat.reduceSub]))))
  · have hres : recsD d = ([], 1) := by unfold recsD; rw [if_neg hD]
    rw [Bool.not_eq_true] at hD
    rw [hres, hD]
    (repeat' (first | refine swp_seq [0, 1, 2, 3, 4, 6, 8, 9, 10, 13, 20, 21, 22, 23, 32] ?_ | (first | refine rF (fun hf => ?_) | refine tN ?_ | refine swp_skip ?_ | refine swp_ret ?_ | refine swp_exit ?_ | refine swp_block ?_ | refine swp_scope ?_ | refine thenK_ret ?_ | refine thenK_exit ?_ | refine blockK_normal ?_ | refine blockK_ret ?_ | refine blockK_here ?_ | refine bX ?_ | refine scopeK_normal ?_ | refine scopeK_ret ?_ | refine scopeK_exit ?_ | refine loopK_ret ?_ | refine loopK_exit ?_ | refine dF mixed ?_ | (refine cB (fun hc => ?_) (fun hc => ?_) <;> first | exact False.elim hc | exact absurd hc Bool.false_ne_true | exact absurd hc.symm Bool.false_ne_true | skip) | refine cU ?_ ?_)))
    (((simp only [push_cast, reduceIte, reduceDIte, reduceCtorEq, Nat.reduceLT, Nat.reduceLeDiff, Nat.reduceEqDiff, Nat.reduceAdd, Nat.reduceMul, Nat.reduceBEq, Nat.reducePow, Int.zero_add, Int.reduceAdd, Int.reduceSub, Int.reduceLT, Int.reduceLE, Int.reduceToNat, Int.reduceNeg, Nat.reduceSub]); repeat (simp (disch := omega) only [idx_map, idx_nat, i64w]; try (simp only [push_cast, reduceIte, reduceDIte, reduceCtorEq, Nat.reduceLT, Nat.reduceLeDiff, Nat.reduceEqDiff, Nat.reduceAdd, Nat.reduceMul, Nat.reduceBEq, Nat.reducePow, Int.zero_add, Int.reduceAdd, Int.reduceSub, Int.reduceLT, Int.reduceLE, Int.reduceToNat, Int.reduceNeg, Nat.reduceSub])))); rfl
theorem endsAt_nil {l : List UInt8} {p : Nat} (h : endsAt l p = []) : ¬ okF l p = true := fun hk => by
  unfold endsAt at h
  rw [endsF, if_pos hk] at h
  cases h
set_option maxHeartbeats 8000000 in
theorem rrecords_f (d : Disk) (m : Nat) : DCalls Try.prog 32 [dskD d] (hget []) m (.tup [recs (recsD d).1, li (recsD d).2]) (hget []) := by
  refine pureC (n := 48) (rs := [.tmp 2, .tmp 3]) (ts := [55, 3]) Try.func32 rfl (by decide) [104] (by (exact SD)) ?_
  (repeat' (first | refine swp_seq [0, 1, 2, 3, 4, 5, 6, 7, 8, 9, 12, 19, 37] ?_ | (first | refine rF (fun hf => ?_) | refine tN ?_ | refine swp_skip ?_ | refine swp_ret ?_ | refine swp_exit ?_ | refine swp_block ?_ | refine swp_scope ?_ | refine thenK_ret ?_ | refine thenK_exit ?_ | refine blockK_normal ?_ | refine blockK_ret ?_ | refine blockK_here ?_ | refine bX ?_ | refine scopeK_normal ?_ | refine scopeK_ret ?_ | refine scopeK_exit ?_ | refine loopK_ret ?_ | refine loopK_exit ?_ | refine dF mixed ?_ | (refine cB (fun hc => ?_) (fun hc => ?_) <;> first | exact False.elim hc | exact absurd hc Bool.false_ne_true | exact absurd hc.symm Bool.false_ne_true | skip) | refine cU ?_ ?_)))
  ((refine rC (fun hf => ?_); refine cA (rvalid_f d _) (fun hf => ?_); refine drun_end ?_))
  by_cases hD : diskB d = true
  · obtain ⟨h1, h2, h3, h4, h5⟩ := diskB_in d hD
    have hres : recsD d = recsGo [] (bods d.data) := by unfold recsD; rw [if_pos hD]
    rw [hres, hD]
    (repeat' (first | refine swp_seq [0, 1, 2, 3, 4, 5, 6, 7, 8, 9, 12, 19, 37] ?_ | (first | refine rF (fun hf => ?_) | refine tN ?_ | refine swp_skip ?_ | refine swp_ret ?_ | refine swp_exit ?_ | refine swp_block ?_ | refine swp_scope ?_ | refine thenK_ret ?_ | refine thenK_exit ?_ | refine blockK_normal ?_ | refine blockK_ret ?_ | refine blockK_here ?_ | refine bX ?_ | refine scopeK_normal ?_ | refine scopeK_ret ?_ | refine scopeK_exit ?_ | refine loopK_ret ?_ | refine loopK_exit ?_ | refine dF mixed ?_ | (refine cB (fun hc => ?_) (fun hc => ?_) <;> first | exact False.elim hc | exact absurd hc Bool.false_ne_true | exact absurd hc.symm Bool.false_ne_true | skip) | refine cU ?_ ?_)))
    ((refine rC (fun hf => ?_); refine cA (ends_f d.data _ h1) (fun hf => ?_); refine drun_end ?_))
    (repeat' (first | refine swp_seq [0, 1, 2, 3, 4, 5, 6, 7, 8, 9, 12, 19, 37] ?_ | (first | refine rF (fun hf => ?_) | refine tN ?_ | refine swp_skip ?_ | refine swp_ret ?_ | refine swp_exit ?_ | refine swp_block ?_ | refine swp_scope ?_ | refine thenK_ret ?_ | refine thenK_exit ?_ | refine blockK_normal ?_ | refine blockK_ret ?_ | refine blockK_here ?_ | refine bX ?_ | refine scopeK_normal ?_ | refine scopeK_ret ?_ | refine scopeK_exit ?_ | refine loopK_ret ?_ | refine loopK_exit ?_ | refine dF mixed ?_ | (refine cB (fun hc => ?_) (fun hc => ?_) <;> first | exact False.elim hc | exact absurd hc Bool.false_ne_true | exact absurd hc.symm Bool.false_ne_true | skip) | refine cU ?_ ?_)))
    have hel := endsF_len d.data (d.data.length + 1) 0 (by omega)
    (refine sN 4 26 11 ?_)
    refine loop_swp [1, 2, 3, 4, 5, 6, 7] [0, 104] 112 (fun q A H => ∃ (i p : Nat) (acc : List Rec) (pre : List Int), p ≤ d.data.length ∧ i ≤ (ends d.data).length ∧ q = (ends d.data).length - i ∧ acc.length = i ∧ pre.length = i ∧ pre ++ endsAt d.data p = ends d.data ∧ recsGo acc (bodAt d.data p) = recsGo [] (bods d.data) ∧ A = [(1, .ptr 0 0), (2, nilS), (3, li 0), (4, .gl 104), (5, ints (ends d.data)), (6, li p), (7, li i)] ∧ H = [(0, .blk 42 (dskC d)), (104, .lst 26 11 (rows recP acc))]) (by omega) ?_ ?_ ?_
    · rintro q A H ⟨i, p, acc, pre, g0, g1, g2, g3, g4, g5, g6, rfl, rfl⟩
      exact ⟨by (exact SD), by (exact SD)⟩
    · refine ⟨_, 0, 0, [], [], by omega, by omega, rfl, rfl, rfl, rfl, rfl, ?_, ?_⟩
      · (((simp only [push_cast, reduceIte, reduceDIte, reduceCtorEq, Nat.reduceLT, Nat.reduceLeDiff, Nat.reduceEqDiff, Nat.reduceAdd, Nat.reduceMul, Nat.reduceBEq, Nat.reducePow, Int.zero_add, Int.reduceAdd, Int.reduceSub, Int.reduceLT, Int.reduceLE, Int.reduceToNat, Int.reduceNeg, Nat.reduceSub]); repeat (simp (disch := omega) only [idx_map, idx_nat, i64w]; try (simp only [push_cast, reduceIte, reduceDIte, reduceCtorEq, Nat.reduceLT, Nat.reduceLeDiff, Nat.reduceEqDiff, Nat.reduceAdd, Nat.reduceMul, Nat.reduceBEq, Nat.reducePow, Int.zero_add, Int.reduceAdd, Int.reduceSub, Int.reduceLT, Int.reduceLE, Int.reduceToNat, Int.reduceNeg, Nat.reduceSub]))))
      · (((simp only [push_cast, reduceIte, reduceDIte, reduceCtorEq, Nat.reduceLT, Nat.reduceLeDiff, Nat.reduceEqDiff, Nat.reduceAdd, Nat.reduceMul, Nat.reduceBEq, Nat.reducePow, Int.zero_add, Int.reduceAdd, Int.reduceSub, Int.reduceLT, Int.reduceLE, Int.reduceToNat, Int.reduceNeg, Nat.reduceSub]); repeat (simp (disch := omega) only [idx_map, idx_nat, i64w]; try (simp only [push_cast, reduceIte, reduceDIte, reduceCtorEq, Nat.reduceLT, Nat.reduceLeDiff, Nat.reduceEqDiff, Nat.reduceAdd, Nat.reduceMul, Nat.reduceBEq, Nat.reducePow, Int.zero_add, Int.reduceAdd, Int.reduceSub, Int.reduceLT, Int.reduceLE, Int.reduceToNat, Int.reduceNeg, Nat.reduceSub]))))
    · rintro q A H ⟨i, p, acc, pre, g0, g1, g2, g3, g4, g5, g6, rfl, rfl⟩
      have hn := nAt_lt d.data p
      have hce : (ends d.data).length ≤ 1048576 := by unfold ends; omega
      by_cases hi : i < (ends d.data).length
      · have hk : okF d.data p = true := by
          by_cases hk : okF d.data p = true
          · exact hk
          · rw [endsAt_stop d.data p hk, List.append_nil] at g5
            rw [← g5] at hi; omega
        have hst := endsAt_step d.data p g0 hk
        have hbt := bodAt_step d.data p g0 hk
        have hle : p + nAt d.data p + 8 ≤ d.data.length := by unfold okF at hk; grind
        have hget : (ends d.data).getD i default = ((p + nAt d.data p + 8 : Nat) : Int) := by
          rw [← g5, hst, List.getD_eq_getElem?_getD, List.getElem?_append_right (by omega), g4, Nat.sub_self]; rfl
        rw [hbt, recsGo] at g6
        rw [hst] at g5
        (repeat' (first | refine swp_seq [0, 1, 2, 3, 4, 5, 6, 7, 8, 9, 12, 19, 37] ?_ | (first | refine rF (fun hf => ?_) | refine tN ?_ | refine swp_skip ?_ | refine swp_ret ?_ | refine swp_exit ?_ | refine swp_block ?_ | refine swp_scope ?_ | refine thenK_ret ?_ | refine thenK_exit ?_ | refine blockK_normal ?_ | refine blockK_ret ?_ | refine blockK_here ?_ | refine bX ?_ | refine scopeK_normal ?_ | refine scopeK_ret ?_ | refine scopeK_exit ?_ | refine loopK_ret ?_ | refine loopK_exit ?_ | refine dF mixed ?_ | (refine cB (fun hc => ?_) (fun hc => ?_) <;> first | exact False.elim hc | exact absurd hc Bool.false_ne_true | exact absurd hc.symm Bool.false_ne_true | skip) | refine cU ?_ ?_)))
        · (refine xC mixed [256] ?_)
          rw [hget]
          have e1 : (((p + nAt d.data p + 8 : Nat) : Int) - 4).toNat - ((p : Int) + 4).toNat = nAt d.data p := by omega
          have e2 : ((p : Int) + 4).toNat = p + 4 := by omega
          rw [e1, e2]
          have hbl : ((d.data.drop (p + 4)).take (nAt d.data p)).length ≤ 1048576 := by simp; omega
          (refine yA (rdecode_f ((d.data.drop (p + 4)).take (nAt d.data p)) _ hbl) ?_)
          (refine xrun_end ?_)
          generalize decD ((d.data.drop (p + 4)).take (nAt d.data p)) = x at *
          obtain ⟨x, e⟩ := x
          simp only at g6
          (repeat' (first | refine swp_seq [0, 1, 2, 3, 4, 5, 6, 7, 8, 9, 12, 19, 37] ?_ | (first | refine rF (fun hf => ?_) | refine tN ?_ | refine swp_skip ?_ | refine swp_ret ?_ | refine swp_exit ?_ | refine swp_block ?_ | refine swp_scope ?_ | refine thenK_ret ?_ | refine thenK_exit ?_ | refine blockK_normal ?_ | refine blockK_ret ?_ | refine blockK_here ?_ | refine bX ?_ | refine scopeK_normal ?_ | refine scopeK_ret ?_ | refine scopeK_exit ?_ | refine loopK_ret ?_ | refine loopK_exit ?_ | refine dF mixed ?_ | (refine cB (fun hc => ?_) (fun hc => ?_) <;> first | exact False.elim hc | exact absurd hc Bool.false_ne_true | exact absurd hc.symm Bool.false_ne_true | skip) | refine cU ?_ ?_)))
          · rw [if_neg (by assumption)] at g6
            rw [← g6]
            (((simp only [push_cast, reduceIte, reduceDIte, reduceCtorEq, Nat.reduceLT, Nat.reduceLeDiff, Nat.reduceEqDiff, Nat.reduceAdd, Nat.reduceMul, Nat.reduceBEq, Nat.reducePow, Int.zero_add, Int.reduceAdd, Int.reduceSub, Int.reduceLT, Int.reduceLE, Int.reduceToNat, Int.reduceNeg, Nat.reduceSub]); repeat (simp (disch := omega) only [idx_map, idx_nat, i64w]; try (simp only [push_cast, reduceIte, reduceDIte, reduceCtorEq, Nat.reduceLT, Nat.reduceLeDiff, Nat.reduceEqDiff, Nat.reduceAdd, Nat.reduceMul, Nat.reduceBEq, Nat.reducePow, Int.zero_add, Int.reduceAdd, Int.reduceSub, Int.reduceLT, Int.reduceLE, Int.reduceToNat, Int.reduceNeg, Nat.reduceSub])))); rfl
          · rw [if_pos (by assumption)] at g6
            rw [hget]
            (refine lN [0, 104] ?_)
            refine ⟨_, by omega, i + 1, p + nAt d.data p + 8, acc ++ [x], pre ++ [((p + nAt d.data p + 8 : Nat) : Int)], hle, by omega, rfl, by simp [g3], by simp [g4], by rw [← g5]; simp, g6, rfl, ?_⟩
            simp [rows, recP, li]
        · exfalso; omega
      · have hnil : endsAt d.data p = [] := by
          have := congrArg List.length g5
          simp at this
          exact List.eq_nil_of_length_eq_zero (by omega)
        rw [bodAt_stop d.data p (endsAt_nil hnil), recsGo] at g6
        rw [← g6]
        (repeat' (first | refine swp_seq [0, 1, 2, 3, 4, 5, 6, 7, 8, 9, 12, 19, 37] ?_ | (first | refine rF (fun hf => ?_) | refine tN ?_ | refine swp_skip ?_ | refine swp_ret ?_ | refine swp_exit ?_ | refine swp_block ?_ | refine swp_scope ?_ | refine thenK_ret ?_ | refine thenK_exit ?_ | refine blockK_normal ?_ | refine blockK_ret ?_ | refine blockK_here ?_ | refine bX ?_ | refine scopeK_normal ?_ | refine scopeK_ret ?_ | refine scopeK_exit ?_ | refine loopK_ret ?_ | refine loopK_exit ?_ | refine dF mixed ?_ | (refine cB (fun hc => ?_) (fun hc => ?_) <;> first | exact False.elim hc | exact absurd hc Bool.false_ne_true | exact absurd hc.symm Bool.false_ne_true | skip) | refine cU ?_ ?_)))
        · exfalso; omega
        · (((simp only [push_cast, reduceIte, reduceDIte, reduceCtorEq, Nat.reduceLT, Nat.reduceLeDiff, Nat.reduceEqDiff, Nat.reduceAdd, Nat.reduceMul, Nat.reduceBEq, Nat.reducePow, Int.zero_add, Int.reduceAdd, Int.reduceSub, Int.reduceLT, Int.reduceLE, Int.reduceToNat, Int.reduceNeg, Nat.reduceSub]); repeat (simp (disch := omega) only [idx_map, idx_nat, i64w]; try (simp only [push_cast, reduceIte, reduceDIte, reduceCtorEq, Nat.reduceLT, Nat.reduceLeDiff, Nat.reduceEqDiff, Nat.reduceAdd, Nat.reduceMul, Nat.reduceBEq, Nat.reducePow, Int.zero_add, Int.reduceAdd, Int.reduceSub, Int.reduceLT, Int.reduceLE, Int.reduceToNat, Int.reduceNeg, Nat.reduceSub]))))
  · have hres : recsD d = ([], 1) := by unfold recsD; rw [if_neg hD]
    rw [Bool.not_eq_true] at hD
    rw [hres, hD]
    (repeat' (first | refine swp_seq [0, 1, 2, 3, 4, 5, 6, 7, 8, 9, 12, 19, 37] ?_ | (first | refine rF (fun hf => ?_) | refine tN ?_ | refine swp_skip ?_ | refine swp_ret ?_ | refine swp_exit ?_ | refine swp_block ?_ | refine swp_scope ?_ | refine thenK_ret ?_ | refine thenK_exit ?_ | refine blockK_normal ?_ | refine blockK_ret ?_ | refine blockK_here ?_ | refine bX ?_ | refine scopeK_normal ?_ | refine scopeK_ret ?_ | refine scopeK_exit ?_ | refine loopK_ret ?_ | refine loopK_exit ?_ | refine dF mixed ?_ | (refine cB (fun hc => ?_) (fun hc => ?_) <;> first | exact False.elim hc | exact absurd hc Bool.false_ne_true | exact absurd hc.symm Bool.false_ne_true | skip) | refine cU ?_ ?_)))
    (((simp only [push_cast, reduceIte, reduceDIte, reduceCtorEq, Nat.reduceLT, Nat.reduceLeDiff, Nat.reduceEqDiff, Nat.reduceAdd, Nat.reduceMul, Nat.reduceBEq, Nat.reducePow, Int.zero_add, Int.reduceAdd, Int.reduceSub, Int.reduceLT, Int.reduceLE, Int.reduceToNat, Int.reduceNeg, Nat.reduceSub]); repeat (simp (disch := omega) only [idx_map, idx_nat, i64w]; try (simp only [push_cast, reduceIte, reduceDIte, reduceCtorEq, Nat.reduceLT, Nat.reduceLeDiff, Nat.reduceEqDiff, Nat.reduceAdd, Nat.reduceMul, Nat.reduceBEq, Nat.reducePow, Int.zero_add, Int.reduceAdd, Int.reduceSub, Int.reduceLT, Int.reduceLE, Int.reduceToNat, Int.reduceNeg, Nat.reduceSub])))); rfl

end Go.Proofs.Ytkhddlhhbanebaa
