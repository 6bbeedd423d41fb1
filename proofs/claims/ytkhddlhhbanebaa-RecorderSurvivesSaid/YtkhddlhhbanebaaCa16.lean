/-
  Contracts of functions of the program, over the engine.
  No condition.
-/
import Derived.Test.YtkhddlhhbanebaaCa15
namespace Go.Proofs.Ytkhddlhhbanebaa
open Go.Eng
set_option linter.all false

theorem recB_sz {r : Rec} (h : recB r = true) : r.kind = 1 ∧ r.inflows.length ≤ 300 ∨ r.kind = 2 ∨ r.kind = 3 ∨ r.kind = 4 := by
  unfold recB at h
  grind
def encE (r : Rec) : Int := if recB r = true then 0 else 1
def encB (r : Rec) : List UInt8 := if recB r = true then recBytes r else []
set_option maxHeartbeats 8000000 in
theorem encode_f (r : Rec) (m : Nat) (hr : recOk r) (hi : r.inflows.length ≤ 1048576) (hl : r.link.size ≤ 1048576) (hn : r.msg.node.size ≤ 1048576) (ht : r.text.size ≤ 1048576) : DCalls Try.prog 13 [recD r] (hget []) m (.tup [bys (encB r), li (encE r)]) (hget []) := by
  obtain ⟨h1, h2, h3, h4⟩ := id hr
  have b1 := bsz r.link
  have b2 := bsz r.msg.node
  have b3 := bsz r.text
  have c1 : r.link.data.size = r.link.size := rfl
  have c2 : r.msg.node.data.size = r.msg.node.size := rfl
  have c3 : r.text.data.size = r.text.size := rfl
  refine pureC (n := 97) (rs := [.tmp 2, .tmp 3]) (ts := [27, 30]) Try.func13 rfl (by decide) [176, 232, 224, 280] (by (exact SD)) ?_
  (repeat' (first | refine swp_seq [0, 1, 2, 3, 4, 6, 7, 9, 12, 18, 19, 30, 31, 32, 33, 40, 54, 76, 77, 78, 79, 86] ?_ | (first | refine rF (fun hf => ?_) | refine tN ?_ | refine swp_skip ?_ | refine swp_ret ?_ | refine swp_exit ?_ | refine swp_block ?_ | refine swp_scope ?_ | refine thenK_ret ?_ | refine thenK_exit ?_ | refine blockK_normal ?_ | refine blockK_ret ?_ | refine blockK_here ?_ | refine bX ?_ | refine scopeK_normal ?_ | refine scopeK_ret ?_ | refine scopeK_exit ?_ | refine loopK_ret ?_ | refine loopK_exit ?_ | refine dF mixed ?_ | (refine cB (fun hc => ?_) (fun hc => ?_) <;> first | exact False.elim hc | exact absurd hc Bool.false_ne_true | exact absurd hc.symm Bool.false_ne_true | skip) | refine cU ?_ ?_)))
  ((refine rC (fun hf => ?_); refine cA (valid_f r _ hr) (fun hf => ?_); refine drun_end ?_))
  by_cases hB : recB r = true
  · have hE : encE r = 0 := by unfold encE; rw [if_pos hB]
    have hb : encB r = recBytes r := by unfold encB; rw [if_pos hB]
    rw [hE, hb]
    rw [hB]
    (repeat' (first | refine swp_seq [0, 1, 2, 3, 4, 6, 7, 9, 12, 18, 19, 30, 31, 32, 33, 40, 54, 76, 77, 78, 79, 86] ?_ | (first | refine rF (fun hf => ?_) | refine tN ?_ | refine swp_skip ?_ | refine swp_ret ?_ | refine swp_exit ?_ | refine swp_block ?_ | refine swp_scope ?_ | refine thenK_ret ?_ | refine thenK_exit ?_ | refine blockK_normal ?_ | refine blockK_ret ?_ | refine blockK_here ?_ | refine bX ?_ | refine scopeK_normal ?_ | refine scopeK_ret ?_ | refine scopeK_exit ?_ | refine loopK_ret ?_ | refine loopK_exit ?_ | refine dF mixed ?_ | (refine cB (fun hc => ?_) (fun hc => ?_) <;> first | exact False.elim hc | exact absurd hc Bool.false_ne_true | exact absurd hc.symm Bool.false_ne_true | skip) | refine cU ?_ ?_)))
    · rw [kindRow]
      (refine xC mixed [72] ?_)
      (refine yT [72] (put_f [UInt8.ofNat (un64 r.kind)] r.seconds 4 1 (by omega) (by simp)) ?_)
      (refine yT [144] (put_f ([UInt8.ofNat (un64 r.kind)] ++ beBytes 4 (un64 r.seconds)) r.inflows.length 2 1 (by omega) (by simp [beBytes_length])) ?_)
      (refine xrun_end ?_)
      (repeat' (first | refine swp_seq [0, 1, 2, 3, 4, 6, 7, 9, 12, 18, 19, 30, 31, 32, 33, 40, 54, 76, 77, 78, 79, 86] ?_ | (first | refine rF (fun hf => ?_) | refine tN ?_ | refine swp_skip ?_ | refine swp_ret ?_ | refine swp_exit ?_ | refine swp_block ?_ | refine swp_scope ?_ | refine thenK_ret ?_ | refine thenK_exit ?_ | refine blockK_normal ?_ | refine blockK_ret ?_ | refine blockK_here ?_ | refine bX ?_ | refine scopeK_normal ?_ | refine scopeK_ret ?_ | refine scopeK_exit ?_ | refine loopK_ret ?_ | refine loopK_exit ?_ | refine dF mixed ?_ | (refine cB (fun hc => ?_) (fun hc => ?_) <;> first | exact False.elim hc | exact absurd hc Bool.false_ne_true | exact absurd hc.symm Bool.false_ne_true | skip) | refine cU ?_ ?_)))
      obtain ⟨p, hp⟩ : ∃ p, p = UInt8.ofNat (un64 r.kind) :: (beBytes 4 (un64 r.seconds) ++ beBytes 2 (un64 r.inflows.length)) := ⟨_, rfl⟩
      rw [← hp]
      have hpl : p.length = 7 := by rw [hp]; simp [beBytes_length]
      refine loop_swp [2, 3, 4, 30, 31, 32] [176] 177 (fun q A H => ∃ i : Nat, i ≤ r.inflows.length ∧ q = r.inflows.length - i ∧ A = [(2, nilS), (3, li 0), (4, .gl 176), (30, ints r.inflows), (31, li r.inflows.length), (32, li i)] ∧ H = [(176, byL (p ++ flat8 (r.inflows.take i)))]) (by omega) ?_ ?_ ?_
      · rintro q A H ⟨i, g1, g2, rfl, rfl⟩
        exact ⟨by (exact SD), by (exact SD)⟩
      · refine ⟨_, 0, by omega, rfl, ?_, ?_⟩
        · (((simp only [push_cast, reduceIte, reduceDIte, reduceCtorEq, Nat.reduceLT, Nat.reduceLeDiff, Nat.reduceEqDiff, Nat.reduceAdd, Nat.reduceMul, Nat.reduceBEq, Nat.reducePow, Int.zero_add, Int.reduceAdd, Int.reduceSub, Int.reduceLT, Int.reduceLE, Int.reduceToNat, Int.reduceNeg, Nat.reduceSub]); repeat (simp (disch := omega) only [idx_map, idx_nat, i64w]; try (simp only [push_cast, reduceIte, reduceDIte, reduceCtorEq, Nat.reduceLT, Nat.reduceLeDiff, Nat.reduceEqDiff, Nat.reduceAdd, Nat.reduceMul, Nat.reduceBEq, Nat.reducePow, Int.zero_add, Int.reduceAdd, Int.reduceSub, Int.reduceLT, Int.reduceLE, Int.reduceToNat, Int.reduceNeg, Nat.reduceSub]))))
        · show _ = [(176, byL (p ++ []))]
          rw [List.append_nil]
          (((simp only [push_cast, reduceIte, reduceDIte, reduceCtorEq, Nat.reduceLT, Nat.reduceLeDiff, Nat.reduceEqDiff, Nat.reduceAdd, Nat.reduceMul, Nat.reduceBEq, Nat.reducePow, Int.zero_add, Int.reduceAdd, Int.reduceSub, Int.reduceLT, Int.reduceLE, Int.reduceToNat, Int.reduceNeg, Nat.reduceSub]); repeat (simp (disch := omega) only [idx_map, idx_nat, i64w]; try (simp only [push_cast, reduceIte, reduceDIte, reduceCtorEq, Nat.reduceLT, Nat.reduceLeDiff, Nat.reduceEqDiff, Nat.reduceAdd, Nat.reduceMul, Nat.reduceBEq, Nat.reducePow, Int.zero_add, Int.reduceAdd, Int.reduceSub, Int.reduceLT, Int.reduceLE, Int.reduceToNat, Int.reduceNeg, Nat.reduceSub]))))
      · rintro q A H ⟨i, g1, g2, rfl, rfl⟩
        have gl := flat8_len (r.inflows.take i)
        rw [List.length_take] at gl
        (repeat' (first | refine swp_seq [0, 1, 2, 3, 4, 6, 7, 9, 12, 18, 19, 30, 31, 32, 33, 40, 54, 76, 77, 78, 79, 86] ?_ | (first | refine rF (fun hf => ?_) | refine tN ?_ | refine swp_skip ?_ | refine swp_ret ?_ | refine swp_exit ?_ | refine swp_block ?_ | refine swp_scope ?_ | refine thenK_ret ?_ | refine thenK_exit ?_ | refine blockK_normal ?_ | refine blockK_ret ?_ | refine blockK_here ?_ | refine bX ?_ | refine scopeK_normal ?_ | refine scopeK_ret ?_ | refine scopeK_exit ?_ | refine loopK_ret ?_ | refine loopK_exit ?_ | refine dF mixed ?_ | (refine cB (fun hc => ?_) (fun hc => ?_) <;> first | exact False.elim hc | exact absurd hc Bool.false_ne_true | exact absurd hc.symm Bool.false_ne_true | skip) | refine cU ?_ ?_)))
        · (refine rC (fun hf => ?_))
          (refine cT [176] (put_f (p ++ flat8 (r.inflows.take i)) (r.inflows.getD i default) 8 1 (by omega) (by simp; omega)) (fun hf => ?_))
          (refine drun_end ?_)
          (repeat' (first | refine swp_seq [0, 1, 2, 3, 4, 6, 7, 9, 12, 18, 19, 30, 31, 32, 33, 40, 54, 76, 77, 78, 79, 86] ?_ | (first | refine rF (fun hf => ?_) | refine tN ?_ | refine swp_skip ?_ | refine swp_ret ?_ | refine swp_exit ?_ | refine swp_block ?_ | refine swp_scope ?_ | refine thenK_ret ?_ | refine thenK_exit ?_ | refine blockK_normal ?_ | refine blockK_ret ?_ | refine blockK_here ?_ | refine bX ?_ | refine scopeK_normal ?_ | refine scopeK_ret ?_ | refine scopeK_exit ?_ | refine loopK_ret ?_ | refine loopK_exit ?_ | refine dF mixed ?_ | (refine cB (fun hc => ?_) (fun hc => ?_) <;> first | exact False.elim hc | exact absurd hc Bool.false_ne_true | exact absurd hc.symm Bool.false_ne_true | skip) | refine cU ?_ ?_)))
          (refine lR 225 176 [225] ?_)
          refine ⟨_, by omega, i + 1, by omega, rfl, rfl, ?_⟩
          rw [flat8_snoc r.inflows i (by omega), ← List.append_assoc]
        · (((simp only [push_cast, reduceIte, reduceDIte, reduceCtorEq, Nat.reduceLT, Nat.reduceLeDiff, Nat.reduceEqDiff, Nat.reduceAdd, Nat.reduceMul, Nat.reduceBEq, Nat.reducePow, Int.zero_add, Int.reduceAdd, Int.reduceSub, Int.reduceLT, Int.reduceLE, Int.reduceToNat, Int.reduceNeg, Nat.reduceSub]); repeat (simp (disch := omega) only [idx_map, idx_nat, i64w]; try (simp only [push_cast, reduceIte, reduceDIte, reduceCtorEq, Nat.reduceLT, Nat.reduceLeDiff, Nat.reduceEqDiff, Nat.reduceAdd, Nat.reduceMul, Nat.reduceBEq, Nat.reducePow, Int.zero_add, Int.reduceAdd, Int.reduceSub, Int.reduceLT, Int.reduceLE, Int.reduceToNat, Int.reduceNeg, Nat.reduceSub]))))
          rw [List.take_of_length_le (by omega), hp, recB1 (by assumption)]; rfl
    · rw [kindRow]
      (refine xC mixed [72] ?_)
      (refine yT [72] (put_f [UInt8.ofNat (un64 r.kind)] r.link.size 1 1 (by omega) (by simp)) ?_)
      (refine xrun_end ?_)
      (repeat' (first | refine swp_seq [0, 1, 2, 3, 4, 6, 7, 9, 12, 18, 19, 30, 31, 32, 33, 40, 54, 76, 77, 78, 79, 86] ?_ | (first | refine rF (fun hf => ?_) | refine tN ?_ | refine swp_skip ?_ | refine swp_ret ?_ | refine swp_exit ?_ | refine swp_block ?_ | refine swp_scope ?_ | refine thenK_ret ?_ | refine thenK_exit ?_ | refine blockK_normal ?_ | refine blockK_ret ?_ | refine blockK_here ?_ | refine bX ?_ | refine scopeK_normal ?_ | refine scopeK_ret ?_ | refine scopeK_exit ?_ | refine loopK_ret ?_ | refine loopK_exit ?_ | refine dF mixed ?_ | (refine cB (fun hc => ?_) (fun hc => ?_) <;> first | exact False.elim hc | exact absurd hc Bool.false_ne_true | exact absurd hc.symm Bool.false_ne_true | skip) | refine cU ?_ ?_)))
      (refine rC (fun hf => ?_))
      (refine cT [192] (put_f (UInt8.ofNat (un64 r.kind) :: (beBytes 1 (un64 r.link.size) ++ r.link.data.toList)) r.setting 2 1 (by omega) (by simp [beBytes_length]; omega)) (fun hf => ?_))
      (refine drun_end ?_)
      (repeat' (first | refine swp_seq [0, 1, 2, 3, 4, 6, 7, 9, 12, 18, 19, 30, 31, 32, 33, 40, 54, 76, 77, 78, 79, 86] ?_ | (first | refine rF (fun hf => ?_) | refine tN ?_ | refine swp_skip ?_ | refine swp_ret ?_ | refine swp_exit ?_ | refine swp_block ?_ | refine swp_scope ?_ | refine thenK_ret ?_ | refine thenK_exit ?_ | refine blockK_normal ?_ | refine blockK_ret ?_ | refine blockK_here ?_ | refine bX ?_ | refine scopeK_normal ?_ | refine scopeK_ret ?_ | refine scopeK_exit ?_ | refine loopK_ret ?_ | refine loopK_exit ?_ | refine dF mixed ?_ | (refine cB (fun hc => ?_) (fun hc => ?_) <;> first | exact False.elim hc | exact absurd hc Bool.false_ne_true | exact absurd hc.symm Bool.false_ne_true | skip) | refine cU ?_ ?_)))
      (((simp only [push_cast, reduceIte, reduceDIte, reduceCtorEq, Nat.reduceLT, Nat.reduceLeDiff, Nat.reduceEqDiff, Nat.reduceAdd, Nat.reduceMul, Nat.reduceBEq, Nat.reducePow, Int.zero_add, Int.reduceAdd, Int.reduceSub, Int.reduceLT, Int.reduceLE, Int.reduceToNat, Int.reduceNeg, Nat.reduceSub]); repeat (simp (disch := omega) only [idx_map, idx_nat, i64w]; try (simp only [push_cast, reduceIte, reduceDIte, reduceCtorEq, Nat.reduceLT, Nat.reduceLeDiff, Nat.reduceEqDiff, Nat.reduceAdd, Nat.reduceMul, Nat.reduceBEq, Nat.reducePow, Int.zero_add, Int.reduceAdd, Int.reduceSub, Int.reduceLT, Int.reduceLE, Int.reduceToNat, Int.reduceNeg, Nat.reduceSub]))))
      rw [recB2 (by assumption)]; rfl
    · rw [kindRow]
      (refine xC mixed [72] ?_)
      (refine yT [72] (put_f [UInt8.ofNat (un64 r.kind)] r.msg.node.size 1 1 (by omega) (by simp)) ?_)
      (refine xrun_end ?_)
      (repeat' (first | refine swp_seq [0, 1, 2, 3, 4, 6, 7, 9, 12, 18, 19, 30, 31, 32, 33, 40, 54, 76, 77, 78, 79, 86] ?_ | (first | refine rF (fun hf => ?_) | refine tN ?_ | refine swp_skip ?_ | refine swp_ret ?_ | refine swp_exit ?_ | refine swp_block ?_ | refine swp_scope ?_ | refine thenK_ret ?_ | refine thenK_exit ?_ | refine blockK_normal ?_ | refine blockK_ret ?_ | refine blockK_here ?_ | refine bX ?_ | refine scopeK_normal ?_ | refine scopeK_ret ?_ | refine scopeK_exit ?_ | refine loopK_ret ?_ | refine loopK_exit ?_ | refine dF mixed ?_ | (refine cB (fun hc => ?_) (fun hc => ?_) <;> first | exact False.elim hc | exact absurd hc Bool.false_ne_true | exact absurd hc.symm Bool.false_ne_true | skip) | refine cU ?_ ?_)))
      (refine rC (fun hf => ?_))
      (refine cT [240] (put_f (UInt8.ofNat (un64 r.kind) :: (beBytes 1 (un64 r.msg.node.size) ++ r.msg.node.data.toList)) r.msg.number 4 1 (by omega) (by simp [beBytes_length]; omega)) (fun hf => ?_))
      (refine drun_end ?_)
      (repeat' (first | refine swp_seq [0, 1, 2, 3, 4, 6, 7, 9, 12, 18, 19, 30, 31, 32, 33, 40, 54, 76, 77, 78, 79, 86] ?_ | (first | refine rF (fun hf => ?_) | refine tN ?_ | refine swp_skip ?_ | refine swp_ret ?_ | refine swp_exit ?_ | refine swp_block ?_ | refine swp_scope ?_ | refine thenK_ret ?_ | refine thenK_exit ?_ | refine blockK_normal ?_ | refine blockK_ret ?_ | refine blockK_here ?_ | refine bX ?_ | refine scopeK_normal ?_ | refine scopeK_ret ?_ | refine scopeK_exit ?_ | refine loopK_ret ?_ | refine loopK_exit ?_ | refine dF mixed ?_ | (refine cB (fun hc => ?_) (fun hc => ?_) <;> first | exact False.elim hc | exact absurd hc Bool.false_ne_true | exact absurd hc.symm Bool.false_ne_true | skip) | refine cU ?_ ?_)))
      (refine sF 344 ?_)
      obtain ⟨p, hp⟩ : ∃ p, p = UInt8.ofNat (un64 r.kind) :: (beBytes 1 (un64 r.msg.node.size) ++ r.msg.node.data.toList ++ beBytes 4 (un64 r.msg.number)) := ⟨_, rfl⟩
      have hpl : p.length ≤ 2000000 := by rw [hp]; simp [beBytes_length]; omega
      obtain ⟨v, hv⟩ : ∃ v, v = [r.msg.att, r.msg.arrived, r.msg.level] := ⟨_, rfl⟩
      have hvl : v.length = 3 := by rw [hv]; rfl
      refine loop_swp [2, 3, 4, 76, 77, 78] [280] 281 (fun q A H => ∃ i : Nat, i ≤ 3 ∧ q = 3 - i ∧ A = [(2, nilS), (3, li 0), (4, .gl 280), (76, ints v), (77, li 3), (78, li i)] ∧ H = [(280, byL (p ++ flat8 (v.take i)))]) (by omega) ?_ ?_ ?_
      · rintro q A H ⟨i, g1, g2, rfl, rfl⟩
        exact ⟨by (exact SD), by (exact SD)⟩
      · refine ⟨_, 0, by omega, rfl, ?_, ?_⟩
        · rw [hv]; (((simp only [push_cast, reduceIte, reduceDIte, reduceCtorEq, Nat.reduceLT, Nat.reduceLeDiff, Nat.reduceEqDiff, Nat.reduceAdd, Nat.reduceMul, Nat.reduceBEq, Nat.reducePow, Int.zero_add, Int.reduceAdd, Int.reduceSub, Int.reduceLT, Int.reduceLE, Int.reduceToNat, Int.reduceNeg, Nat.reduceSub]); repeat (simp (disch := omega) only [idx_map, idx_nat, i64w]; try (simp only [push_cast, reduceIte, reduceDIte, reduceCtorEq, Nat.reduceLT, Nat.reduceLeDiff, Nat.reduceEqDiff, Nat.reduceAdd, Nat.reduceMul, Nat.reduceBEq, Nat.reducePow, Int.zero_add, Int.reduceAdd, Int.reduceSub, Int.reduceLT, Int.reduceLE, Int.reduceToNat, Int.reduceNeg, Nat.reduceSub])))); rfl
        · show _ = [(280, byL (p ++ []))]
          rw [List.append_nil, hp]
          (((simp only [push_cast, reduceIte, reduceDIte, reduceCtorEq, Nat.reduceLT, Nat.reduceLeDiff, Nat.reduceEqDiff, Nat.reduceAdd, Nat.reduceMul, Nat.reduceBEq, Nat.reducePow, Int.zero_add, Int.reduceAdd, Int.reduceSub, Int.reduceLT, Int.reduceLE, Int.reduceToNat, Int.reduceNeg, Nat.reduceSub]); repeat (simp (disch := omega) only [idx_map, idx_nat, i64w]; try (simp only [push_cast, reduceIte, reduceDIte, reduceCtorEq, Nat.reduceLT, Nat.reduceLeDiff, Nat.reduceEqDiff, Nat.reduceAdd, Nat.reduceMul, Nat.reduceBEq, Nat.reducePow, Int.zero_add, Int.reduceAdd, Int.reduceSub, Int.reduceLT, Int.reduceLE, Int.reduceToNat, Int.reduceNeg, Nat.reduceSub]))))
      · rintro q A H ⟨i, g1, g2, rfl, rfl⟩
        have gl := flat8_len (v.take i)
        rw [List.length_take] at gl
        (repeat' (first | refine swp_seq [0, 1, 2, 3, 4, 6, 7, 9, 12, 18, 19, 30, 31, 32, 33, 40, 54, 76, 77, 78, 79, 86] ?_ | (first | refine rF (fun hf => ?_) | refine tN ?_ | refine swp_skip ?_ | refine swp_ret ?_ | refine swp_exit ?_ | refine swp_block ?_ | refine swp_scope ?_ | refine thenK_ret ?_ | refine thenK_exit ?_ | refine blockK_normal ?_ | refine blockK_ret ?_ | refine blockK_here ?_ | refine bX ?_ | refine scopeK_normal ?_ | refine scopeK_ret ?_ | refine scopeK_exit ?_ | refine loopK_ret ?_ | refine loopK_exit ?_ | refine dF mixed ?_ | (refine cB (fun hc => ?_) (fun hc => ?_) <;> first | exact False.elim hc | exact absurd hc Bool.false_ne_true | exact absurd hc.symm Bool.false_ne_true | skip) | refine cU ?_ ?_)))
        · (refine rC (fun hf => ?_))
          (refine cT [280] (put_f (p ++ flat8 (v.take i)) (v.getD i default) 8 1 (by omega) (by simp; omega)) (fun hf => ?_))
          (refine drun_end ?_)
          (repeat' (first | refine swp_seq [0, 1, 2, 3, 4, 6, 7, 9, 12, 18, 19, 30, 31, 32, 33, 40, 54, 76, 77, 78, 79, 86] ?_ | (first | refine rF (fun hf => ?_) | refine tN ?_ | refine swp_skip ?_ | refine swp_ret ?_ | refine swp_exit ?_ | refine swp_block ?_ | refine swp_scope ?_ | refine thenK_ret ?_ | refine thenK_exit ?_ | refine blockK_normal ?_ | refine blockK_ret ?_ | refine blockK_here ?_ | refine bX ?_ | refine scopeK_normal ?_ | refine scopeK_ret ?_ | refine scopeK_exit ?_ | refine loopK_ret ?_ | refine loopK_exit ?_ | refine dF mixed ?_ | (refine cB (fun hc => ?_) (fun hc => ?_) <;> first | exact False.elim hc | exact absurd hc Bool.false_ne_true | exact absurd hc.symm Bool.false_ne_true | skip) | refine cU ?_ ?_)))
          (refine lR 329 280 [329] ?_)
          refine ⟨_, by omega, i + 1, by omega, rfl, rfl, ?_⟩
          rw [flat8_snoc v i (by omega), ← List.append_assoc]
        · (((simp only [push_cast, reduceIte, reduceDIte, reduceCtorEq, Nat.reduceLT, Nat.reduceLeDiff, Nat.reduceEqDiff, Nat.reduceAdd, Nat.reduceMul, Nat.reduceBEq, Nat.reducePow, Int.zero_add, Int.reduceAdd, Int.reduceSub, Int.reduceLT, Int.reduceLE, Int.reduceToNat, Int.reduceNeg, Nat.reduceSub]); repeat (simp (disch := omega) only [idx_map, idx_nat, i64w]; try (simp only [push_cast, reduceIte, reduceDIte, reduceCtorEq, Nat.reduceLT, Nat.reduceLeDiff, Nat.reduceEqDiff, Nat.reduceAdd, Nat.reduceMul, Nat.reduceBEq, Nat.reducePow, Int.zero_add, Int.reduceAdd, Int.reduceSub, Int.reduceLT, Int.reduceLE, Int.reduceToNat, Int.reduceNeg, Nat.reduceSub]))))
          have : flat8 v = beBytes 8 (un64 r.msg.att) ++ beBytes 8 (un64 r.msg.arrived) ++ beBytes 8 (un64 r.msg.level) := by rw [hv]; simp [flat8]
          rw [List.take_of_length_le (by omega), hp, recB3 (by assumption), this]
          simp
    · rw [kindRow]
      (refine xC mixed [72] ?_)
      (refine yT [72] (put_f [UInt8.ofNat (un64 r.kind)] r.text.size 2 1 (by omega) (by simp)) ?_)
      (refine xrun_end ?_)
      (repeat' (first | refine swp_seq [0, 1, 2, 3, 4, 6, 7, 9, 12, 18, 19, 30, 31, 32, 33, 40, 54, 76, 77, 78, 79, 86] ?_ | (first | refine rF (fun hf => ?_) | refine tN ?_ | refine swp_skip ?_ | refine swp_ret ?_ | refine swp_exit ?_ | refine swp_block ?_ | refine swp_scope ?_ | refine thenK_ret ?_ | refine thenK_exit ?_ | refine blockK_normal ?_ | refine blockK_ret ?_ | refine blockK_here ?_ | refine bX ?_ | refine scopeK_normal ?_ | refine scopeK_ret ?_ | refine scopeK_exit ?_ | refine loopK_ret ?_ | refine loopK_exit ?_ | refine dF mixed ?_ | (refine cB (fun hc => ?_) (fun hc => ?_) <;> first | exact False.elim hc | exact absurd hc Bool.false_ne_true | exact absurd hc.symm Bool.false_ne_true | skip) | refine cU ?_ ?_)))
      (((simp only [push_cast, reduceIte, reduceDIte, reduceCtorEq, Nat.reduceLT, Nat.reduceLeDiff, Nat.reduceEqDiff, Nat.reduceAdd, Nat.reduceMul, Nat.reduceBEq, Nat.reducePow, Int.zero_add, Int.reduceAdd, Int.reduceSub, Int.reduceLT, Int.reduceLE, Int.reduceToNat, Int.reduceNeg, Nat.reduceSub]); repeat (simp (disch := omega) only [idx_map, idx_nat, i64w]; try (simp only [push_cast, reduceIte, reduceDIte, reduceCtorEq, Nat.reduceLT, Nat.reduceLeDiff, Nat.reduceEqDiff, Nat.reduceAdd, Nat.reduceMul, Nat.reduceBEq, Nat.reducePow, Int.zero_add, Int.reduceAdd, Int.reduceSub, Int.reduceLT, Int.reduceLE, Int.reduceToNat, Int.reduceNeg, Nat.reduceSub]))))
      rw [recB4 (by assumption) (by assumption) (by assumption)]; rfl
    · exact absurd (recB_sz hB) (by omega)
  · have hE : encE r = 1 := by unfold encE; rw [if_neg hB]
    have hb : encB r = [] := by unfold encB; rw [if_neg hB]
    rw [hE, hb]
    rw [Bool.not_eq_true] at hB
    rw [hB]
    (repeat' (first | refine swp_seq [0, 1, 2, 3, 4, 6, 7, 9, 12, 18, 19, 30, 31, 32, 33, 40, 54, 76, 77, 78, 79, 86] ?_ | (first | refine rF (fun hf => ?_) | refine tN ?_ | refine swp_skip ?_ | refine swp_ret ?_ | refine swp_exit ?_ | refine swp_block ?_ | refine swp_scope ?_ | refine thenK_ret ?_ | refine thenK_exit ?_ | refine blockK_normal ?_ | refine blockK_ret ?_ | refine blockK_here ?_ | refine bX ?_ | refine scopeK_normal ?_ | refine scopeK_ret ?_ | refine scopeK_exit ?_ | refine loopK_ret ?_ | refine loopK_exit ?_ | refine dF mixed ?_ | (refine cB (fun hc => ?_) (fun hc => ?_) <;> first | exact False.elim hc | exact absurd hc Bool.false_ne_true | exact absurd hc.symm Bool.false_ne_true | skip) | refine cU ?_ ?_)))
    (((simp only [push_cast, reduceIte, reduceDIte, reduceCtorEq, Nat.reduceLT, Nat.reduceLeDiff, Nat.reduceEqDiff, Nat.reduceAdd, Nat.reduceMul, Nat.reduceBEq, Nat.reducePow, Int.zero_add, Int.reduceAdd, Int.reduceSub, Int.reduceLT, Int.reduceLE, Int.reduceToNat, Int.reduceNeg, Nat.reduceSub]); repeat (simp (disch := omega) only [idx_map, idx_nat, i64w]; try (simp only [push_cast, reduceIte, reduceDIte, reduceCtorEq, Nat.reduceLT, Nat.reduceLeDiff, Nat.reduceEqDiff, Nat.reduceAdd, Nat.reduceMul, Nat.reduceBEq, Nat.reducePow, Int.zero_add, Int.reduceAdd, Int.reduceSub, Int.reduceLT, Int.reduceLE, Int.reduceToNat, Int.reduceNeg, Nat.reduceSub])))); rfl

end Go.Proofs.Ytkhddlhhbanebaa
