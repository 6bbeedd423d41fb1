/-
  Contracts of functions of the program, over the engine.
  No condition.
-/
import Derived.Test.YtkhddlhhbanebaaTz
import Derived.Test.YtkhddlhhbanebaaEngO
import Derived.Test.YtkhddlhhbanebaaPl0
import Derived.Test.YtkhddlhhbanebaaEngW
namespace Go.Proofs.Ytkhddlhhbanebaa
open Go.Eng
set_option linter.all false
theorem mixed : Try.prog.follows .mixedOrders = true := by kernel_rfl
def rd (l : List UInt8) (e : Bool) : HV := .blk 71 [bys l, lb e]
def tkE (l : List UInt8) (e : Bool) (n : Nat) : Bool := e || decide (l.length < n)
def tkV (l : List UInt8) (e : Bool) (n : Nat) : List UInt8 := if tkE l e n = true then [] else l.take n
def tkL (l : List UInt8) (e : Bool) (n : Nat) : List UInt8 := if tkE l e n = true then l else l.drop n
set_option maxHeartbeats 1000000 in
theorem take_f (l : List UInt8) (e : Bool) (n : Nat) (m : Nat) (hn : n ≤ 281474976710656) :
    DCalls Try.prog 39 [.ptr 0 0, li n] (hget [(0, rd l e)]) m (bys (tkV l e n)) (hget [(0, rd (tkL l e n) (tkE l e n))]) := by
  refine contract (n := 42) (rs := [.tmp 4]) (ts := [27]) Try.func39 rfl (by decide) 1 1 [] [] [] (bys (tkV l e n)) [(0, rd (tkL l e n) (tkE l e n))] (by simp only [rd]; (exact SD)) (by simp only [rd]; (exact SD)) ?_
  unfold tkV tkL tkE
  simp only [rd]
  (repeat' (first | refine swp_seq [0,1,4,5,25] ?_ | (first | refine rF (fun hf => ?_) | refine tN ?_ | refine swp_skip ?_ | refine swp_ret ?_ | refine swp_exit ?_ | refine swp_block ?_ | refine swp_scope ?_ | refine thenK_ret ?_ | refine thenK_exit ?_ | refine blockK_normal ?_ | refine blockK_ret ?_ | refine blockK_here ?_ | refine bX ?_ | refine scopeK_normal ?_ | refine scopeK_ret ?_ | refine scopeK_exit ?_ | refine loopK_ret ?_ | refine loopK_exit ?_ | refine dF mixed ?_ | (refine cB (fun hc => ?_) (fun hc => ?_) <;> first | exact False.elim hc | exact absurd hc Bool.false_ne_true | exact absurd hc.symm Bool.false_ne_true | skip) | refine cU ?_ ?_)))
  · (((simp only [push_cast, reduceIte, reduceDIte, reduceCtorEq, Nat.reduceLT, Nat.reduceLeDiff, Nat.reduceEqDiff, Nat.reduceAdd, Nat.reduceMul, Nat.reduceBEq, Nat.reducePow, Int.zero_add, Int.reduceAdd, Int.reduceSub, Int.reduceLT, Int.reduceLE, Int.reduceToNat, Int.reduceNeg, Nat.reduceSub]); repeat (simp (disch := omega) only [idx_map, idx_nat, i64w]; try (simp only [push_cast, reduceIte, reduceDIte, reduceCtorEq, Nat.reduceLT, Nat.reduceLeDiff, Nat.reduceEqDiff, Nat.reduceAdd, Nat.reduceMul, Nat.reduceBEq, Nat.reducePow, Int.zero_add, Int.reduceAdd, Int.reduceSub, Int.reduceLT, Int.reduceLE, Int.reduceToNat, Int.reduceNeg, Nat.reduceSub]))))
    have hb : (e || decide (l.length < n)) = true := by rcases hc with h | h <;> simp [h] <;> omega
    have hb2 : (e || decide ((l.length : Int) < n)) = true := by rcases hc with h | h <;> simp [h] <;> omega
    rw [hb, hb2]
    exact ⟨rfl, rfl⟩
  · (((simp only [push_cast, reduceIte, reduceDIte, reduceCtorEq, Nat.reduceLT, Nat.reduceLeDiff, Nat.reduceEqDiff, Nat.reduceAdd, Nat.reduceMul, Nat.reduceBEq, Nat.reducePow, Int.zero_add, Int.reduceAdd, Int.reduceSub, Int.reduceLT, Int.reduceLE, Int.reduceToNat, Int.reduceNeg, Nat.reduceSub]); repeat (simp (disch := omega) only [idx_map, idx_nat, i64w]; try (simp only [push_cast, reduceIte, reduceDIte, reduceCtorEq, Nat.reduceLT, Nat.reduceLeDiff, Nat.reduceEqDiff, Nat.reduceAdd, Nat.reduceMul, Nat.reduceBEq, Nat.reducePow, Int.zero_add, Int.reduceAdd, Int.reduceSub, Int.reduceLT, Int.reduceLE, Int.reduceToNat, Int.reduceNeg, Nat.reduceSub]))))
    have hb : (e || decide (l.length < n)) = false := by simp [hc.1] <;> omega
    have hb2 : (e || decide ((l.length : Int) < n)) = false := by simp [hc.1] <;> omega
    rw [hb, hb2, List.take_of_length_le (l := l.drop n) (by simp)]
    exact ⟨rfl, rfl⟩
def nuV (l : List UInt8) (e : Bool) (n : Nat) : Int := IntKind.i64.wrap (numU (tkV l e n))
abbrev li8 (n : Nat) : DV := lv (.int .u64 (n : Int))
set_option maxHeartbeats 1000000 in
theorem number_f (l : List UInt8) (e : Bool) (n : Nat) (m : Nat) (hn : n ≤ 281474976710656) :
    DCalls Try.prog 38 [.ptr 0 0, li n] (hget [(0, rd l e)]) m (li (nuV l e n)) (hget [(0, rd (tkL l e n) (tkE l e n))]) := by
  refine contract (n := 24) (rs := [.tmp 4]) (ts := [3]) Try.func38 rfl (by decide) 1 1 [] [] [] (li (nuV l e n)) [(0, rd (tkL l e n) (tkE l e n))] (by simp only [rd]; (exact SD)) (by simp only [rd]; (exact SD)) ?_
  (repeat' (first | refine swp_seq [0, 1, 4, 5, 7, 10, 11, 12, 13] ?_ | (first | refine rF (fun hf => ?_) | refine tN ?_ | refine swp_skip ?_ | refine swp_ret ?_ | refine swp_exit ?_ | refine swp_block ?_ | refine swp_scope ?_ | refine thenK_ret ?_ | refine thenK_exit ?_ | refine blockK_normal ?_ | refine blockK_ret ?_ | refine blockK_here ?_ | refine bX ?_ | refine scopeK_normal ?_ | refine scopeK_ret ?_ | refine scopeK_exit ?_ | refine loopK_ret ?_ | refine loopK_exit ?_ | refine dF mixed ?_ | (refine cB (fun hc => ?_) (fun hc => ?_) <;> first | exact False.elim hc | exact absurd hc Bool.false_ne_true | exact absurd hc.symm Bool.false_ne_true | skip) | refine cU ?_ ?_)))
  ((refine rC (fun hf => ?_); refine cA (take_f l e n _ hn) (fun hf => ?_); refine drun_end ?_))
  unfold nuV
  generalize tkV l e n = v at *
  (repeat' (first | refine swp_seq [0, 1, 4, 5, 7, 10, 11, 12, 13] ?_ | (first | refine rF (fun hf => ?_) | refine tN ?_ | refine swp_skip ?_ | refine swp_ret ?_ | refine swp_exit ?_ | refine swp_block ?_ | refine swp_scope ?_ | refine thenK_ret ?_ | refine thenK_exit ?_ | refine blockK_normal ?_ | refine blockK_ret ?_ | refine blockK_here ?_ | refine bX ?_ | refine scopeK_normal ?_ | refine scopeK_ret ?_ | refine scopeK_exit ?_ | refine loopK_ret ?_ | refine loopK_exit ?_ | refine dF mixed ?_ | (refine cB (fun hc => ?_) (fun hc => ?_) <;> first | exact False.elim hc | exact absurd hc Bool.false_ne_true | exact absurd hc.symm Bool.false_ne_true | skip) | refine cU ?_ ?_)))
  refine loop_swp [5,10,11,12] [0] 1 (fun k A H => ∃ i : Nat, i ≤ v.length ∧ k = v.length - i ∧ A = [(5, li8 (numU (v.take i))), (10, bys v), (11, li v.length), (12, li i)] ∧ H = [(0, rd (tkL l e n) (tkE l e n))]) (by omega) ?_ ?_ ?_
  · rintro k A H ⟨i, h1, h2, rfl, rfl⟩
    exact ⟨by (exact SD), by simp only [rd]; (exact SD)⟩
  · refine ⟨_, 0, by omega, rfl, ?_, ?_⟩
    · (((simp only [push_cast, reduceIte, reduceDIte, reduceCtorEq, Nat.reduceLT, Nat.reduceLeDiff, Nat.reduceEqDiff, Nat.reduceAdd, Nat.reduceMul, Nat.reduceBEq, Nat.reducePow, Int.zero_add, Int.reduceAdd, Int.reduceSub, Int.reduceLT, Int.reduceLE, Int.reduceToNat, Int.reduceNeg, Nat.reduceSub]); repeat (simp (disch := omega) only [idx_map, idx_nat, i64w]; try (simp only [push_cast, reduceIte, reduceDIte, reduceCtorEq, Nat.reduceLT, Nat.reduceLeDiff, Nat.reduceEqDiff, Nat.reduceAdd, Nat.reduceMul, Nat.reduceBEq, Nat.reducePow, Int.zero_add, Int.reduceAdd, Int.reduceSub, Int.reduceLT, Int.reduceLE, Int.reduceToNat, Int.reduceNeg, Nat.reduceSub])))); rfl
    · (((simp only [push_cast, reduceIte, reduceDIte, reduceCtorEq, Nat.reduceLT, Nat.reduceLeDiff, Nat.reduceEqDiff, Nat.reduceAdd, Nat.reduceMul, Nat.reduceBEq, Nat.reducePow, Int.zero_add, Int.reduceAdd, Int.reduceSub, Int.reduceLT, Int.reduceLE, Int.reduceToNat, Int.reduceNeg, Nat.reduceSub]); repeat (simp (disch := omega) only [idx_map, idx_nat, i64w]; try (simp only [push_cast, reduceIte, reduceDIte, reduceCtorEq, Nat.reduceLT, Nat.reduceLeDiff, Nat.reduceEqDiff, Nat.reduceAdd, Nat.reduceMul, Nat.reduceBEq, Nat.reducePow, Int.zero_add, Int.reduceAdd, Int.reduceSub, Int.reduceLT, Int.reduceLE, Int.reduceToNat, Int.reduceNeg, Nat.reduceSub]))))
  · rintro k A H ⟨i, h1, h2, rfl, rfl⟩
    (repeat' (first | refine swp_seq [0, 1, 4, 5, 7, 10, 11, 12, 13] ?_ | (first | refine rF (fun hf => ?_) | refine tN ?_ | refine swp_skip ?_ | refine swp_ret ?_ | refine swp_exit ?_ | refine swp_block ?_ | refine swp_scope ?_ | refine thenK_ret ?_ | refine thenK_exit ?_ | refine blockK_normal ?_ | refine blockK_ret ?_ | refine blockK_here ?_ | refine bX ?_ | refine scopeK_normal ?_ | refine scopeK_ret ?_ | refine scopeK_exit ?_ | refine loopK_ret ?_ | refine loopK_exit ?_ | refine dF mixed ?_ | (refine cB (fun hc => ?_) (fun hc => ?_) <;> first | exact False.elim hc | exact absurd hc Bool.false_ne_true | exact absurd hc.symm Bool.false_ne_true | skip) | refine cU ?_ ?_)))
    · (refine lN [0] ?_)
      exact ⟨_, by omega, i + 1, by omega, rfl, by rw [numU_snoc v i (by omega)]; rfl, rfl⟩
    · (((simp only [push_cast, reduceIte, reduceDIte, reduceCtorEq, Nat.reduceLT, Nat.reduceLeDiff, Nat.reduceEqDiff, Nat.reduceAdd, Nat.reduceMul, Nat.reduceBEq, Nat.reducePow, Int.zero_add, Int.reduceAdd, Int.reduceSub, Int.reduceLT, Int.reduceLE, Int.reduceToNat, Int.reduceNeg, Nat.reduceSub]); repeat (simp (disch := omega) only [idx_map, idx_nat, i64w]; try (simp only [push_cast, reduceIte, reduceDIte, reduceCtorEq, Nat.reduceLT, Nat.reduceLeDiff, Nat.reduceEqDiff, Nat.reduceAdd, Nat.reduceMul, Nat.reduceBEq, Nat.reducePow, Int.zero_add, Int.reduceAdd, Int.reduceSub, Int.reduceLT, Int.reduceLE, Int.reduceToNat, Int.reduceNeg, Nat.reduceSub]))))
      rw [List.take_of_length_le (by omega)]
set_option maxHeartbeats 1000000 in
theorem put_f (l : List UInt8) (n : Int) (s : Nat) (m : Nat) (hs : s ≤ 8) (hl : l.length ≤ 281474976710) :
    DCallsG Try.prog 43 [0] [.gl 0, li n, li s] (hget [(0, byL l)]) m (.gl m) (hget [(m, byL (l ++ beBytes s (un64 n)))]) := by
  refine contract (n := 24) (rs := [.tmp 6]) (ts := [27]) Try.func43 rfl (by decide) 0 1 [] [0] [0] (.gl 0) [(0, byL (l ++ beBytes s (un64 n)))] (by (exact SD)) (by (exact SD)) ?_
  (repeat' (first | refine swp_seq [0, 1, 2, 6, 7, 11] ?_ | (first | refine rF (fun hf => ?_) | refine tN ?_ | refine swp_skip ?_ | refine swp_ret ?_ | refine swp_exit ?_ | refine swp_block ?_ | refine swp_scope ?_ | refine thenK_ret ?_ | refine thenK_exit ?_ | refine blockK_normal ?_ | refine blockK_ret ?_ | refine blockK_here ?_ | refine bX ?_ | refine scopeK_normal ?_ | refine scopeK_ret ?_ | refine scopeK_exit ?_ | refine loopK_ret ?_ | refine loopK_exit ?_ | refine dF mixed ?_ | (refine cB (fun hc => ?_) (fun hc => ?_) <;> first | exact False.elim hc | exact absurd hc Bool.false_ne_true | exact absurd hc.symm Bool.false_ne_true | skip) | refine cU ?_ ?_)))
  refine loop_swp [0, 1, 7] [0] 1 (fun k A H => ∃ (i : Nat) (q : List UInt8), i ≤ s ∧ k = i ∧ q.length + i = s ∧ q ++ beBytes i (un64 n) = beBytes s (un64 n) ∧ A = [(0, .gl 0), (1, li n), (7, li (i - 1))] ∧ H = [(0, byL (l ++ q))]) (by omega) ?_ ?_ ?_
  · rintro k A H ⟨i, q, h1, h2, h3, h4, rfl, rfl⟩
    exact ⟨by (exact SD), by (exact SD)⟩
  · refine ⟨_, s, [], by omega, rfl, by simp, rfl, ?_, ?_⟩
    · (((simp only [push_cast, reduceIte, reduceDIte, reduceCtorEq, Nat.reduceLT, Nat.reduceLeDiff, Nat.reduceEqDiff, Nat.reduceAdd, Nat.reduceMul, Nat.reduceBEq, Nat.reducePow, Int.zero_add, Int.reduceAdd, Int.reduceSub, Int.reduceLT, Int.reduceLE, Int.reduceToNat, Int.reduceNeg, Nat.reduceSub]); repeat (simp (disch := omega) only [idx_map, idx_nat, i64w]; try (simp only [push_cast, reduceIte, reduceDIte, reduceCtorEq, Nat.reduceLT, Nat.reduceLeDiff, Nat.reduceEqDiff, Nat.reduceAdd, Nat.reduceMul, Nat.reduceBEq, Nat.reducePow, Int.zero_add, Int.reduceAdd, Int.reduceSub, Int.reduceLT, Int.reduceLE, Int.reduceToNat, Int.reduceNeg, Nat.reduceSub]))))
    · (((simp only [push_cast, reduceIte, reduceDIte, reduceCtorEq, Nat.reduceLT, Nat.reduceLeDiff, Nat.reduceEqDiff, Nat.reduceAdd, Nat.reduceMul, Nat.reduceBEq, Nat.reducePow, Int.zero_add, Int.reduceAdd, Int.reduceSub, Int.reduceLT, Int.reduceLE, Int.reduceToNat, Int.reduceNeg, Nat.reduceSub]); repeat (simp (disch := omega) only [idx_map, idx_nat, i64w]; try (simp only [push_cast, reduceIte, reduceDIte, reduceCtorEq, Nat.reduceLT, Nat.reduceLeDiff, Nat.reduceEqDiff, Nat.reduceAdd, Nat.reduceMul, Nat.reduceBEq, Nat.reducePow, Int.zero_add, Int.reduceAdd, Int.reduceSub, Int.reduceLT, Int.reduceLE, Int.reduceToNat, Int.reduceNeg, Nat.reduceSub]))))
  · rintro k A H ⟨i, q, h1, h2, h3, h4, rfl, rfl⟩
    (repeat' (first | refine swp_seq [0, 1, 2, 6, 7, 11] ?_ | (first | refine rF (fun hf => ?_) | refine tN ?_ | refine swp_skip ?_ | refine swp_ret ?_ | refine swp_exit ?_ | refine swp_block ?_ | refine swp_scope ?_ | refine thenK_ret ?_ | refine thenK_exit ?_ | refine blockK_normal ?_ | refine blockK_ret ?_ | refine blockK_here ?_ | refine bX ?_ | refine scopeK_normal ?_ | refine scopeK_ret ?_ | refine scopeK_exit ?_ | refine loopK_ret ?_ | refine loopK_exit ?_ | refine dF mixed ?_ | (refine cB (fun hc => ?_) (fun hc => ?_) <;> first | exact False.elim hc | exact absurd hc Bool.false_ne_true | exact absurd hc.symm Bool.false_ne_true | skip) | refine cU ?_ ?_)))
    · (refine lN [0] ?_)
      obtain ⟨j, rfl⟩ : ∃ j, i = j + 1 := ⟨i - 1, by omega⟩
      have e : ((j + 1 : Nat) : Int) - 1 = j := by omega
      rw [e, shr_u8 n j (by omega)]
      refine ⟨_, by omega, j, q ++ [UInt8.ofNat (un64 n / 256 ^ j)], by omega, rfl, by simp; omega, by rw [← h4]; simp [beBytes], rfl, ?_⟩
      simp [rows, byRow]
    · (((simp only [push_cast, reduceIte, reduceDIte, reduceCtorEq, Nat.reduceLT, Nat.reduceLeDiff, Nat.reduceEqDiff, Nat.reduceAdd, Nat.reduceMul, Nat.reduceBEq, Nat.reducePow, Int.zero_add, Int.reduceAdd, Int.reduceSub, Int.reduceLT, Int.reduceLE, Int.reduceToNat, Int.reduceNeg, Nat.reduceSub]); repeat (simp (disch := omega) only [idx_map, idx_nat, i64w]; try (simp only [push_cast, reduceIte, reduceDIte, reduceCtorEq, Nat.reduceLT, Nat.reduceLeDiff, Nat.reduceEqDiff, Nat.reduceAdd, Nat.reduceMul, Nat.reduceBEq, Nat.reducePow, Int.zero_add, Int.reduceAdd, Int.reduceSub, Int.reduceLT, Int.reduceLE, Int.reduceToNat, Int.reduceNeg, Nat.reduceSub]))))
      obtain rfl : i = 0 := by omega
      simp only [beBytes, List.append_nil] at h4
      rw [h4]

end Go.Proofs.Ytkhddlhhbanebaa
