/-
  Contracts of functions of the program, over the engine.
  No condition.
-/
import Derived.Test.YtkhddlhhbanebaaTz
import Derived.Test.YtkhddlhhbanebaaEngO
import Derived.Test.YtkhddlhhbanebaaPl0
import Derived.Test.YtkhddlhhbanebaaEngW
namespace Go.Proofs.Ytkhddlhhbanebaa
open Go.Eng
set_option linter.all false
theorem mixed : Try.prog.follows .mixedOrders = true := by kernel_rfl
def rd (l : List UInt8) (e : Bool) : HV := .blk 71 [bys l, lb e]
def tkE (l : List UInt8) (e : Bool) (n : Nat) : Bool := e || decide (l.length < n)
def tkV (l : List UInt8) (e : Bool) (n : Nat) : List UInt8 := if tkE l e n = true then [] else l.take n
def tkL (l : List UInt8) (e : Bool) (n : Nat) : List UInt8 := if tkE l e n = true then l else l.drop n
set_option maxHeartbeats 1000000 in
theorem take_f (l : List UInt8) (e : Bool) (n : Nat) (m : Nat) (hn : n ≤ 281474976710656) :
    DCalls Try.prog 39 [.ptr 0 0, li n] (hget [(0, rd l e)]) m (bys (tkV l e n)) (hget [(0, rd (tkL l e n) (tkE l e n))]) := by
  refine contract (n := 42) (rs := [.tmp 4]) (ts := [27]) Try.func39 rfl (by decide) 1 1 [] [] [] (bys (tkV l e n)) [(0, rd (tkL l e n) (tkE l e n))] (by simp only [rd]; (exact SD)) (by simp only [rd]; (exact SD)) ?_
  unfold tkV tkL tkE
  simp only [rd]
  (repeat' (first | refine swp_seq [0,1,4,5,25] ?_ | (first | refine rF (fun hf => ?_) | refine tN ?_ | refine swp_skip ?_ | refine swp_ret ?_ | refine swp_exit ?_ | refine swp_block ?_ | refine swp_scope ?_ | refine thenK_ret ?_ | refine thenK_exit ?_ | refine blockK_normal ?_ | refine blockK_ret ?_ | refine blockK_here ?_ | refine bX ?_ | refine scopeK_normal ?_ | refine scopeK_ret ?_ | refine scopeK_exit ?_ | refine loopK_ret ?_ | refine loopK_exit ?_ | refine dF mixed ?_ | (refine cB (fun hc => ?_) (fun hc => ?_) <;> first | exact False.elim hc | exact absurd hc Bool.false_ne_true | exact absurd hc.symm Bool.false_ne_true | skip) | refine cU ?_ ?_)))
  · (((simp only [push_cast, reduceIte, reduceDIte, reduceCtorEq, Nat.reduceLT, Nat.reduceLeDiff, Nat.reduceEqDiff, Nat.reduceAdd, Nat.reduceMul, Nat.reduceBEq, Nat.reducePow, Int.zero_add, Int.reduceAdd, Int.reduceSub, Int.reduceLT, Int.reduceLE, Int.reduceToNat, Int.reduceNeg, Nat.reduceSub]); repeat (simp (disch := omega) only [idx_map, idx_nat, i64w]; try (simp only [push_cast, reduceIte, reduceDIte, reduceCtorEq, Nat.reduceLT, Nat.reduceLeDiff, Nat.reduceEqDiff, Nat.reduceAdd, Nat.reduceMul, Nat.reduceBEq, Nat.reducePow, Int.zero_add, Int.reduceAdd, Int.reduceSub, Int.reduceLT, Int.reduceLE, Int.reduceToNat, Int.reduceNeg, Nat.reduceSub]))))
    have hb : (e || decide (l.length < n)) = true := by rcases hc with h | h <;> simp [h] <;> omega
    have hb2 : (e || decide ((l.length : Int) < n)) = true := by rcases hc with h | h <;> simp [h] <;> omega
    rw [hb, hb2]
    exact ⟨rfl, rfl⟩
  · (((simp only [push_cast, reduceIte, reduceDIte, reduceCtorEq, Nat.reduceLT, Nat.reduceLeDiff, Nat.reduceEqDiff, Nat.reduceAdd, Nat.reduceMul, Nat.reduceBEq, Nat.reducePow, Int.zero_add, Int.reduceAdd, Int.reduceSub, Int.reduceLT, Int.reduceLE, Int.reduceToNat, Int.reduceNeg, Nat.reduceSub]); repeat (simp (disch := omega) only [idx_map, idx_nat, i64w]; try (simp only [push_cast, reduceIte, reduceDIte, reduceCtorEq, Nat.reduceLT, Nat.reduceLeDiff, Nat.reduceEqDiff, Nat.reduceAdd, Nat.reduceMul, Nat.reduceBEq, Nat.reducePow, Int.zero_add, Int.reduceAdd, Int.reduceSub, Int.reduceLT, Int.reduceLE, Int.reduceToNat, Int.reduceNeg, Nat.reduceSub]))))
    have hb : (e || decide (l.length < n)) = false := by simp [hc.1] <;> omega
    have hb2 : (e || decide ((l.length : Int) < n)) = false := by simp [hc.1] <;> omega
    rw [hb, hb2, List.take_of_length_le (l := l.drop n) (by simp)]
    exact ⟨rfl, rfl⟩

end Go.Proofs.Ytkhddlhhbanebaa
