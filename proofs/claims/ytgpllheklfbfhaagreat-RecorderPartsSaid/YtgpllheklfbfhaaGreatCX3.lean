/-
  Contracts of functions of the program, over the engine.
  No condition.
-/
import Derived.Test.YtgpllheklfbfhaaGreatCX0
import Derived.Test.YtgpllheklfbfhaaGreatCX1
namespace Go.Proofs.YtgpllheklfbfhaaGreat
open Go.Eng
set_option linter.all false
attribute [local irreducible] DCallsG SWp Fct CallQ XCallQ LCallQ XLCallQ drun xrun
set_option maxHeartbeats 64000000
set_option maxRecDepth 20000

theorem found_f (n : Net) (k : Int) (m : Nat) : Pu 95 [netD n, li k] m (if 0 <= k then .tup [li k, li 0] else .tup [li 0, li 9]) := by
  by_cases h : k < 0
  · rw [if_neg (by omega)];(have:=NeI h);refine pcN 9 [.tmp 4,.tmp 5] [3,45] Tryz.func95 rfl [] ?_;(repeat' first|refine stW [0,1,4,5,7] ?_|refine fctI fun hf=>?_|refine twI (fun hc=>?_) fun hc=>?_);exact DVR
  · rw [if_pos (by omega)];(have:=NeI h);refine pcN 9 [.tmp 4,.tmp 5] [3,45] Tryz.func95 rfl [] ?_;(repeat' first|refine stW [0,1,4,5,7] ?_|refine fctI fun hf=>?_|refine twI (fun hc=>?_) fun hc=>?_);exact DVR
theorem netLink_f (n : Net) (s : ByteArray) (m : Nat) (no : netOk n) (nb : netB n = true) : Pu 51 [netD n, ls s] m (if 0 <= linkIx n.links s then .tup [li (linkIx n.links s), li 0] else .tup [li 0, li 9]) := by
  have c1 := fun m => netValid_f n m no
  rw [nb] at c1;have c2 := fun m => link_f n s m no.2.1
  have c3 := fun m => found_f n (linkIx n.links s) m
  generalize linkIx n.links s = k at *
  by_cases h : 0 <= k
  · rw [if_pos h] at c3 ⊢;refine pcN 16 [.tmp 4,.tmp 5] [3,45] Tryz.func51 rfl [] ?_;(repeat' first|refine stW [0,1,2,4,5,8] ?_|refine fctI fun hf=>?_|refine twI (fun hc=>?_) fun hc=>?_);exact DVR
  · rw [if_neg h] at c3 ⊢;refine pcN 16 [.tmp 4,.tmp 5] [3,45] Tryz.func51 rfl [] ?_;(repeat' first|refine stW [0,1,2,4,5,8] ?_|refine fctI fun hf=>?_|refine twI (fun hc=>?_) fun hc=>?_);exact DVR
end Go.Proofs.YtgpllheklfbfhaaGreat
