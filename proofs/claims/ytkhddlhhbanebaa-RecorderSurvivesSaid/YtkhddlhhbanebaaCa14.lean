/-
  Contracts of functions of the program, over the engine.
  No condition.
-/
import Derived.Test.YtkhddlhhbanebaaCa13
namespace Go.Proofs.Ytkhddlhhbanebaa
open Go.Eng
set_option linter.all false

def recBytes (r : Rec) : List UInt8 := UInt8.ofNat (un64 r.kind) ::
  (if r.kind = 1 then beBytes 4 (un64 r.seconds) ++ beBytes 2 (un64 r.inflows.length) ++ r.inflows.flatMap (fun n => beBytes 8 (un64 n))
   else if r.kind = 2 then beBytes 1 (un64 r.link.size) ++ r.link.data.toList ++ beBytes 2 (un64 r.setting)
   else if r.kind = 3 then beBytes 1 (un64 r.msg.node.size) ++ r.msg.node.data.toList ++ beBytes 4 (un64 r.msg.number) ++ beBytes 8 (un64 r.msg.att) ++ beBytes 8 (un64 r.msg.arrived) ++ beBytes 8 (un64 r.msg.level)
   else beBytes 2 (un64 r.text.size) ++ r.text.data.toList)
def flat8 (l : List Int) : List UInt8 := l.flatMap (fun n => beBytes 8 (un64 n))
theorem flat8_len (l : List Int) : (flat8 l).length = 8 * l.length := by
  induction l with
  | nil => rfl
  | cons a l ih => unfold flat8 at *; simp [beBytes_length, ih]; omega
theorem flat8_snoc (l : List Int) (i : Nat) (h : i < l.length) : flat8 (l.take (i + 1)) = flat8 (l.take i) ++ beBytes 8 (un64 (l.getD i default)) := by
  unfold flat8
  rw [List.take_succ_eq_append_getElem h, List.flatMap_append, List.getD_eq_getElem?_getD, List.getElem?_eq_getElem h]
  simp
theorem kindRow (k : Int) : HV.lst 5 1 [[DV.p (PV.lit (Value.int IntKind.u8 (IntKind.u8.wrap k)))]] = byL [UInt8.ofNat (un64 k)] := by
  have : (IntKind.u8.wrap k) = ((UInt8.ofNat (un64 k)).toNat : Int) := by
    have h2 : (UInt8.ofNat (un64 k)).toNat = un64 k % 256 := by simp
    rw [h2]
    simp only [IntKind.wrap_u8, un64]; omega
  rw [this]; rfl
theorem recB1 {r : Rec} (h : r.kind = 1) : recBytes r = UInt8.ofNat (un64 r.kind) :: (beBytes 4 (un64 r.seconds) ++ beBytes 2 (un64 r.inflows.length) ++ flat8 r.inflows) := by unfold recBytes; rw [if_pos h]; rfl
theorem recB2 {r : Rec} (h : r.kind = 2) : recBytes r = UInt8.ofNat (un64 r.kind) :: (beBytes 1 (un64 r.link.size) ++ r.link.data.toList ++ beBytes 2 (un64 r.setting)) := by unfold recBytes; rw [if_neg (by omega), if_pos h]
theorem recB3 {r : Rec} (h : r.kind = 3) : recBytes r = UInt8.ofNat (un64 r.kind) :: (beBytes 1 (un64 r.msg.node.size) ++ r.msg.node.data.toList ++ beBytes 4 (un64 r.msg.number) ++ beBytes 8 (un64 r.msg.att) ++ beBytes 8 (un64 r.msg.arrived) ++ beBytes 8 (un64 r.msg.level)) := by unfold recBytes; rw [if_neg (by omega), if_neg (by omega), if_pos h]
theorem recB4 {r : Rec} (h1 : ¬ r.kind = 1) (h2 : ¬ r.kind = 2) (h3 : ¬ r.kind = 3) : recBytes r = UInt8.ofNat (un64 r.kind) :: (beBytes 2 (un64 r.text.size) ++ r.text.data.toList) := by unfold recBytes; rw [if_neg h1, if_neg h2, if_neg h3]
set_option maxHeartbeats 8000000 in
theorem bytes_f (r : Rec) (m : Nat) (hr : recOk r) (hi : r.inflows.length ≤ 1048576) (hl : r.link.size ≤ 1048576) (hn : r.msg.node.size ≤ 1048576) (ht : r.text.size ≤ 1048576) : DCalls Try.prog 16 [recD r] (hget []) m (bys (recBytes r)) (hget []) := by
  obtain ⟨h1, h2, h3, h4⟩ := id hr
  have b1 := bsz r.link
  have b2 := bsz r.msg.node
  have b3 := bsz r.text
  have c1 : r.link.data.size = r.link.size := rfl
  have c2 : r.msg.node.data.size = r.msg.node.size := rfl
  have c3 : r.text.data.size = r.text.size := rfl
  refine pureC (n := 94) (rs := [.tmp 2]) (ts := [27]) Try.func16 rfl (by decide) [160, 216, 152, 400] (by (exact SD)) ?_
  (repeat' (first | refine swp_seq [0, 1, 2, 3, 4, 10, 20, 35, 45, 60] ?_ | (first | refine rF (fun hf => ?_) | refine tN ?_ | refine swp_skip ?_ | refine swp_ret ?_ | refine swp_exit ?_ | refine swp_block ?_ | refine swp_scope ?_ | refine thenK_ret ?_ | refine thenK_exit ?_ | refine blockK_normal ?_ | refine blockK_ret ?_ | refine blockK_here ?_ | refine bX ?_ | refine scopeK_normal ?_ | refine scopeK_ret ?_ | refine scopeK_exit ?_ | refine loopK_ret ?_ | refine loopK_exit ?_ | refine dF mixed ?_ | (refine cB (fun hc => ?_) (fun hc => ?_) <;> first | exact False.elim hc | exact absurd hc Bool.false_ne_true | exact absurd hc.symm Bool.false_ne_true | skip) | refine cU ?_ ?_)))
  · rw [kindRow]
    (refine rC (fun hf => ?_))
    (refine cT [40] (rput_f [UInt8.ofNat (un64 r.kind)] r.seconds 4 1 (by omega) (by simp)) (fun hf => ?_))
    (refine drun_end ?_)
    (repeat' (first | refine swp_seq [0, 1, 2, 3, 4, 10, 20, 35, 45, 60] ?_ | (first | refine rF (fun hf => ?_) | refine tN ?_ | refine swp_skip ?_ | refine swp_ret ?_ | refine swp_exit ?_ | refine swp_block ?_ | refine swp_scope ?_ | refine thenK_ret ?_ | refine thenK_exit ?_ | refine blockK_normal ?_ | refine blockK_ret ?_ | refine blockK_here ?_ | refine bX ?_ | refine scopeK_normal ?_ | refine scopeK_ret ?_ | refine scopeK_exit ?_ | refine loopK_ret ?_ | refine loopK_exit ?_ | refine dF mixed ?_ | (refine cB (fun hc => ?_) (fun hc => ?_) <;> first | exact False.elim hc | exact absurd hc Bool.false_ne_true | exact absurd hc.symm Bool.false_ne_true | skip) | refine cU ?_ ?_)))
    (refine rC (fun hf => ?_))
    (refine cT [112] (rput_f ([UInt8.ofNat (un64 r.kind)] ++ beBytes 4 (un64 r.seconds)) r.inflows.length 2 1 (by omega) (by simp [beBytes_length])) (fun hf => ?_))
    (refine drun_end ?_)
    (repeat' (first | refine swp_seq [0, 1, 2, 3, 4, 10, 20, 35, 45, 60] ?_ | (first | refine rF (fun hf => ?_) | refine tN ?_ | refine swp_skip ?_ | refine swp_ret ?_ | refine swp_exit ?_ | refine swp_block ?_ | refine swp_scope ?_ | refine thenK_ret ?_ | refine thenK_exit ?_ | refine blockK_normal ?_ | refine blockK_ret ?_ | refine blockK_here ?_ | refine bX ?_ | refine scopeK_normal ?_ | refine scopeK_ret ?_ | refine scopeK_exit ?_ | refine loopK_ret ?_ | refine loopK_exit ?_ | refine dF mixed ?_ | (refine cB (fun hc => ?_) (fun hc => ?_) <;> first | exact False.elim hc | exact absurd hc Bool.false_ne_true | exact absurd hc.symm Bool.false_ne_true | skip) | refine cU ?_ ?_)))
    obtain ⟨p, hp⟩ : ∃ p, p = UInt8.ofNat (un64 r.kind) :: (beBytes 4 (un64 r.seconds) ++ beBytes 2 (un64 r.inflows.length)) := ⟨_, rfl⟩
    rw [← hp]
    have hpl : p.length = 7 := by rw [hp]; simp [beBytes_length]
    refine loop_swp [1, 2, 3, 4] [0, 160] 161 (fun q A H => ∃ i : Nat, i ≤ r.inflows.length ∧ q = r.inflows.length - i ∧ A = [(1, .ptr 0 0), (2, nilS), (3, .gl 160), (4, li i)] ∧ H = [(0, .blk 26 (recC r)), (160, byL (p ++ flat8 (r.inflows.take i)))]) (by omega) ?_ ?_ ?_
    · rintro q A H ⟨i, g1, g2, rfl, rfl⟩
      exact ⟨by (exact SD), by (exact SD)⟩
    · refine ⟨_, 0, by omega, rfl, ?_, ?_⟩
      · (((simp only [push_cast, reduceIte, reduceDIte, reduceCtorEq, Nat.reduceLT, Nat.reduceLeDiff, Nat.reduceEqDiff, Nat.reduceAdd, Nat.reduceMul, Nat.reduceBEq, Nat.reducePow, Int.zero_add, Int.reduceAdd, Int.reduceSub, Int.reduceLT, Int.reduceLE, Int.reduceToNat, Int.reduceNeg, Nat.reduceSub]); repeat (simp (disch := omega) only [idx_map, idx_nat, i64w]; try (simp only [push_cast, reduceIte, reduceDIte, reduceCtorEq, Nat.reduceLT, Nat.reduceLeDiff, Nat.reduceEqDiff, Nat.reduceAdd, Nat.reduceMul, Nat.reduceBEq, Nat.reducePow, Int.zero_add, Int.reduceAdd, Int.reduceSub, Int.reduceLT, Int.reduceLE, Int.reduceToNat, Int.reduceNeg, Nat.reduceSub]))))
      · show _ = [(0, HV.blk 26 (recC r)), (160, byL (p ++ []))]
        rw [List.append_nil]
        (((simp only [push_cast, reduceIte, reduceDIte, reduceCtorEq, Nat.reduceLT, Nat.reduceLeDiff, Nat.reduceEqDiff, Nat.reduceAdd, Nat.reduceMul, Nat.reduceBEq, Nat.reducePow, Int.zero_add, Int.reduceAdd, Int.reduceSub, Int.reduceLT, Int.reduceLE, Int.reduceToNat, Int.reduceNeg, Nat.reduceSub]); repeat (simp (disch := omega) only [idx_map, idx_nat, i64w]; try (simp only [push_cast, reduceIte, reduceDIte, reduceCtorEq, Nat.reduceLT, Nat.reduceLeDiff, Nat.reduceEqDiff, Nat.reduceAdd, Nat.reduceMul, Nat.reduceBEq, Nat.reducePow, Int.zero_add, Int.reduceAdd, Int.reduceSub, Int.reduceLT, Int.reduceLE, Int.reduceToNat, Int.reduceNeg, Nat.reduceSub]))))
    · rintro q A H ⟨i, g1, g2, rfl, rfl⟩
      have gl := flat8_len (r.inflows.take i)
      rw [List.length_take] at gl
      (repeat' (first | refine swp_seq [0, 1, 2, 3, 4, 10, 20, 35, 45, 60] ?_ | (first | refine rF (fun hf => ?_) | refine tN ?_ | refine swp_skip ?_ | refine swp_ret ?_ | refine swp_exit ?_ | refine swp_block ?_ | refine swp_scope ?_ | refine thenK_ret ?_ | refine thenK_exit ?_ | refine blockK_normal ?_ | refine blockK_ret ?_ | refine blockK_here ?_ | refine bX ?_ | refine scopeK_normal ?_ | refine scopeK_ret ?_ | refine scopeK_exit ?_ | refine loopK_ret ?_ | refine loopK_exit ?_ | refine dF mixed ?_ | (refine cB (fun hc => ?_) (fun hc => ?_) <;> first | exact False.elim hc | exact absurd hc Bool.false_ne_true | exact absurd hc.symm Bool.false_ne_true | skip) | refine cU ?_ ?_)))
      · (refine rC (fun hf => ?_))
        (refine cT [160] (rput_f (p ++ flat8 (r.inflows.take i)) (r.inflows.getD i default) 8 1 (by omega) (by simp; omega)) (fun hf => ?_))
        (refine drun_end ?_)
        (repeat' (first | refine swp_seq [0, 1, 2, 3, 4, 10, 20, 35, 45, 60] ?_ | (first | refine rF (fun hf => ?_) | refine tN ?_ | refine swp_skip ?_ | refine swp_ret ?_ | refine swp_exit ?_ | refine swp_block ?_ | refine swp_scope ?_ | refine thenK_ret ?_ | refine thenK_exit ?_ | refine blockK_normal ?_ | refine blockK_ret ?_ | refine blockK_here ?_ | refine bX ?_ | refine scopeK_normal ?_ | refine scopeK_ret ?_ | refine scopeK_exit ?_ | refine loopK_ret ?_ | refine loopK_exit ?_ | refine dF mixed ?_ | (refine cB (fun hc => ?_) (fun hc => ?_) <;> first | exact False.elim hc | exact absurd hc Bool.false_ne_true | exact absurd hc.symm Bool.false_ne_true | skip) | refine cU ?_ ?_)))
        (refine lR 249 160 [0, 249] ?_)
        refine ⟨_, by omega, i + 1, by omega, rfl, rfl, ?_⟩
        rw [flat8_snoc r.inflows i (by omega), ← List.append_assoc]; rfl
      · (((simp only [push_cast, reduceIte, reduceDIte, reduceCtorEq, Nat.reduceLT, Nat.reduceLeDiff, Nat.reduceEqDiff, Nat.reduceAdd, Nat.reduceMul, Nat.reduceBEq, Nat.reducePow, Int.zero_add, Int.reduceAdd, Int.reduceSub, Int.reduceLT, Int.reduceLE, Int.reduceToNat, Int.reduceNeg, Nat.reduceSub]); repeat (simp (disch := omega) only [idx_map, idx_nat, i64w]; try (simp only [push_cast, reduceIte, reduceDIte, reduceCtorEq, Nat.reduceLT, Nat.reduceLeDiff, Nat.reduceEqDiff, Nat.reduceAdd, Nat.reduceMul, Nat.reduceBEq, Nat.reducePow, Int.zero_add, Int.reduceAdd, Int.reduceSub, Int.reduceLT, Int.reduceLE, Int.reduceToNat, Int.reduceNeg, Nat.reduceSub]))))
        rw [List.take_of_length_le (by omega), hp, recB1 (by assumption)]; rfl
  · rw [kindRow]
    (refine rC (fun hf => ?_))
    (refine cT [40] (rput_f [UInt8.ofNat (un64 r.kind)] r.link.size 1 1 (by omega) (by simp)) (fun hf => ?_))
    (refine drun_end ?_)
    (repeat' (first | refine swp_seq [0, 1, 2, 3, 4, 10, 20, 35, 45, 60] ?_ | (first | refine rF (fun hf => ?_) | refine tN ?_ | refine swp_skip ?_ | refine swp_ret ?_ | refine swp_exit ?_ | refine swp_block ?_ | refine swp_scope ?_ | refine thenK_ret ?_ | refine thenK_exit ?_ | refine blockK_normal ?_ | refine blockK_ret ?_ | refine blockK_here ?_ | refine bX ?_ | refine scopeK_normal ?_ | refine scopeK_ret ?_ | refine scopeK_exit ?_ | refine loopK_ret ?_ | refine loopK_exit ?_ | refine dF mixed ?_ | (refine cB (fun hc => ?_) (fun hc => ?_) <;> first | exact False.elim hc | exact absurd hc Bool.false_ne_true | exact absurd hc.symm Bool.false_ne_true | skip) | refine cU ?_ ?_)))
    (refine rC (fun hf => ?_))
    (refine cT [136] (rput_f (UInt8.ofNat (un64 r.kind) :: (beBytes 1 (un64 r.link.size) ++ r.link.data.toList)) r.setting 2 1 (by omega) (by simp [beBytes_length]; omega)) (fun hf => ?_))
    (refine drun_end ?_)
    (repeat' (first | refine swp_seq [0, 1, 2, 3, 4, 10, 20, 35, 45, 60] ?_ | (first | refine rF (fun hf => ?_) | refine tN ?_ | refine swp_skip ?_ | refine swp_ret ?_ | refine swp_exit ?_ | refine swp_block ?_ | refine swp_scope ?_ | refine thenK_ret ?_ | refine thenK_exit ?_ | refine blockK_normal ?_ | refine blockK_ret ?_ | refine blockK_here ?_ | refine bX ?_ | refine scopeK_normal ?_ | refine scopeK_ret ?_ | refine scopeK_exit ?_ | refine loopK_ret ?_ | refine loopK_exit ?_ | refine dF mixed ?_ | (refine cB (fun hc => ?_) (fun hc => ?_) <;> first | exact False.elim hc | exact absurd hc Bool.false_ne_true | exact absurd hc.symm Bool.false_ne_true | skip) | refine cU ?_ ?_)))
    (((simp only [push_cast, reduceIte, reduceDIte, reduceCtorEq, Nat.reduceLT, Nat.reduceLeDiff, Nat.reduceEqDiff, Nat.reduceAdd, Nat.reduceMul, Nat.reduceBEq, Nat.reducePow, Int.zero_add, Int.reduceAdd, Int.reduceSub, Int.reduceLT, Int.reduceLE, Int.reduceToNat, Int.reduceNeg, Nat.reduceSub]); repeat (simp (disch := omega) only [idx_map, idx_nat, i64w]; try (simp only [push_cast, reduceIte, reduceDIte, reduceCtorEq, Nat.reduceLT, Nat.reduceLeDiff, Nat.reduceEqDiff, Nat.reduceAdd, Nat.reduceMul, Nat.reduceBEq, Nat.reducePow, Int.zero_add, Int.reduceAdd, Int.reduceSub, Int.reduceLT, Int.reduceLE, Int.reduceToNat, Int.reduceNeg, Nat.reduceSub]))))
    rw [recB2 (by assumption)]; rfl
  · rw [kindRow]
    (refine rC (fun hf => ?_))
    (refine cT [40] (rput_f [UInt8.ofNat (un64 r.kind)] r.msg.node.size 1 1 (by omega) (by simp)) (fun hf => ?_))
    (refine drun_end ?_)
    (repeat' (first | refine swp_seq [0, 1, 2, 3, 4, 10, 20, 35, 45, 60] ?_ | (first | refine rF (fun hf => ?_) | refine tN ?_ | refine swp_skip ?_ | refine swp_ret ?_ | refine swp_exit ?_ | refine swp_block ?_ | refine swp_scope ?_ | refine thenK_ret ?_ | refine thenK_exit ?_ | refine blockK_normal ?_ | refine blockK_ret ?_ | refine blockK_here ?_ | refine bX ?_ | refine scopeK_normal ?_ | refine scopeK_ret ?_ | refine scopeK_exit ?_ | refine loopK_ret ?_ | refine loopK_exit ?_ | refine dF mixed ?_ | (refine cB (fun hc => ?_) (fun hc => ?_) <;> first | exact False.elim hc | exact absurd hc Bool.false_ne_true | exact absurd hc.symm Bool.false_ne_true | skip) | refine cU ?_ ?_)))
    (refine rC (fun hf => ?_))
    (refine cT [160] (rput_f (UInt8.ofNat (un64 r.kind) :: (beBytes 1 (un64 r.msg.node.size) ++ r.msg.node.data.toList)) r.msg.number 4 1 (by omega) (by simp [beBytes_length]; omega)) (fun hf => ?_))
    (refine drun_end ?_)
    (repeat' (first | refine swp_seq [0, 1, 2, 3, 4, 10, 20, 35, 45, 60] ?_ | (first | refine rF (fun hf => ?_) | refine tN ?_ | refine swp_skip ?_ | refine swp_ret ?_ | refine swp_exit ?_ | refine swp_block ?_ | refine swp_scope ?_ | refine thenK_ret ?_ | refine thenK_exit ?_ | refine blockK_normal ?_ | refine blockK_ret ?_ | refine blockK_here ?_ | refine bX ?_ | refine scopeK_normal ?_ | refine scopeK_ret ?_ | refine scopeK_exit ?_ | refine loopK_ret ?_ | refine loopK_exit ?_ | refine dF mixed ?_ | (refine cB (fun hc => ?_) (fun hc => ?_) <;> first | exact False.elim hc | exact absurd hc Bool.false_ne_true | exact absurd hc.symm Bool.false_ne_true | skip) | refine cU ?_ ?_)))
    (refine rC (fun hf => ?_))
    (refine cT [256] (rput_f (UInt8.ofNat (un64 r.kind) :: (beBytes 1 (un64 r.msg.node.size) ++ r.msg.node.data.toList ++ beBytes 4 (un64 r.msg.number))) r.msg.att 8 1 (by omega) (by simp [beBytes_length]; omega)) (fun hf => ?_))
    (refine drun_end ?_)
    (repeat' (first | refine swp_seq [0, 1, 2, 3, 4, 10, 20, 35, 45, 60] ?_ | (first | refine rF (fun hf => ?_) | refine tN ?_ | refine swp_skip ?_ | refine swp_ret ?_ | refine swp_exit ?_ | refine swp_block ?_ | refine swp_scope ?_ | refine thenK_ret ?_ | refine thenK_exit ?_ | refine blockK_normal ?_ | refine blockK_ret ?_ | refine blockK_here ?_ | refine bX ?_ | refine scopeK_normal ?_ | refine scopeK_ret ?_ | refine scopeK_exit ?_ | refine loopK_ret ?_ | refine loopK_exit ?_ | refine dF mixed ?_ | (refine cB (fun hc => ?_) (fun hc => ?_) <;> first | exact False.elim hc | exact absurd hc Bool.false_ne_true | exact absurd hc.symm Bool.false_ne_true | skip) | refine cU ?_ ?_)))
    (refine rC (fun hf => ?_))
    (refine cT [304] (rput_f (UInt8.ofNat (un64 r.kind) :: (beBytes 1 (un64 r.msg.node.size) ++ r.msg.node.data.toList ++ beBytes 4 (un64 r.msg.number) ++ beBytes 8 (un64 r.msg.att))) r.msg.arrived 8 1 (by omega) (by simp [beBytes_length]; omega)) (fun hf => ?_))
    (refine drun_end ?_)
    (repeat' (first | refine swp_seq [0, 1, 2, 3, 4, 10, 20, 35, 45, 60] ?_ | (first | refine rF (fun hf => ?_) | refine tN ?_ | refine swp_skip ?_ | refine swp_ret ?_ | refine swp_exit ?_ | refine swp_block ?_ | refine swp_scope ?_ | refine thenK_ret ?_ | refine thenK_exit ?_ | refine blockK_normal ?_ | refine blockK_ret ?_ | refine blockK_here ?_ | refine bX ?_ | refine scopeK_normal ?_ | refine scopeK_ret ?_ | refine scopeK_exit ?_ | refine loopK_ret ?_ | refine loopK_exit ?_ | refine dF mixed ?_ | (refine cB (fun hc => ?_) (fun hc => ?_) <;> first | exact False.elim hc | exact absurd hc Bool.false_ne_true | exact absurd hc.symm Bool.false_ne_true | skip) | refine cU ?_ ?_)))
    (refine rC (fun hf => ?_))
    (refine cT [352] (rput_f (UInt8.ofNat (un64 r.kind) :: (beBytes 1 (un64 r.msg.node.size) ++ r.msg.node.data.toList ++ beBytes 4 (un64 r.msg.number) ++ beBytes 8 (un64 r.msg.att) ++ beBytes 8 (un64 r.msg.arrived))) r.msg.level 8 1 (by omega) (by simp [beBytes_length]; omega)) (fun hf => ?_))
    (refine drun_end ?_)
    (repeat' (first | refine swp_seq [0, 1, 2, 3, 4, 10, 20, 35, 45, 60] ?_ | (first | refine rF (fun hf => ?_) | refine tN ?_ | refine swp_skip ?_ | refine swp_ret ?_ | refine swp_exit ?_ | refine swp_block ?_ | refine swp_scope ?_ | refine thenK_ret ?_ | refine thenK_exit ?_ | refine blockK_normal ?_ | refine blockK_ret ?_ | refine blockK_here ?_ | refine bX ?_ | refine scopeK_normal ?_ | refine scopeK_ret ?_ | refine scopeK_exit ?_ | refine loopK_ret ?_ | refine loopK_exit ?_ | refine dF mixed ?_ | (refine cB (fun hc => ?_) (fun hc => ?_) <;> first | exact False.elim hc | exact absurd hc Bool.false_ne_true | exact absurd hc.symm Bool.false_ne_true | skip) | refine cU ?_ ?_)))
    (((simp only [push_cast, reduceIte, reduceDIte, reduceCtorEq, Nat.reduceLT, Nat.reduceLeDiff, Nat.reduceEqDiff, Nat.reduceAdd, Nat.reduceMul, Nat.reduceBEq, Nat.reducePow, Int.zero_add, Int.reduceAdd, Int.reduceSub, Int.reduceLT, Int.reduceLE, Int.reduceToNat, Int.reduceNeg, Nat.reduceSub]); repeat (simp (disch := omega) only [idx_map, idx_nat, i64w]; try (simp only [push_cast, reduceIte, reduceDIte, reduceCtorEq, Nat.reduceLT, Nat.reduceLeDiff, Nat.reduceEqDiff, Nat.reduceAdd, Nat.reduceMul, Nat.reduceBEq, Nat.reducePow, Int.zero_add, Int.reduceAdd, Int.reduceSub, Int.reduceLT, Int.reduceLE, Int.reduceToNat, Int.reduceNeg, Nat.reduceSub]))))
    rw [recB3 (by assumption)]; rfl
  · rw [kindRow]
    (refine rC (fun hf => ?_))
    (refine cT [40] (rput_f [UInt8.ofNat (un64 r.kind)] r.text.size 2 1 (by omega) (by simp)) (fun hf => ?_))
    (refine drun_end ?_)
    (repeat' (first | refine swp_seq [0, 1, 2, 3, 4, 10, 20, 35, 45, 60] ?_ | (first | refine rF (fun hf => ?_) | refine tN ?_ | refine swp_skip ?_ | refine swp_ret ?_ | refine swp_exit ?_ | refine swp_block ?_ | refine swp_scope ?_ | refine thenK_ret ?_ | refine thenK_exit ?_ | refine blockK_normal ?_ | refine blockK_ret ?_ | refine blockK_here ?_ | refine bX ?_ | refine scopeK_normal ?_ | refine scopeK_ret ?_ | refine scopeK_exit ?_ | refine loopK_ret ?_ | refine loopK_exit ?_ | refine dF mixed ?_ | (refine cB (fun hc => ?_) (fun hc => ?_) <;> first | exact False.elim hc | exact absurd hc Bool.false_ne_true | exact absurd hc.symm Bool.false_ne_true | skip) | refine cU ?_ ?_)))
    (((simp only [push_cast, reduceIte, reduceDIte, reduceCtorEq, Nat.reduceLT, Nat.reduceLeDiff, Nat.reduceEqDiff, Nat.reduceAdd, Nat.reduceMul, Nat.reduceBEq, Nat.reducePow, Int.zero_add, Int.reduceAdd, Int.reduceSub, Int.reduceLT, Int.reduceLE, Int.reduceToNat, Int.reduceNeg, Nat.reduceSub]); repeat (simp (disch := omega) only [idx_map, idx_nat, i64w]; try (simp only [push_cast, reduceIte, reduceDIte, reduceCtorEq, Nat.reduceLT, Nat.reduceLeDiff, Nat.reduceEqDiff, Nat.reduceAdd, Nat.reduceMul, Nat.reduceBEq, Nat.reducePow, Int.zero_add, Int.reduceAdd, Int.reduceSub, Int.reduceLT, Int.reduceLE, Int.reduceToNat, Int.reduceNeg, Nat.reduceSub]))))
    rw [recB4 (by assumption) (by assumption) (by assumption)]; rfl

end Go.Proofs.Ytkhddlhhbanebaa
