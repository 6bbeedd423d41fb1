/-
  Contracts of functions of the program, over the engine.
  No condition.
-/
import Derived.Test.YtkhddlhhbanebaaCa29
namespace Go.Proofs.Ytkhddlhhbanebaa
open Go.Eng
set_option linter.all false

theorem eget_keep_mem (A : LE) : ∀ (G : List Nat) (t : Nat), t ∈ G → eget (ekeep A G) t = eget A t
  | s :: G, t, h => by
    simp only [ekeep, eget]
    by_cases e : t = s
    · rw [if_pos e, e]
    · rw [if_neg e]; exact eget_keep_mem A G t ((List.mem_cons.1 h).resolve_left e)
theorem ekeep_keep (A : LE) (G : List Nat) : ∀ (L : List Nat), (∀ t, t ∈ L → t ∈ G) → ekeep (ekeep A G) L = ekeep A L
  | [], _ => rfl
  | s :: L, h => by
    simp only [ekeep]
    rw [eget_keep_mem A G s (h s (by simp)), ekeep_keep A G L fun t ht => h t (by simp [ht])]
theorem tail_cut {P : Program} {N pin nx : Nat} {A : LE} {H : LH} {G : List Nat} {Q : Exit → LE → LH → Nat → Prop} {y : Code} (L K : List Nat) (n0 : Nat) {A2 : LE} {H2 : LH} (hA : ekeep A L = A2) (hH : hkeep H K = H2) (hL : L.all (fun t => G.contains t) = true) (hp : pin ≤ n0)
    (uA : usesA n0 A2) (uH : usesH n0 H2) (h : SWp P N pin y Q A2 H2 n0) : thenK P N pin G y Q .normal A H nx := by
  refine thenK_normal rfl fun _ B hB a w hS => ?_
  have e := ekeep_keep A G L fun t ht => by
    have := List.all_eq_true.1 hL t ht
    simpa using this
  have := hS.reset (n0 := n0) L K (by rw [e, hA]; exact uA) (by rw [hH]; exact uH)
  rw [e, hA, hH] at this
  exact h hp B hB a w this
set_option maxHeartbeats 8000000 in
theorem survives_f (r : List Rec) (af0 sy ke : Int) (m : Nat) (hr : ∀ x ∈ r, recOk x) (hl : r.length ≤ 281474976710656) (ha : 0 ≤ af0 ∧ af0 ≤ 65535) (hke : 0 ≤ ke ∧ ke ≤ 4294967295) :
    DCalls Try.prog 7 [recs r, lv (.int .u16 af0), lv (.int .u16 sy), lv (.int .u32 ke)] (hget []) m (lb true) (hget []) := by
  refine pureC (n := 205) (rs := [.tmp 8]) (ts := [4]) Try.func7 rfl (by decide) [] (by (exact SD)) ?_
  (repeat' (first | refine swp_seq [0, 1, 2, 3, 8, 9, 10, 11, 12, 13, 14, 15, 16, 17, 18, 19, 20, 21, 22, 23, 24, 25, 26, 28, 39, 48, 49, 50, 51, 52, 63, 65, 72, 79, 81, 99, 155, 158] ?_ | (first | refine rF (fun hf => ?_) | refine tN ?_ | refine swp_skip ?_ | refine swp_ret ?_ | refine swp_exit ?_ | refine swp_block ?_ | refine swp_scope ?_ | refine thenK_ret ?_ | refine thenK_exit ?_ | refine blockK_normal ?_ | refine blockK_ret ?_ | refine blockK_here ?_ | refine bX ?_ | refine scopeK_normal ?_ | refine scopeK_ret ?_ | refine scopeK_exit ?_ | refine loopK_ret ?_ | refine loopK_exit ?_ | refine dF mixed ?_ | (refine cB (fun hc => ?_) (fun hc => ?_) <;> first | exact False.elim hc | exact absurd hc Bool.false_ne_true | exact absurd hc.symm Bool.false_ne_true | skip) | refine cU ?_ ?_)))
  ((refine rC (fun hf => ?_); refine cA (awake_f _) (fun hf => ?_); refine drun_end ?_))
  (repeat' (first | refine swp_seq [0, 1, 2, 3, 8, 9, 10, 11, 12, 13, 14, 15, 16, 17, 18, 19, 20, 21, 22, 23, 24, 25, 26, 28, 39, 48, 49, 50, 51, 52, 63, 65, 72, 79, 81, 99, 155, 158] ?_ | (first | refine rF (fun hf => ?_) | refine tN ?_ | refine swp_skip ?_ | refine swp_ret ?_ | refine swp_exit ?_ | refine swp_block ?_ | refine swp_scope ?_ | refine thenK_ret ?_ | refine thenK_exit ?_ | refine blockK_normal ?_ | refine blockK_ret ?_ | refine blockK_here ?_ | refine bX ?_ | refine scopeK_normal ?_ | refine scopeK_ret ?_ | refine scopeK_exit ?_ | refine loopK_ret ?_ | refine loopK_exit ?_ | refine dF mixed ?_ | (refine cB (fun hc => ?_) (fun hc => ?_) <;> first | exact False.elim hc | exact absurd hc Bool.false_ne_true | exact absurd hc.symm Bool.false_ne_true | skip) | refine cU ?_ ?_)))
  (refine rC (fun hf => ?_))
  (refine cA (conR_f 9 wordyB (fun r m _ => wordy_f r m) r _ hl hr) (fun hf => ?_))
  (refine cA (conR_f 37 (fun x => !recB x) (fun r m h => surv1_f r m h) r _ hl hr) (fun hf => ?_))
  (refine drun_end ?_)
  (repeat' (first | refine swp_seq [0, 1, 2, 3, 8, 9, 10, 11, 12, 13, 14, 15, 16, 17, 18, 19, 20, 21, 22, 23, 24, 25, 26, 28, 39, 48, 49, 50, 51, 52, 63, 65, 72, 79, 81, 99, 155, 158] ?_ | (first | refine rF (fun hf => ?_) | refine tN ?_ | refine swp_skip ?_ | refine swp_ret ?_ | refine swp_exit ?_ | refine swp_block ?_ | refine swp_scope ?_ | refine thenK_ret ?_ | refine thenK_exit ?_ | refine blockK_normal ?_ | refine blockK_ret ?_ | refine blockK_here ?_ | refine bX ?_ | refine scopeK_normal ?_ | refine scopeK_ret ?_ | refine scopeK_exit ?_ | refine loopK_ret ?_ | refine loopK_exit ?_ | refine dF mixed ?_ | (refine cB (fun hc => ?_) (fun hc => ?_) <;> first | exact False.elim hc | exact absurd hc Bool.false_ne_true | exact absurd hc.symm Bool.false_ne_true | skip) | refine cU ?_ ?_)))
  · (((simp only [push_cast, reduceIte, reduceDIte, reduceCtorEq, Nat.reduceLT, Nat.reduceLeDiff, Nat.reduceEqDiff, Nat.reduceAdd, Nat.reduceMul, Nat.reduceBEq, Nat.reducePow, Int.zero_add, Int.reduceAdd, Int.reduceSub, Int.reduceLT, Int.reduceLE, Int.reduceToNat, Int.reduceNeg, Nat.reduceSub]); repeat (simp (disch := omega) only [idx_map, idx_nat, i64w]; try (simp only [push_cast, reduceIte, reduceDIte, reduceCtorEq, Nat.reduceLT, Nat.reduceLeDiff, Nat.reduceEqDiff, Nat.reduceAdd, Nat.reduceMul, Nat.reduceBEq, Nat.reducePow, Int.zero_add, Int.reduceAdd, Int.reduceSub, Int.reduceLT, Int.reduceLE, Int.reduceToNat, Int.reduceNeg, Nat.reduceSub]))))
  · obtain ⟨⟨c1, c4⟩, c5⟩ := hc
    have hB : ∀ x ∈ r, recB x = true := fun x hx => by
      have := any_false c5 x hx
      simpa using this
    have hW : ∀ x ∈ r, x.inflows.length ≤ 310 ∧ x.link.size ≤ 100 ∧ x.text.size ≤ 510 ∧ x.msg.node.size ≤ 100 := fun x hx => wordyB_in (any_false c4 x hx)
    have hfm : fmtD (af0 - 1) = ⟨[], 0, af0 - 1⟩ ∧ fmtE (af0 - 1) = 0 := by
      have : fmtOk (af0 - 1) = true := by unfold fmtOk; grind
      unfold fmtD fmtE
      rw [this]; exact ⟨rfl, rfl⟩
    (refine rC (fun hf => ?_))
    (refine cA (format_f (af0 - 1) _) (fun hf => ?_))
    rw [hfm.1, hfm.2]
    (refine drun_end ?_)
    (repeat' (first | refine swp_seq [0, 1, 2, 3, 8, 9, 10, 11, 12, 13, 14, 15, 16, 17, 18, 19, 20, 21, 22, 23, 24, 25, 26, 28, 39, 48, 49, 50, 51, 52, 63, 65, 72, 79, 81, 99, 155, 158] ?_ | (first | refine rF (fun hf => ?_) | refine tN ?_ | refine swp_skip ?_ | refine swp_ret ?_ | refine swp_exit ?_ | refine swp_block ?_ | refine swp_scope ?_ | refine thenK_ret ?_ | refine thenK_exit ?_ | refine blockK_normal ?_ | refine blockK_ret ?_ | refine blockK_here ?_ | refine bX ?_ | refine scopeK_normal ?_ | refine scopeK_ret ?_ | refine scopeK_exit ?_ | refine loopK_ret ?_ | refine loopK_exit ?_ | refine dF mixed ?_ | (refine cB (fun hc => ?_) (fun hc => ?_) <;> first | exact False.elim hc | exact absurd hc Bool.false_ne_true | exact absurd hc.symm Bool.false_ne_true | skip) | refine cU ?_ ?_)))
    · exact absurd trivial hc
    have hT : ∀ i, ∀ x ∈ r.take i, recB x = true := fun i x hx => hB x (List.mem_of_mem_take hx)
    have hEl : ∀ i, (encR (r.take i)).length ≤ 40000 := fun i => by
      have := encR_len (r.take i) (hT i)
      rw [List.length_take] at this; omega
    have htt : ∀ i j, j ≤ i → (r.take i).take j = r.take j := fun i j h => by rw [List.take_take, Nat.min_eq_left h]
    refine SWp.mono (Q := fun e A H _ => e = .exit 0 ∧ ∃ (dn j : Nat) (part : List UInt8) (af : Int), j ≤ dn ∧ dn ≤ r.length ∧ (∀ t qs, tornAt qs (part.take t)) ∧ part.length ≤ 5000 ∧ -1 ≤ af ∧ af ≤ 65534 ∧
      ekeep A [0, 3, 8, 9, 11, 12] = [(0, recs r), (3, lv (.int .u32 ke)), (8, lb false), (9, .ptr 168 0), (11, li j), (12, li dn)] ∧ hkeep H [168] = [(168, .blk 42 (dskC ⟨encR (r.take dn) ++ part, (encR (r.take j)).length, af⟩))]) ?_ ?_
    · refine loop_swp [0, 2, 3, 8, 9, 11, 12, 49, 50, 51] [168] 169 (fun q A H => ∃ (i j : Nat) (af : Int), i ≤ r.length ∧ q = r.length - i ∧ j ≤ i ∧ -1 ≤ af ∧ af ≤ 65534 ∧
        A = [(0, recs r), (2, lv (.int .u16 sy)), (3, lv (.int .u32 ke)), (8, lb false), (9, .ptr 168 0), (11, li j), (12, li i), (49, recs r), (50, li r.length), (51, li i)] ∧ H = [(168, .blk 42 (dskC ⟨encR (r.take i), (encR (r.take j)).length, af⟩))]) (by omega) ?_ ?_ ?_
      · rintro q A H ⟨i, j, af, g1, g2, g3, g4, g5, rfl, rfl⟩
        exact ⟨by (exact SD), by (exact SD)⟩
      · refine ⟨_, 0, 0, af0 - 1, by omega, rfl, by omega, by omega, by omega, ?_, ?_⟩
        · (((simp only [push_cast, reduceIte, reduceDIte, reduceCtorEq, Nat.reduceLT, Nat.reduceLeDiff, Nat.reduceEqDiff, Nat.reduceAdd, Nat.reduceMul, Nat.reduceBEq, Nat.reducePow, Int.zero_add, Int.reduceAdd, Int.reduceSub, Int.reduceLT, Int.reduceLE, Int.reduceToNat, Int.reduceNeg, Nat.reduceSub]); repeat (simp (disch := omega) only [idx_map, idx_nat, i64w]; try (simp only [push_cast, reduceIte, reduceDIte, reduceCtorEq, Nat.reduceLT, Nat.reduceLeDiff, Nat.reduceEqDiff, Nat.reduceAdd, Nat.reduceMul, Nat.reduceBEq, Nat.reducePow, Int.zero_add, Int.reduceAdd, Int.reduceSub, Int.reduceLT, Int.reduceLE, Int.reduceToNat, Int.reduceNeg, Nat.reduceSub]))))
        · (((simp only [push_cast, reduceIte, reduceDIte, reduceCtorEq, Nat.reduceLT, Nat.reduceLeDiff, Nat.reduceEqDiff, Nat.reduceAdd, Nat.reduceMul, Nat.reduceBEq, Nat.reducePow, Int.zero_add, Int.reduceAdd, Int.reduceSub, Int.reduceLT, Int.reduceLE, Int.reduceToNat, Int.reduceNeg, Nat.reduceSub]); repeat (simp (disch := omega) only [idx_map, idx_nat, i64w]; try (simp only [push_cast, reduceIte, reduceDIte, reduceCtorEq, Nat.reduceLT, Nat.reduceLeDiff, Nat.reduceEqDiff, Nat.reduceAdd, Nat.reduceMul, Nat.reduceBEq, Nat.reducePow, Int.zero_add, Int.reduceAdd, Int.reduceSub, Int.reduceLT, Int.reduceLE, Int.reduceToNat, Int.reduceNeg, Nat.reduceSub])))); rfl
      · rintro q A H ⟨i, j, af, g1, g2, g3, g4, g5, rfl, rfl⟩
        by_cases hi : i < r.length
        · have hnil : ∀ t qs, tornAt qs (([] : List UInt8).take t) := fun t qs => by rw [List.take_nil]; exact torn_nil qs
          have hbl := recBytes_len (all_get hB hi)
          have hfl := frameB_len (recBytes (r.getD i default))
          obtain ⟨w1, w2, w3, w4⟩ := all_get hW hi
          have hsucc : r.take i ++ [r.getD i default] = r.take (i + 1) := by
            rw [List.take_succ_eq_append_getElem hi, List.getD_eq_getElem?_getD, List.getElem?_eq_getElem hi]; rfl
          have hap := app_full (rs := r.take i) (j := j) (af := af) (hT i) (all_get hB hi) (by rw [List.length_take]; omega) (by rw [List.length_take]; omega) g4 (by omega)
          rw [htt i j g3, hsucc] at hap
          by_cases h0 : af = 0
          · rw [if_pos h0] at hap
            (repeat' (first | refine swp_seq [0, 1, 2, 3, 8, 9, 10, 11, 12, 13, 14, 15, 16, 17, 18, 19, 20, 21, 22, 23, 24, 25, 26, 28, 39, 48, 49, 50, 51, 52, 63, 65, 72, 79, 81, 99, 155, 158] ?_ | (first | refine rF (fun hf => ?_) | refine tN ?_ | refine swp_skip ?_ | refine swp_ret ?_ | refine swp_exit ?_ | refine swp_block ?_ | refine swp_scope ?_ | refine thenK_ret ?_ | refine thenK_exit ?_ | refine blockK_normal ?_ | refine blockK_ret ?_ | refine blockK_here ?_ | refine bX ?_ | refine scopeK_normal ?_ | refine scopeK_ret ?_ | refine scopeK_exit ?_ | refine loopK_ret ?_ | refine loopK_exit ?_ | refine dF mixed ?_ | (refine cB (fun hc => ?_) (fun hc => ?_) <;> first | exact False.elim hc | exact absurd hc Bool.false_ne_true | exact absurd hc.symm Bool.false_ne_true | skip) | refine cU ?_ ?_)))
            · (refine rC (fun hf => ?_))
              (refine cA (append_f ⟨encR (r.take i), (encR (r.take j)).length, af⟩ (r.getD i default) _ (all_get hr hi) (by omega) (by omega) (by omega) (by omega)) (fun hf => ?_))
              rw [hap]
              (refine drun_end ?_)
              (repeat' (first | refine swp_seq [0, 1, 2, 3, 8, 9, 10, 11, 12, 13, 14, 15, 16, 17, 18, 19, 20, 21, 22, 23, 24, 25, 26, 28, 39, 48, 49, 50, 51, 52, 63, 65, 72, 79, 81, 99, 155, 158] ?_ | (first | refine rF (fun hf => ?_) | refine tN ?_ | refine swp_skip ?_ | refine swp_ret ?_ | refine swp_exit ?_ | refine swp_block ?_ | refine swp_scope ?_ | refine thenK_ret ?_ | refine thenK_exit ?_ | refine blockK_normal ?_ | refine blockK_ret ?_ | refine blockK_here ?_ | refine bX ?_ | refine scopeK_normal ?_ | refine scopeK_ret ?_ | refine scopeK_exit ?_ | refine loopK_ret ?_ | refine loopK_exit ?_ | refine dF mixed ?_ | (refine cB (fun hc => ?_) (fun hc => ?_) <;> first | exact False.elim hc | exact absurd hc Bool.false_ne_true | exact absurd hc.symm Bool.false_ne_true | skip) | refine cU ?_ ?_)))
              · refine ⟨rfl, i, j, [], 0, g3, by omega, hnil, by simp, by omega, by omega, ?_, ?_⟩
                · (((simp only [push_cast, reduceIte, reduceDIte, reduceCtorEq, Nat.reduceLT, Nat.reduceLeDiff, Nat.reduceEqDiff, Nat.reduceAdd, Nat.reduceMul, Nat.reduceBEq, Nat.reducePow, Int.zero_add, Int.reduceAdd, Int.reduceSub, Int.reduceLT, Int.reduceLE, Int.reduceToNat, Int.reduceNeg, Nat.reduceSub]); repeat (simp (disch := omega) only [idx_map, idx_nat, i64w]; try (simp only [push_cast, reduceIte, reduceDIte, reduceCtorEq, Nat.reduceLT, Nat.reduceLeDiff, Nat.reduceEqDiff, Nat.reduceAdd, Nat.reduceMul, Nat.reduceBEq, Nat.reducePow, Int.zero_add, Int.reduceAdd, Int.reduceSub, Int.reduceLT, Int.reduceLE, Int.reduceToNat, Int.reduceNeg, Nat.reduceSub])))) <;> rfl
                · (((simp only [push_cast, reduceIte, reduceDIte, reduceCtorEq, Nat.reduceLT, Nat.reduceLeDiff, Nat.reduceEqDiff, Nat.reduceAdd, Nat.reduceMul, Nat.reduceBEq, Nat.reducePow, Int.zero_add, Int.reduceAdd, Int.reduceSub, Int.reduceLT, Int.reduceLE, Int.reduceToNat, Int.reduceNeg, Nat.reduceSub]); repeat (simp (disch := omega) only [idx_map, idx_nat, i64w]; try (simp only [push_cast, reduceIte, reduceDIte, reduceCtorEq, Nat.reduceLT, Nat.reduceLeDiff, Nat.reduceEqDiff, Nat.reduceAdd, Nat.reduceMul, Nat.reduceBEq, Nat.reducePow, Int.zero_add, Int.reduceAdd, Int.reduceSub, Int.reduceLT, Int.reduceLE, Int.reduceToNat, Int.reduceNeg, Nat.reduceSub])))) <;> (rw [List.append_nil]; rfl)
              all_goals first | exact absurd trivial hc | exact absurd hc (by decide)
            · exfalso; omega
          · rw [if_neg h0] at hap
            by_cases h1 : 0 ≤ af ∧ af < (frameB (recBytes (r.getD i default))).length
            · rw [if_pos h1] at hap
              (repeat' (first | refine swp_seq [0, 1, 2, 3, 8, 9, 10, 11, 12, 13, 14, 15, 16, 17, 18, 19, 20, 21, 22, 23, 24, 25, 26, 28, 39, 48, 49, 50, 51, 52, 63, 65, 72, 79, 81, 99, 155, 158] ?_ | (first | refine rF (fun hf => ?_) | refine tN ?_ | refine swp_skip ?_ | refine swp_ret ?_ | refine swp_exit ?_ | refine swp_block ?_ | refine swp_scope ?_ | refine thenK_ret ?_ | refine thenK_exit ?_ | refine blockK_normal ?_ | refine blockK_ret ?_ | refine blockK_here ?_ | refine bX ?_ | refine scopeK_normal ?_ | refine scopeK_ret ?_ | refine scopeK_exit ?_ | refine loopK_ret ?_ | refine loopK_exit ?_ | refine dF mixed ?_ | (refine cB (fun hc => ?_) (fun hc => ?_) <;> first | exact False.elim hc | exact absurd hc Bool.false_ne_true | exact absurd hc.symm Bool.false_ne_true | skip) | refine cU ?_ ?_)))
              · (refine rC (fun hf => ?_))
                (refine cA (append_f ⟨encR (r.take i), (encR (r.take j)).length, af⟩ (r.getD i default) _ (all_get hr hi) (by omega) (by omega) (by omega) (by omega)) (fun hf => ?_))
                rw [hap]
                (refine drun_end ?_)
                (repeat' (first | refine swp_seq [0, 1, 2, 3, 8, 9, 10, 11, 12, 13, 14, 15, 16, 17, 18, 19, 20, 21, 22, 23, 24, 25, 26, 28, 39, 48, 49, 50, 51, 52, 63, 65, 72, 79, 81, 99, 155, 158] ?_ | (first | refine rF (fun hf => ?_) | refine tN ?_ | refine swp_skip ?_ | refine swp_ret ?_ | refine swp_exit ?_ | refine swp_block ?_ | refine swp_scope ?_ | refine thenK_ret ?_ | refine thenK_exit ?_ | refine blockK_normal ?_ | refine blockK_ret ?_ | refine blockK_here ?_ | refine bX ?_ | refine scopeK_normal ?_ | refine scopeK_ret ?_ | refine scopeK_exit ?_ | refine loopK_ret ?_ | refine loopK_exit ?_ | refine dF mixed ?_ | (refine cB (fun hc => ?_) (fun hc => ?_) <;> first | exact False.elim hc | exact absurd hc Bool.false_ne_true | exact absurd hc.symm Bool.false_ne_true | skip) | refine cU ?_ ?_)))
                · refine ⟨rfl, i, j, (frameB (recBytes (r.getD i default))).take af.toNat, 0, g3, by omega, fun t qs => torn_take qs (by omega) (by omega), by rw [List.length_take]; omega, by omega, by omega, ?_, ?_⟩
                  · (((simp only [push_cast, reduceIte, reduceDIte, reduceCtorEq, Nat.reduceLT, Nat.reduceLeDiff, Nat.reduceEqDiff, Nat.reduceAdd, Nat.reduceMul, Nat.reduceBEq, Nat.reducePow, Int.zero_add, Int.reduceAdd, Int.reduceSub, Int.reduceLT, Int.reduceLE, Int.reduceToNat, Int.reduceNeg, Nat.reduceSub]); repeat (simp (disch := omega) only [idx_map, idx_nat, i64w]; try (simp only [push_cast, reduceIte, reduceDIte, reduceCtorEq, Nat.reduceLT, Nat.reduceLeDiff, Nat.reduceEqDiff, Nat.reduceAdd, Nat.reduceMul, Nat.reduceBEq, Nat.reducePow, Int.zero_add, Int.reduceAdd, Int.reduceSub, Int.reduceLT, Int.reduceLE, Int.reduceToNat, Int.reduceNeg, Nat.reduceSub])))) <;> rfl
                  · (((simp only [push_cast, reduceIte, reduceDIte, reduceCtorEq, Nat.reduceLT, Nat.reduceLeDiff, Nat.reduceEqDiff, Nat.reduceAdd, Nat.reduceMul, Nat.reduceBEq, Nat.reducePow, Int.zero_add, Int.reduceAdd, Int.reduceSub, Int.reduceLT, Int.reduceLE, Int.reduceToNat, Int.reduceNeg, Nat.reduceSub]); repeat (simp (disch := omega) only [idx_map, idx_nat, i64w]; try (simp only [push_cast, reduceIte, reduceDIte, reduceCtorEq, Nat.reduceLT, Nat.reduceLeDiff, Nat.reduceEqDiff, Nat.reduceAdd, Nat.reduceMul, Nat.reduceBEq, Nat.reducePow, Int.zero_add, Int.reduceAdd, Int.reduceSub, Int.reduceLT, Int.reduceLE, Int.reduceToNat, Int.reduceNeg, Nat.reduceSub])))) <;> rfl
                all_goals first | exact absurd trivial hc | exact absurd hc (by decide)
              · exfalso; omega
            · rw [if_neg h1] at hap
              obtain ⟨ag, hag⟩ : ∃ ag, ag = if 0 < af then af - ((frameB (recBytes (r.getD i default))).length : Int) else af := ⟨_, rfl⟩
              rw [← hag] at hap
              have hag2 : -1 ≤ ag ∧ ag ≤ 65534 := by rw [hag]; split <;> omega
              have hsy := sync_full (rs := r.take (i + 1)) (j := j) (af := ag) (hT (i + 1)) (by rw [List.length_take]; omega) (by rw [List.length_take]; omega) hag2.1 (by omega)
              rw [htt (i + 1) j (by omega), List.length_take, Nat.min_eq_left (by omega), List.take_take, Nat.min_self] at hsy
              (repeat' (first | refine swp_seq [0, 1, 2, 3, 8, 9, 10, 11, 12, 13, 14, 15, 16, 17, 18, 19, 20, 21, 22, 23, 24, 25, 26, 28, 39, 48, 49, 50, 51, 52, 63, 65, 72, 79, 81, 99, 155, 158] ?_ | (first | refine rF (fun hf => ?_) | refine tN ?_ | refine swp_skip ?_ | refine swp_ret ?_ | refine swp_exit ?_ | refine swp_block ?_ | refine swp_scope ?_ | refine thenK_ret ?_ | refine thenK_exit ?_ | refine blockK_normal ?_ | refine blockK_ret ?_ | refine blockK_here ?_ | refine bX ?_ | refine scopeK_normal ?_ | refine scopeK_ret ?_ | refine scopeK_exit ?_ | refine loopK_ret ?_ | refine loopK_exit ?_ | refine dF mixed ?_ | (refine cB (fun hc => ?_) (fun hc => ?_) <;> first | exact False.elim hc | exact absurd hc Bool.false_ne_true | exact absurd hc.symm Bool.false_ne_true | skip) | refine cU ?_ ?_)))
              · (refine rC (fun hf => ?_))
                (refine cA (append_f ⟨encR (r.take i), (encR (r.take j)).length, af⟩ (r.getD i default) _ (all_get hr hi) (by omega) (by omega) (by omega) (by omega)) (fun hf => ?_))
                rw [hap]
                (refine drun_end ?_)
                (repeat' (first | refine swp_seq [0, 1, 2, 3, 8, 9, 10, 11, 12, 13, 14, 15, 16, 17, 18, 19, 20, 21, 22, 23, 24, 25, 26, 28, 39, 48, 49, 50, 51, 52, 63, 65, 72, 79, 81, 99, 155, 158] ?_ | (first | refine rF (fun hf => ?_) | refine tN ?_ | refine swp_skip ?_ | refine swp_ret ?_ | refine swp_exit ?_ | refine swp_block ?_ | refine swp_scope ?_ | refine thenK_ret ?_ | refine thenK_exit ?_ | refine blockK_normal ?_ | refine blockK_ret ?_ | refine blockK_here ?_ | refine bX ?_ | refine scopeK_normal ?_ | refine scopeK_ret ?_ | refine scopeK_exit ?_ | refine loopK_ret ?_ | refine loopK_exit ?_ | refine dF mixed ?_ | (refine cB (fun hc => ?_) (fun hc => ?_) <;> first | exact False.elim hc | exact absurd hc Bool.false_ne_true | exact absurd hc.symm Bool.false_ne_true | skip) | refine cU ?_ ?_)))
                · exact absurd hc (by decide)
                · exact absurd trivial hc
                · by_cases hz : ag = 0
                  · rw [if_pos hz] at hsy
                    (refine rC (fun hf => ?_))
                    (refine cA (sync_f ⟨encR (r.take (i + 1)), (encR (r.take j)).length, ag⟩ _) (fun hf => ?_))
                    rw [hsy]
                    (refine drun_end ?_)
                    (repeat' (first | refine swp_seq [0, 1, 2, 3, 8, 9, 10, 11, 12, 13, 14, 15, 16, 17, 18, 19, 20, 21, 22, 23, 24, 25, 26, 28, 39, 48, 49, 50, 51, 52, 63, 65, 72, 79, 81, 99, 155, 158] ?_ | (first | refine rF (fun hf => ?_) | refine tN ?_ | refine swp_skip ?_ | refine swp_ret ?_ | refine swp_exit ?_ | refine swp_block ?_ | refine swp_scope ?_ | refine thenK_ret ?_ | refine thenK_exit ?_ | refine blockK_normal ?_ | refine blockK_ret ?_ | refine blockK_here ?_ | refine bX ?_ | refine scopeK_normal ?_ | refine scopeK_ret ?_ | refine scopeK_exit ?_ | refine loopK_ret ?_ | refine loopK_exit ?_ | refine dF mixed ?_ | (refine cB (fun hc => ?_) (fun hc => ?_) <;> first | exact False.elim hc | exact absurd hc Bool.false_ne_true | exact absurd hc.symm Bool.false_ne_true | skip) | refine cU ?_ ?_)))
                    · refine ⟨rfl, i + 1, j, [], 0, by omega, by omega, hnil, by simp, by omega, by omega, ?_, ?_⟩
                      · (((simp only [push_cast, reduceIte, reduceDIte, reduceCtorEq, Nat.reduceLT, Nat.reduceLeDiff, Nat.reduceEqDiff, Nat.reduceAdd, Nat.reduceMul, Nat.reduceBEq, Nat.reducePow, Int.zero_add, Int.reduceAdd, Int.reduceSub, Int.reduceLT, Int.reduceLE, Int.reduceToNat, Int.reduceNeg, Nat.reduceSub]); repeat (simp (disch := omega) only [idx_map, idx_nat, i64w]; try (simp only [push_cast, reduceIte, reduceDIte, reduceCtorEq, Nat.reduceLT, Nat.reduceLeDiff, Nat.reduceEqDiff, Nat.reduceAdd, Nat.reduceMul, Nat.reduceBEq, Nat.reducePow, Int.zero_add, Int.reduceAdd, Int.reduceSub, Int.reduceLT, Int.reduceLE, Int.reduceToNat, Int.reduceNeg, Nat.reduceSub])))) <;> rfl
                      · (((simp only [push_cast, reduceIte, reduceDIte, reduceCtorEq, Nat.reduceLT, Nat.reduceLeDiff, Nat.reduceEqDiff, Nat.reduceAdd, Nat.reduceMul, Nat.reduceBEq, Nat.reducePow, Int.zero_add, Int.reduceAdd, Int.reduceSub, Int.reduceLT, Int.reduceLE, Int.reduceToNat, Int.reduceNeg, Nat.reduceSub]); repeat (simp (disch := omega) only [idx_map, idx_nat, i64w]; try (simp only [push_cast, reduceIte, reduceDIte, reduceCtorEq, Nat.reduceLT, Nat.reduceLeDiff, Nat.reduceEqDiff, Nat.reduceAdd, Nat.reduceMul, Nat.reduceBEq, Nat.reducePow, Int.zero_add, Int.reduceAdd, Int.reduceSub, Int.reduceLT, Int.reduceLE, Int.reduceToNat, Int.reduceNeg, Nat.reduceSub])))) <;> (rw [List.append_nil]; rfl)
                    all_goals first | exact absurd trivial hc | exact absurd hc (by decide)
                  · rw [if_neg hz] at hsy
                    (refine rC (fun hf => ?_))
                    (refine cA (sync_f ⟨encR (r.take (i + 1)), (encR (r.take j)).length, ag⟩ _) (fun hf => ?_))
                    rw [hsy]
                    (refine drun_end ?_)
                    (repeat' (first | refine swp_seq [0, 1, 2, 3, 8, 9, 10, 11, 12, 13, 14, 15, 16, 17, 18, 19, 20, 21, 22, 23, 24, 25, 26, 28, 39, 48, 49, 50, 51, 52, 63, 65, 72, 79, 81, 99, 155, 158] ?_ | (first | refine rF (fun hf => ?_) | refine tN ?_ | refine swp_skip ?_ | refine swp_ret ?_ | refine swp_exit ?_ | refine swp_block ?_ | refine swp_scope ?_ | refine thenK_ret ?_ | refine thenK_exit ?_ | refine blockK_normal ?_ | refine blockK_ret ?_ | refine blockK_here ?_ | refine bX ?_ | refine scopeK_normal ?_ | refine scopeK_ret ?_ | refine scopeK_exit ?_ | refine loopK_ret ?_ | refine loopK_exit ?_ | refine dF mixed ?_ | (refine cB (fun hc => ?_) (fun hc => ?_) <;> first | exact False.elim hc | exact absurd hc Bool.false_ne_true | exact absurd hc.symm Bool.false_ne_true | skip) | refine cU ?_ ?_)))
                    · exact absurd hc (by decide)
                    · exact absurd trivial hc
                    · (refine lN [168] ?_)
                      refine ⟨_, by omega, i + 1, i + 1, ag, by omega, rfl, by omega, hag2.1, hag2.2, rfl, ?_⟩
                      (((simp only [push_cast, reduceIte, reduceDIte, reduceCtorEq, Nat.reduceLT, Nat.reduceLeDiff, Nat.reduceEqDiff, Nat.reduceAdd, Nat.reduceMul, Nat.reduceBEq, Nat.reducePow, Int.zero_add, Int.reduceAdd, Int.reduceSub, Int.reduceLT, Int.reduceLE, Int.reduceToNat, Int.reduceNeg, Nat.reduceSub]); repeat (simp (disch := omega) only [idx_map, idx_nat, i64w]; try (simp only [push_cast, reduceIte, reduceDIte, reduceCtorEq, Nat.reduceLT, Nat.reduceLeDiff, Nat.reduceEqDiff, Nat.reduceAdd, Nat.reduceMul, Nat.reduceBEq, Nat.reducePow, Int.zero_add, Int.reduceAdd, Int.reduceSub, Int.reduceLT, Int.reduceLE, Int.reduceToNat, Int.reduceNeg, Nat.reduceSub])))) <;> rfl
                · (refine lN [168] ?_)
                  refine ⟨_, by omega, i + 1, j, ag, by omega, rfl, by omega, hag2.1, hag2.2, rfl, ?_⟩
                  (((simp only [push_cast, reduceIte, reduceDIte, reduceCtorEq, Nat.reduceLT, Nat.reduceLeDiff, Nat.reduceEqDiff, Nat.reduceAdd, Nat.reduceMul, Nat.reduceBEq, Nat.reducePow, Int.zero_add, Int.reduceAdd, Int.reduceSub, Int.reduceLT, Int.reduceLE, Int.reduceToNat, Int.reduceNeg, Nat.reduceSub]); repeat (simp (disch := omega) only [idx_map, idx_nat, i64w]; try (simp only [push_cast, reduceIte, reduceDIte, reduceCtorEq, Nat.reduceLT, Nat.reduceLeDiff, Nat.reduceEqDiff, Nat.reduceAdd, Nat.reduceMul, Nat.reduceBEq, Nat.reducePow, Int.zero_add, Int.reduceAdd, Int.reduceSub, Int.reduceLT, Int.reduceLE, Int.reduceToNat, Int.reduceNeg, Nat.reduceSub])))) <;> rfl
              · exfalso; omega
        · (repeat' (first | refine swp_seq [0, 1, 2, 3, 8, 9, 10, 11, 12, 13, 14, 15, 16, 17, 18, 19, 20, 21, 22, 23, 24, 25, 26, 28, 39, 48, 49, 50, 51, 52, 63, 65, 72, 79, 81, 99, 155, 158] ?_ | (first | refine rF (fun hf => ?_) | refine tN ?_ | refine swp_skip ?_ | refine swp_ret ?_ | refine swp_exit ?_ | refine swp_block ?_ | refine swp_scope ?_ | refine thenK_ret ?_ | refine thenK_exit ?_ | refine blockK_normal ?_ | refine blockK_ret ?_ | refine blockK_here ?_ | refine bX ?_ | refine scopeK_normal ?_ | refine scopeK_ret ?_ | refine scopeK_exit ?_ | refine loopK_ret ?_ | refine loopK_exit ?_ | refine dF mixed ?_ | (refine cB (fun hc => ?_) (fun hc => ?_) <;> first | exact False.elim hc | exact absurd hc Bool.false_ne_true | exact absurd hc.symm Bool.false_ne_true | skip) | refine cU ?_ ?_)))
          · exfalso; omega
          · refine ⟨rfl, i, j, [], af, g3, by omega, fun t qs => by rw [List.take_nil]; exact torn_nil qs, by simp, by omega, by omega, ?_, ?_⟩
            · (((simp only [push_cast, reduceIte, reduceDIte, reduceCtorEq, Nat.reduceLT, Nat.reduceLeDiff, Nat.reduceEqDiff, Nat.reduceAdd, Nat.reduceMul, Nat.reduceBEq, Nat.reducePow, Int.zero_add, Int.reduceAdd, Int.reduceSub, Int.reduceLT, Int.reduceLE, Int.reduceToNat, Int.reduceNeg, Nat.reduceSub]); repeat (simp (disch := omega) only [idx_map, idx_nat, i64w]; try (simp only [push_cast, reduceIte, reduceDIte, reduceCtorEq, Nat.reduceLT, Nat.reduceLeDiff, Nat.reduceEqDiff, Nat.reduceAdd, Nat.reduceMul, Nat.reduceBEq, Nat.reducePow, Int.zero_add, Int.reduceAdd, Int.reduceSub, Int.reduceLT, Int.reduceLE, Int.reduceToNat, Int.reduceNeg, Nat.reduceSub])))) <;> rfl
            · (((simp only [push_cast, reduceIte, reduceDIte, reduceCtorEq, Nat.reduceLT, Nat.reduceLeDiff, Nat.reduceEqDiff, Nat.reduceAdd, Nat.reduceMul, Nat.reduceBEq, Nat.reducePow, Int.zero_add, Int.reduceAdd, Int.reduceSub, Int.reduceLT, Int.reduceLE, Int.reduceToNat, Int.reduceNeg, Nat.reduceSub]); repeat (simp (disch := omega) only [idx_map, idx_nat, i64w]; try (simp only [push_cast, reduceIte, reduceDIte, reduceCtorEq, Nat.reduceLT, Nat.reduceLeDiff, Nat.reduceEqDiff, Nat.reduceAdd, Nat.reduceMul, Nat.reduceBEq, Nat.reducePow, Int.zero_add, Int.reduceAdd, Int.reduceSub, Int.reduceLT, Int.reduceLE, Int.reduceToNat, Int.reduceNeg, Nat.reduceSub])))) <;> (rw [List.append_nil]; rfl)
    · rintro e A H nx ⟨rfl, dn, j, part, af, k1, k2, k3, k4, k5, k6, k7, k8⟩
      refine blockK_here ?_
      refine tail_cut [0, 3, 8, 9, 11, 12] [168] 169 k7 k8 (by decide) (by omega) (by (exact SD)) (by (exact SD)) ?_
      have hEd := hEl dn
      have hEj : (encR (r.take j)).length ≤ (encR (r.take dn)).length := by
        have := encR_take_le (r.take dn) j
        rwa [htt dn j k1] at this
      have hp0 : tornAt (r.take dn) part := by have := k3 part.length (r.take dn); rwa [List.take_length] at this
      have hDB := diskB_torn (j := j) (af := af) (hT dn) hp0 (by rw [List.length_take]; omega) (by rw [List.length_append]; omega) k5 (by omega)
      rw [htt dn j k1] at hDB
      (repeat' (first | refine swp_seq [0, 1, 2, 3, 8, 9, 10, 11, 12, 13, 14, 15, 16, 17, 18, 19, 20, 21, 22, 23, 24, 25, 26, 28, 39, 48, 49, 50, 51, 52, 63, 65, 72, 79, 81, 99, 155, 158] ?_ | (first | refine rF (fun hf => ?_) | refine tN ?_ | refine swp_skip ?_ | refine swp_ret ?_ | refine swp_exit ?_ | refine swp_block ?_ | refine swp_scope ?_ | refine thenK_ret ?_ | refine thenK_exit ?_ | refine blockK_normal ?_ | refine blockK_ret ?_ | refine blockK_here ?_ | refine bX ?_ | refine scopeK_normal ?_ | refine scopeK_ret ?_ | refine scopeK_exit ?_ | refine loopK_ret ?_ | refine loopK_exit ?_ | refine dF mixed ?_ | (refine cB (fun hc => ?_) (fun hc => ?_) <;> first | exact False.elim hc | exact absurd hc Bool.false_ne_true | exact absurd hc.symm Bool.false_ne_true | skip) | refine cU ?_ ?_)))
      (refine rC (fun hf => ?_))
      (refine cA (dvalid_f ⟨encR (r.take dn) ++ part, (encR (r.take j)).length, af⟩ _) (fun hf => ?_))
      rw [hDB]
      (refine drun_end ?_)
      (repeat' (first | refine swp_seq [0, 1, 2, 3, 8, 9, 10, 11, 12, 13, 14, 15, 16, 17, 18, 19, 20, 21, 22, 23, 24, 25, 26, 28, 39, 48, 49, 50, 51, 52, 63, 65, 72, 79, 81, 99, 155, 158] ?_ | (first | refine rF (fun hf => ?_) | refine tN ?_ | refine swp_skip ?_ | refine swp_ret ?_ | refine swp_exit ?_ | refine swp_block ?_ | refine swp_scope ?_ | refine thenK_ret ?_ | refine thenK_exit ?_ | refine blockK_normal ?_ | refine blockK_ret ?_ | refine blockK_here ?_ | refine bX ?_ | refine scopeK_normal ?_ | refine scopeK_ret ?_ | refine scopeK_exit ?_ | refine loopK_ret ?_ | refine loopK_exit ?_ | refine dF mixed ?_ | (refine cB (fun hc => ?_) (fun hc => ?_) <;> first | exact False.elim hc | exact absurd hc Bool.false_ne_true | exact absurd hc.symm Bool.false_ne_true | skip) | refine cU ?_ ?_)))
      · exfalso; omega
      have hSl : (encR (r.take j)).length ≤ (encR (r.take dn)).length + part.length := by omega
      obtain ⟨x, hx⟩ : ∃ x : Nat, x = ke.toNat % ((encR (r.take dn)).length + part.length - (encR (r.take j)).length + 1) := ⟨_, rfl⟩
      have hxl : x ≤ (encR (r.take dn)).length + part.length - (encR (r.take j)).length := by
        rw [hx]; exact Nat.le_of_lt_succ (Nat.mod_lt _ (by omega))
      have hxm : ke.tmod (((encR (r.take dn)).length : Int) + (part.length : Int) - ((encR (r.take j)).length : Int) + 1) = (x : Int) := by
        obtain ⟨z, rfl⟩ : ∃ z : Nat, ke = z := ⟨ke.toNat, by omega⟩
        rw [Int.tmod_eq_emod_of_nonneg (by omega), show ((encR (r.take dn)).length : Int) + (part.length : Int) - ((encR (r.take j)).length : Int) + 1 = (((encR (r.take dn)).length + part.length - (encR (r.take j)).length + 1 : Nat) : Int) by omega, hx]
        simp
      obtain ⟨mm, part2, m1, m2, m3, m4⟩ := take_enc (r.take dn) part j ((encR (r.take j)).length + x) (hT dn) k3 (by rw [List.length_take]; omega) (by rw [htt dn j k1]; omega)
      rw [List.length_take, Nat.min_eq_left k2] at m2
      rw [htt dn mm m2] at m3
      have hm0 : tornAt (r.take mm) part2 := m4 _
      have hcr : crashD ⟨encR (r.take dn) ++ part, (encR (r.take j)).length, af⟩ x = (⟨encR (r.take mm) ++ part2, (encR (r.take j)).length, -1⟩, 0) := by
        unfold crashD
        rw [if_pos hDB, if_pos (by simp only [List.length_append]; omega)]
        simp only
        rw [show ((((encR (r.take j)).length : Nat) : Int) + (x : Int)).toNat = (encR (r.take j)).length + x by omega, m3]
      have hml : (encR (r.take mm) ++ part2).length ≤ 1048576 := by
        rw [← m3, List.length_take, List.length_append]; omega
      have hmt : (r.take mm).length = mm := by rw [List.length_take]; omega
      have hop := open_full (j := j) (hT mm) hm0 (by omega) hml
      rw [htt mm j m1] at hop
      have hEm := hEl mm
      have hrc := recs_full (rs := r.take mm) (j := mm) (af := -1) (hT mm) (by omega) (by omega) (by omega) (by omega)
      have hap := fun (r0 : Rec) (h0 : recB r0 = true) => app_full (rs := r.take mm) (r := r0) (j := mm) (af := -1) (hT mm) h0 (by omega) (by omega) (by omega) (by omega)
      rw [htt mm mm (Nat.le_refl _)] at hrc
      (refine xC mixed [417] ?_)
      rw [hxm]
      (refine yA (crash_f ⟨encR (r.take dn) ++ part, (encR (r.take j)).length, af⟩ x _) ?_)
      rw [hcr]
      (refine xrun_end ?_)
      (repeat' (first | refine swp_seq [0, 1, 2, 3, 8, 9, 10, 11, 12, 13, 14, 15, 16, 17, 18, 19, 20, 21, 22, 23, 24, 25, 26, 28, 39, 48, 49, 50, 51, 52, 63, 65, 72, 79, 81, 99, 155, 158] ?_ | (first | refine rF (fun hf => ?_) | refine tN ?_ | refine swp_skip ?_ | refine swp_ret ?_ | refine swp_exit ?_ | refine swp_block ?_ | refine swp_scope ?_ | refine thenK_ret ?_ | refine thenK_exit ?_ | refine blockK_normal ?_ | refine blockK_ret ?_ | refine blockK_here ?_ | refine bX ?_ | refine scopeK_normal ?_ | refine scopeK_ret ?_ | refine scopeK_exit ?_ | refine loopK_ret ?_ | refine loopK_exit ?_ | refine dF mixed ?_ | (refine cB (fun hc => ?_) (fun hc => ?_) <;> first | exact False.elim hc | exact absurd hc Bool.false_ne_true | exact absurd hc.symm Bool.false_ne_true | skip) | refine cU ?_ ?_)))
      (refine rC (fun hf => ?_))
      (refine cA (open_f ⟨encR (r.take mm) ++ part2, (encR (r.take j)).length, -1⟩ _) (fun hf => ?_))
      rw [hop]
      (refine drun_end ?_)
      (repeat' (first | refine swp_seq [0, 1, 2, 3, 8, 9, 10, 11, 12, 13, 14, 15, 16, 17, 18, 19, 20, 21, 22, 23, 24, 25, 26, 28, 39, 48, 49, 50, 51, 52, 63, 65, 72, 79, 81, 99, 155, 158] ?_ | (first | refine rF (fun hf => ?_) | refine tN ?_ | refine swp_skip ?_ | refine swp_ret ?_ | refine swp_exit ?_ | refine swp_block ?_ | refine swp_scope ?_ | refine thenK_ret ?_ | refine thenK_exit ?_ | refine blockK_normal ?_ | refine blockK_ret ?_ | refine blockK_here ?_ | refine bX ?_ | refine scopeK_normal ?_ | refine scopeK_ret ?_ | refine scopeK_exit ?_ | refine loopK_ret ?_ | refine loopK_exit ?_ | refine dF mixed ?_ | (refine cB (fun hc => ?_) (fun hc => ?_) <;> first | exact False.elim hc | exact absurd hc Bool.false_ne_true | exact absurd hc.symm Bool.false_ne_true | skip) | refine cU ?_ ?_)))
      (refine rC (fun hf => ?_))
      (refine cA (records_f ⟨encR (r.take mm), (encR (r.take mm)).length, -1⟩ _) (fun hf => ?_))
      rw [hrc]
      (refine drun_end ?_)
      (repeat' (first | refine swp_seq [0, 1, 2, 3, 8, 9, 10, 11, 12, 13, 14, 15, 16, 17, 18, 19, 20, 21, 22, 23, 24, 25, 26, 28, 39, 48, 49, 50, 51, 52, 63, 65, 72, 79, 81, 99, 155, 158] ?_ | (first | refine rF (fun hf => ?_) | refine tN ?_ | refine swp_skip ?_ | refine swp_ret ?_ | refine swp_exit ?_ | refine swp_block ?_ | refine swp_scope ?_ | refine thenK_ret ?_ | refine thenK_exit ?_ | refine blockK_normal ?_ | refine blockK_ret ?_ | refine blockK_here ?_ | refine bX ?_ | refine scopeK_normal ?_ | refine scopeK_ret ?_ | refine scopeK_exit ?_ | refine loopK_ret ?_ | refine loopK_exit ?_ | refine dF mixed ?_ | (refine cB (fun hc => ?_) (fun hc => ?_) <;> first | exact False.elim hc | exact absurd hc Bool.false_ne_true | exact absurd hc.symm Bool.false_ne_true | skip) | refine cU ?_ ?_)))
      (refine rC (fun hf => ?_))
      rw [hmt]
      have hd1 : decide ((mm : Int) < (j : Int)) = false := by simp; omega
      have hd2 : decide ((dn : Int) < (mm : Int)) = false := by simp; omega
      rw [hd1, hd2]
      (refine cA (sameAll_self (r.take mm) _ (by omega) (fun x hx => hr x (List.mem_of_mem_take hx))) (fun hf => ?_))
      (refine drun_end ?_)
      (repeat' (first | refine swp_seq [0, 1, 2, 3, 8, 9, 10, 11, 12, 13, 14, 15, 16, 17, 18, 19, 20, 21, 22, 23, 24, 25, 26, 28, 39, 48, 49, 50, 51, 52, 63, 65, 72, 79, 81, 99, 155, 158] ?_ | (first | refine rF (fun hf => ?_) | refine tN ?_ | refine swp_skip ?_ | refine swp_ret ?_ | refine swp_exit ?_ | refine swp_block ?_ | refine swp_scope ?_ | refine thenK_ret ?_ | refine thenK_exit ?_ | refine blockK_normal ?_ | refine blockK_ret ?_ | refine blockK_here ?_ | refine bX ?_ | refine scopeK_normal ?_ | refine scopeK_ret ?_ | refine scopeK_exit ?_ | refine loopK_ret ?_ | refine loopK_exit ?_ | refine dF mixed ?_ | (refine cB (fun hc => ?_) (fun hc => ?_) <;> first | exact False.elim hc | exact absurd hc Bool.false_ne_true | exact absurd hc.symm Bool.false_ne_true | skip) | refine cU ?_ ?_)))
      · exact absurd trivial hc
      · (((simp only [push_cast, reduceIte, reduceDIte, reduceCtorEq, Nat.reduceLT, Nat.reduceLeDiff, Nat.reduceEqDiff, Nat.reduceAdd, Nat.reduceMul, Nat.reduceBEq, Nat.reducePow, Int.zero_add, Int.reduceAdd, Int.reduceSub, Int.reduceLT, Int.reduceLE, Int.reduceToNat, Int.reduceNeg, Nat.reduceSub]); repeat (simp (disch := omega) only [idx_map, idx_nat, i64w]; try (simp only [push_cast, reduceIte, reduceDIte, reduceCtorEq, Nat.reduceLT, Nat.reduceLeDiff, Nat.reduceEqDiff, Nat.reduceAdd, Nat.reduceMul, Nat.reduceBEq, Nat.reducePow, Int.zero_add, Int.reduceAdd, Int.reduceSub, Int.reduceLT, Int.reduceLE, Int.reduceToNat, Int.reduceNeg, Nat.reduceSub]))))
      · have hr0 : 0 < r.length := by
          rcases Nat.eq_zero_or_pos r.length with h | h
          · exfalso; revert hc; rw [h]; simp
          · exact h
        have hap0 := hap (r.getD 0 default) (all_get hB hr0)
        rw [if_neg (by omega), if_neg (by omega), if_neg (by omega), htt mm mm (Nat.le_refl _)] at hap0
        have hB1 : ∀ x ∈ r.take mm ++ [r.getD 0 default], recB x = true := fun x hx => by
          rcases List.mem_append.1 hx with hx | hx
          · exact hT mm x hx
          · rw [List.mem_singleton.1 hx]; exact all_get hB hr0
        have hrc1 := recs_full (rs := r.take mm ++ [r.getD 0 default]) (j := mm) (af := -1) hB1 (by rw [List.length_append, hmt]; simp; omega) (by rw [List.length_append, hmt]; omega) (by omega) (by omega)
        have htk1 : (r.take mm ++ [r.getD 0 default]).take mm = r.take mm := by
          rw [List.take_append_of_le_length (by omega), htt mm mm (Nat.le_refl _)]
        rw [htk1] at hrc1
        obtain ⟨w1, w2, w3, w4⟩ := all_get hW hr0
        (refine xC mixed [897] ?_)
        (refine yA (append_f ⟨encR (r.take mm), (encR (r.take mm)).length, -1⟩ (r.getD 0 default) _ (all_get hr hr0) (by omega) (by omega) (by omega) (by omega)) ?_)
        rw [hap0]
        (refine xrun_end ?_)
        (repeat' (first | refine swp_seq [0, 1, 2, 3, 8, 9, 10, 11, 12, 13, 14, 15, 16, 17, 18, 19, 20, 21, 22, 23, 24, 25, 26, 28, 39, 48, 49, 50, 51, 52, 63, 65, 72, 79, 81, 99, 155, 158] ?_ | (first | refine rF (fun hf => ?_) | refine tN ?_ | refine swp_skip ?_ | refine swp_ret ?_ | refine swp_exit ?_ | refine swp_block ?_ | refine swp_scope ?_ | refine thenK_ret ?_ | refine thenK_exit ?_ | refine blockK_normal ?_ | refine blockK_ret ?_ | refine blockK_here ?_ | refine bX ?_ | refine scopeK_normal ?_ | refine scopeK_ret ?_ | refine scopeK_exit ?_ | refine loopK_ret ?_ | refine loopK_exit ?_ | refine dF mixed ?_ | (refine cB (fun hc => ?_) (fun hc => ?_) <;> first | exact False.elim hc | exact absurd hc Bool.false_ne_true | exact absurd hc.symm Bool.false_ne_true | skip) | refine cU ?_ ?_)))
        (refine rC (fun hf => ?_))
        (refine cA (records_f ⟨encR (r.take mm ++ [r.getD 0 default]), (encR (r.take mm)).length, -1⟩ _) (fun hf => ?_))
        rw [hrc1]
        (refine drun_end ?_)
        (repeat' (first | refine swp_seq [0, 1, 2, 3, 8, 9, 10, 11, 12, 13, 14, 15, 16, 17, 18, 19, 20, 21, 22, 23, 24, 25, 26, 28, 39, 48, 49, 50, 51, 52, 63, 65, 72, 79, 81, 99, 155, 158] ?_ | (first | refine rF (fun hf => ?_) | refine tN ?_ | refine swp_skip ?_ | refine swp_ret ?_ | refine swp_exit ?_ | refine swp_block ?_ | refine swp_scope ?_ | refine thenK_ret ?_ | refine thenK_exit ?_ | refine blockK_normal ?_ | refine blockK_ret ?_ | refine blockK_here ?_ | refine bX ?_ | refine scopeK_normal ?_ | refine scopeK_ret ?_ | refine scopeK_exit ?_ | refine loopK_ret ?_ | refine loopK_exit ?_ | refine dF mixed ?_ | (refine cB (fun hc => ?_) (fun hc => ?_) <;> first | exact False.elim hc | exact absurd hc Bool.false_ne_true | exact absurd hc.symm Bool.false_ne_true | skip) | refine cU ?_ ?_)))
        have hlt : (r.take mm).length < (r.take mm ++ [r.getD 0 default]).length := by rw [List.length_append]; simp
        have hgd : (r.take mm ++ [r.getD 0 default]).getD (r.take mm).length default = r.getD 0 default := by
          rw [List.getD_eq_getElem?_getD, List.getElem?_append_right (Nat.le_refl _), Nat.sub_self]
          simp
        (refine xC mixed [] ?_)
        rw [show ((r.take mm ++ [r.getD 0 default]).take (r.take mm).length) = r.take mm by rw [hmt, htk1]]
        (refine yA (sameAll_self (r.take mm) _ (by omega) (fun x hx => hr x (List.mem_of_mem_take hx))) ?_)
        rw [hgd]
        (refine yA (same_f (r.getD 0 default) (r.getD 0 default) _ (all_get hr hr0) (all_get hr hr0)) ?_)
        (refine xrun_end ?_)
        (repeat' (first | refine swp_seq [0, 1, 2, 3, 8, 9, 10, 11, 12, 13, 14, 15, 16, 17, 18, 19, 20, 21, 22, 23, 24, 25, 26, 28, 39, 48, 49, 50, 51, 52, 63, 65, 72, 79, 81, 99, 155, 158] ?_ | (first | refine rF (fun hf => ?_) | refine tN ?_ | refine swp_skip ?_ | refine swp_ret ?_ | refine swp_exit ?_ | refine swp_block ?_ | refine swp_scope ?_ | refine thenK_ret ?_ | refine thenK_exit ?_ | refine blockK_normal ?_ | refine blockK_ret ?_ | refine blockK_here ?_ | refine bX ?_ | refine scopeK_normal ?_ | refine scopeK_ret ?_ | refine scopeK_exit ?_ | refine loopK_ret ?_ | refine loopK_exit ?_ | refine dF mixed ?_ | (refine cB (fun hc => ?_) (fun hc => ?_) <;> first | exact False.elim hc | exact absurd hc Bool.false_ne_true | exact absurd hc.symm Bool.false_ne_true | skip) | refine cU ?_ ?_)))
        rw [(recSame_iff _ _).2 rfl]
        (((simp only [push_cast, reduceIte, reduceDIte, reduceCtorEq, Nat.reduceLT, Nat.reduceLeDiff, Nat.reduceEqDiff, Nat.reduceAdd, Nat.reduceMul, Nat.reduceBEq, Nat.reducePow, Int.zero_add, Int.reduceAdd, Int.reduceSub, Int.reduceLT, Int.reduceLE, Int.reduceToNat, Int.reduceNeg, Nat.reduceSub]); repeat (simp (disch := omega) only [idx_map, idx_nat, i64w]; try (simp only [push_cast, reduceIte, reduceDIte, reduceCtorEq, Nat.reduceLT, Nat.reduceLeDiff, Nat.reduceEqDiff, Nat.reduceAdd, Nat.reduceMul, Nat.reduceBEq, Nat.reducePow, Int.zero_add, Int.reduceAdd, Int.reduceSub, Int.reduceLT, Int.reduceLE, Int.reduceToNat, Int.reduceNeg, Nat.reduceSub]))))
attribute [local irreducible] PT
theorem pt_u32 {n : Nat} {xs : List PV} (h : PT Try.prog (n + 1) 67 xs) : ∃ z : Int, xs = [.lit (.int .u32 z)] ∧ 0 ≤ z ∧ z ≤ 4294967295 := by
  obtain ⟨z, rfl, hz⟩ := PT_int (P := Try.prog) (t := 67) Try.underlying67 h
  exact ⟨z, rfl, by simpa [Lit.wf, IntKind.min, IntKind.max, IntKind.signed, IntKind.bits] using hz⟩
theorem dv_u32 (z : Int) : dvT Try.prog 67 [.lit (.int .u32 z)] = lv (.int .u32 z) := by unfold dvT; rw [Try.underlying67]; rfl

end Go.Proofs.Ytkhddlhhbanebaa
