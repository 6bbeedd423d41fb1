/-
  Contracts of functions of the program, over the engine.
  No condition.
-/
import Derived.Test.YtlbadfjonhgppaaCT11T13T18
import Derived.Test.YtlbadfjonhgppaaCT5T8T9T15T21
import Derived.Test.YtlbadfjonhgppaaCT16T17a
namespace Go.Proofs.Ytlbadfjonhgppaa
open Go.Eng
set_option linter.all false
attribute [local irreducible] DCallsG SWp Fct CallQ XCallQ LCallQ XLCallQ drun xrun

theorem gN_ok : netOk gN := by
  refine ⟨⟨by decide, ?_⟩, by decide, ?_⟩
  · intro y hy
    simp only [gN, List.mem_cons, List.not_mem_nil, or_false] at hy
    rcases hy with rfl | rfl | rfl <;> refine ⟨by decide, ⟨by decide, by decide⟩, ⟨⟨by decide, by decide⟩, by decide, by decide⟩, ⟨by decide, by decide⟩, ⟨by decide, by decide⟩, ⟨by decide, ?_⟩, by decide, by decide⟩ <;> intro z hz <;> simp only [List.mem_cons, List.not_mem_nil, or_false] at hz
    rcases hz with rfl | rfl <;> exact ⟨⟨by decide, by decide⟩, by decide, by decide⟩
  · intro y hy
    simp only [gN, List.mem_cons, List.not_mem_nil, or_false] at hy
    rcases hy with rfl | rfl <;> refine ⟨by decide, by decide, by decide, ⟨by decide, by decide⟩, ⟨by decide, by decide⟩, ⟨by decide, by decide⟩, ⟨by decide, by decide⟩, by decide, ⟨by decide, by decide⟩, ⟨by decide, by decide⟩, by decide, ?_⟩ <;> intro z hz <;> exact absurd hz List.not_mem_nil
theorem idx_c0 (a : List PV) (l : List (List PV)) : idx (a :: l) 0 = a := rfl
theorem idx_c1 (a b : List PV) (l : List (List PV)) : idx (a :: b :: l) 1 = b := rfl
theorem idx_c2 (a b c : List PV) (l : List (List PV)) : idx (a :: b :: c :: l) 2 = c := rfl
attribute [push_cast] idx_c0 idx_c1 idx_c2 List.map_cons List.map_nil List.length_cons List.length_nil decide_true decide_false
theorem part_1 (m : Nat) : DCalls Try.prog 68 [li 1000, li 900, li 1500] (hget []) m (li 600) (hget []) := part_f 1000 900 1500 m (by decide) (by decide) (by decide) (by decide) (by decide)
theorem part_2 (m : Nat) : DCalls Try.prog 68 [li 1000, li 1500, li 1500] (hget []) m (li 1000) (hget []) := part_f 1000 1500 1500 m (by decide) (by decide) (by decide) (by decide) (by decide)
set_option maxRecDepth 20000 in
set_option maxHeartbeats 8000000 in
theorem limited_x (m : Nat) : DCalls Try.prog 46 [netD gN, ints [1000, 0, 0], ints [900, 600]] (hget []) m (ints [600, 400]) (hget []) := by
  have co := fun m => outs_f gN m gN_ok gN_valid (by decide)
  simp only [gN_outs] at co
  have cc := fun m => cloneI_f [900, 600] m (by decide)
  refine pureC (n := 82) (rs := [.tmp 6]) (ts := [26]) Try.func46 rfl (by decide) [24] (by (exact SD)) ?_
  (repeat' (first | (show SWp _ _ _ (.loop _) _ _ _ _; refine swp_rounds (lwp_round ?_)) | (show roundK ..; first | refine roundK_ret ?_ | refine roundK_exit ?_ | refine roundK_normal [0, 1, 2, 3, 6, 7, 8, 10, 11, 12, 14, 15, 16, 18, 19, 27, 28, 29, 30, 34, 35, 36, 37, 52, 53, 54, 55, 56] (by (((simp only [push_cast, reduceIte, reduceDIte, reduceCtorEq, Nat.reduceLT, Nat.reduceLeDiff, Nat.reduceEqDiff, Nat.reduceAdd, Nat.reduceMul, Nat.reduceBEq, Nat.reducePow, Int.zero_add, Int.reduceAdd, Int.reduceSub, Int.reduceLT, Int.reduceLE, Int.reduceToNat, Int.reduceNeg, Nat.reduceSub, Int.reduceBNe, Int.reduceBEq]); repeat (simp (disch := omega) only [idx_nat, idx_mapT, i64w, rows_getS, rows_get, getD_set_self, famR_get]; try (simp only [push_cast, reduceIte, reduceDIte, reduceCtorEq, Nat.reduceLT, Nat.reduceLeDiff, Nat.reduceEqDiff, Nat.reduceAdd, Nat.reduceMul, Nat.reduceBEq, Nat.reducePow, Int.zero_add, Int.reduceAdd, Int.reduceSub, Int.reduceLT, Int.reduceLE, Int.reduceToNat, Int.reduceNeg, Nat.reduceSub, Int.reduceBNe, Int.reduceBEq])))) <;> rfl) ?_) | refine swp_seq [0, 1, 2, 3, 6, 7, 8, 10, 11, 12, 14, 15, 16, 18, 19, 27, 28, 29, 30, 34, 35, 36, 37, 52, 53, 54, 55, 56] ?_ | refine st1 ?_ | (show CallQ ..; first | refine cF ?_ | refine cQ (fun hcc => (by first | exact co _ | exact cc _ | exact part_1 _ | exact part_2 _)) ?_ | (refine lP ?_; refine lQ (fun hcc m => (by first | exact co _ | exact cc _ | exact part_1 _ | exact part_2 _)) ?_)) | (show Fct ..; refine fctI (fun hf => ?_)) | (show XCallQ ..; first | refine xcF ?_ | refine xQ (fun hcc => (by first | exact co _ | exact cc _ | exact part_1 _ | exact part_2 _)) ?_ | (refine xlP ?_; refine xlQ (fun hcc m => (by first | exact co _ | exact cc _ | exact part_1 _ | exact part_2 _)) ?_)) | (show SWp _ _ _ (.region _ _ true) _ _ _ _; refine xG mixed [] ?_) | (show SWp _ _ _ (.cond _ _ _) _ _ _ _; first | (refine cB (fun hc => ?_) (fun hc => ?_) <;> first | exact False.elim hc | exact absurd hc Bool.false_ne_true | exact absurd hc.symm Bool.false_ne_true | skip) | refine cU ?_ ?_)))
  all_goals first | rfl | ((((simp only [push_cast, reduceIte, reduceDIte, reduceCtorEq, Nat.reduceLT, Nat.reduceLeDiff, Nat.reduceEqDiff, Nat.reduceAdd, Nat.reduceMul, Nat.reduceBEq, Nat.reducePow, Int.zero_add, Int.reduceAdd, Int.reduceSub, Int.reduceLT, Int.reduceLE, Int.reduceToNat, Int.reduceNeg, Nat.reduceSub, Int.reduceBNe, Int.reduceBEq]); repeat (simp (disch := omega) only [idx_nat, idx_mapT, i64w, rows_getS, rows_get, getD_set_self, famR_get]; try (simp only [push_cast, reduceIte, reduceDIte, reduceCtorEq, Nat.reduceLT, Nat.reduceLeDiff, Nat.reduceEqDiff, Nat.reduceAdd, Nat.reduceMul, Nat.reduceBEq, Nat.reducePow, Int.zero_add, Int.reduceAdd, Int.reduceSub, Int.reduceLT, Int.reduceLE, Int.reduceToNat, Int.reduceNeg, Nat.reduceSub, Int.reduceBNe, Int.reduceBEq])))) <;> rfl)
set_option maxRecDepth 20000 in
set_option maxHeartbeats 8000000 in
theorem Limited_x (m : Nat) : DCalls Try.prog 18 [netD gN, ints [1000, 0, 0], ints [900, 600]] (hget []) m (.tup [ints [600, 400], li 0]) (hget []) := by
  have cv := fun m => netValid_f gN m gN_ok
  simp only [gN_valid] at cv
  have c1 := fun m => conInt_f 44 (fun n => !btwB n 0 9007199254740992) [1000, 0, 0] m (by decide) (fun x _ m => lim1_f x m)
  have c2 := fun m => conInt_f 45 (fun n => !btwB n 0 1125899906842624) [900, 600] m (by decide) (fun x _ m => lim2_f x m)
  have b1 : (([1000, 0, 0] : List Int).any fun n => !btwB n 0 9007199254740992) = false := by decide
  have b2 : (([900, 600] : List Int).any fun n => !btwB n 0 1125899906842624) = false := by decide
  simp only [b1] at c1
  simp only [b2] at c2
  have e3 : (3 : Int) = gN.nodes.length := rfl
  have e2 : (2 : Int) = gN.links.length := rfl
  (have := Nonempty.intro e3)
  (have := Nonempty.intro e2)
  refine pureC (n := 38) (rs := [.tmp 6, .tmp 7]) (ts := [26, 33]) Try.func18 rfl (by decide) [] (by (exact SD)) ?_
  (repeat' (first | refine swp_seq [0, 1, 2, 3, 6, 7, 8, 12, 27] ?_ | refine st1 ?_ | (show CallQ ..; first | refine cF ?_ | refine cQ (fun hcc => (by first | exact cv _ | exact c1 _ | exact c2 _ | exact limited_x _)) ?_ | (refine lP ?_; refine lQ (fun hcc m => (by first | exact cv _ | exact c1 _ | exact c2 _ | exact limited_x _)) ?_)) | (show Fct ..; refine fctI (fun hf => ?_)) | (show XCallQ ..; first | refine xcF ?_ | refine xQ (fun hcc => (by first | exact cv _ | exact c1 _ | exact c2 _ | exact limited_x _)) ?_ | (refine xlP ?_; refine xlQ (fun hcc m => (by first | exact cv _ | exact c1 _ | exact c2 _ | exact limited_x _)) ?_)) | (show SWp _ _ _ (.region _ _ true) _ _ _ _; refine xG mixed [] ?_) | (show SWp _ _ _ (.cond _ _ _) _ _ _ _; first | (refine cB (fun hc => ?_) (fun hc => ?_) <;> first | exact False.elim hc | exact absurd hc Bool.false_ne_true | exact absurd hc.symm Bool.false_ne_true | skip) | refine cU ?_ ?_)))
  all_goals first | rfl | ((((simp only [push_cast, reduceIte, reduceDIte, reduceCtorEq, Nat.reduceLT, Nat.reduceLeDiff, Nat.reduceEqDiff, Nat.reduceAdd, Nat.reduceMul, Nat.reduceBEq, Nat.reducePow, Int.zero_add, Int.reduceAdd, Int.reduceSub, Int.reduceLT, Int.reduceLE, Int.reduceToNat, Int.reduceNeg, Nat.reduceSub, Int.reduceBNe, Int.reduceBEq]); repeat (simp (disch := omega) only [idx_nat, idx_mapT, i64w, rows_getS, rows_get, getD_set_self, famR_get]; try (simp only [push_cast, reduceIte, reduceDIte, reduceCtorEq, Nat.reduceLT, Nat.reduceLeDiff, Nat.reduceEqDiff, Nat.reduceAdd, Nat.reduceMul, Nat.reduceBEq, Nat.reducePow, Int.zero_add, Int.reduceAdd, Int.reduceSub, Int.reduceLT, Int.reduceLE, Int.reduceToNat, Int.reduceNeg, Nat.reduceSub, Int.reduceBNe, Int.reduceBEq])))) <;> rfl)
theorem Limited_g : DCallsG Try.prog 18 [0, 1] [netD gN, .gl 0, .gl 1] (hget [(0, inLt [1000, 0, 0]), (1, inLt [900, 600])]) 2 (.tup [ints [600, 400], li 0]) (hget []) :=
  DCallsG.give (x := .elems 1 ([1000, 0, 0].map inRow)) rfl rfl rfl (DCallsG.give (x := .elems 1 ([900, 600].map inRow)) rfl rfl rfl (Limited_x 2))
set_option maxRecDepth 20000 in
set_option maxHeartbeats 8000000 in
theorem awake_f (m : Nat) : DCalls Try.prog 4 [] (hget []) m (lb true) (hget []) := by
  have ce := fun m => eqlInt_f [600, 400] [600, 400] m (by decide) (by decide)
  rw [decide_eq_true rfl] at ce
  refine pureC (n := 17) (rs := [.tmp 0]) (ts := [4]) Try.func4 rfl (by decide) [] (by (exact SD)) ?_
  (repeat' (first | refine swp_seq [0, 1, 2] ?_ | refine st1 ?_ | (show CallQ ..; first | refine cF ?_ | refine cQ (fun hcc => (by first | exact example_f _)) ?_ | (refine lP ?_; refine lQ (fun hcc m => (by first | exact example_f _)) ?_)) | (show Fct ..; refine fctI (fun hf => ?_)) | (show XCallQ ..; first | refine xcF ?_ | refine xQ (fun hcc => (by first | exact example_f _)) ?_ | (refine xlP ?_; refine xlQ (fun hcc m => (by first | exact example_f _)) ?_)) | (show SWp _ _ _ (.region _ _ true) _ _ _ _; refine xG mixed [] ?_) | (show SWp _ _ _ (.cond _ _ _) _ _ _ _; first | (refine cB (fun hc => ?_) (fun hc => ?_) <;> first | exact False.elim hc | exact absurd hc Bool.false_ne_true | exact absurd hc.symm Bool.false_ne_true | skip) | refine cU ?_ ?_)))
  refine cQT [16, 24] (fun hcc => Limited_g) ?_ (hC := fun _ _ => Nat.zero_le _) (hCn := by intro i hi; simp only [List.map_cons, List.map_nil, List.mem_cons, List.not_mem_nil, or_false] at hi; rcases hi with rfl | rfl <;> rfl)
  (repeat' (first | refine swp_seq [0, 1, 2] ?_ | refine st1 ?_ | (show CallQ ..; first | refine cF ?_ | refine cQ (fun hcc => (by first | exact ce _)) ?_ | (refine lP ?_; refine lQ (fun hcc m => (by first | exact ce _)) ?_)) | (show Fct ..; refine fctI (fun hf => ?_)) | (show XCallQ ..; first | refine xcF ?_ | refine xQ (fun hcc => (by first | exact ce _)) ?_ | (refine xlP ?_; refine xlQ (fun hcc m => (by first | exact ce _)) ?_)) | (show SWp _ _ _ (.region _ _ true) _ _ _ _; refine xG mixed [] ?_) | (show SWp _ _ _ (.cond _ _ _) _ _ _ _; first | (refine cB (fun hc => ?_) (fun hc => ?_) <;> first | exact False.elim hc | exact absurd hc Bool.false_ne_true | exact absurd hc.symm Bool.false_ne_true | skip) | refine cU ?_ ?_)))
  all_goals first | rfl | ((((simp only [push_cast, reduceIte, reduceDIte, reduceCtorEq, Nat.reduceLT, Nat.reduceLeDiff, Nat.reduceEqDiff, Nat.reduceAdd, Nat.reduceMul, Nat.reduceBEq, Nat.reducePow, Int.zero_add, Int.reduceAdd, Int.reduceSub, Int.reduceLT, Int.reduceLE, Int.reduceToNat, Int.reduceNeg, Nat.reduceSub, Int.reduceBNe, Int.reduceBEq]); repeat (simp (disch := omega) only [idx_nat, idx_mapT, i64w, rows_getS, rows_get, getD_set_self, famR_get]; try (simp only [push_cast, reduceIte, reduceDIte, reduceCtorEq, Nat.reduceLT, Nat.reduceLeDiff, Nat.reduceEqDiff, Nat.reduceAdd, Nat.reduceMul, Nat.reduceBEq, Nat.reducePow, Int.zero_add, Int.reduceAdd, Int.reduceSub, Int.reduceLT, Int.reduceLE, Int.reduceToNat, Int.reduceNeg, Nat.reduceSub, Int.reduceBNe, Int.reduceBEq])))) <;> rfl)

end Go.Proofs.Ytlbadfjonhgppaa
