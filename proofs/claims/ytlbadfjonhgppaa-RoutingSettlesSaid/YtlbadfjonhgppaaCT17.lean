/-
  Contracts of functions of the program, over the engine.
  No condition.
-/
import Derived.Test.YtlbadfjonhgppaaCT16T17a
namespace Go.Proofs.Ytlbadfjonhgppaa
open Go.Eng
set_option linter.all false
attribute [local irreducible] DCallsG SWp Fct CallQ XCallQ LCallQ XLCallQ drun xrun
set_option maxRecDepth 20000 in
set_option maxHeartbeats 16000000 in
theorem settlesL_f (n : Net) (s : Sta) (k : Int) (l : List Int) (m : Nat) (hn : netOk n) (hs : staOk s) (hl : l.length ≤ 281474976710656) (hL : largeB n = true) (aw : ∀ m, DCalls Try.prog 4 [] (hget []) m (lb true) (hget [])) : DCalls Try.prog 3 [netD n, staD s, li k, ints l] (hget []) m (lb true) (hget []) := by
  have eL := fun m => large_f n m hn
  have eG := fun m => long_f s [l] m hs (by simp) (fun x hx => by simp at hx; subst hx; exact hl)
  simp only [hL] at eL
  refine pureC (n := 193) (rs := [.tmp 8]) (ts := [4]) Try.func3 rfl (by decide) [] (by (exact SD)) ?_
  (repeat' (first | refine swp_seq [0, 1, 2, 3, 4, 5, 8, 9, 10, 11, 12, 13, 14, 15, 16, 17, 18, 19, 20, 22, 23, 24, 25, 27, 35, 57, 61, 71, 78, 84, 86, 92, 107, 116, 146, 147, 148, 149, 165] ?_ | refine st1 ?_ | (show CallQ ..; first | refine cF ?_ | refine cQ (fun hcc => (by first | exact aw _ | exact eL _)) ?_ | (refine lP ?_; refine lQ (fun hcc m => (by first | exact aw _ | exact eL _)) ?_)) | (show Fct ..; refine fctI (fun hf => ?_)) | (show XCallQ ..; first | refine xcF ?_ | refine xQ (fun hcc => (by first | exact aw _ | exact eL _)) ?_ | (refine xlP ?_; refine xlQ (fun hcc m => (by first | exact aw _ | exact eL _)) ?_)) | (show SWp _ _ _ (.region _ _ true) _ _ _ _; refine xG mixed [] ?_) | (show SWp _ _ _ (.cond _ _ _) _ _ _ _; first | (refine cB (fun hc => ?_) (fun hc => ?_) <;> first | exact False.elim hc | exact absurd hc Bool.false_ne_true | exact absurd hc.symm Bool.false_ne_true | skip) | refine cU ?_ ?_)))
  (((simp only [push_cast, reduceIte, reduceDIte, reduceCtorEq, Nat.reduceLT, Nat.reduceLeDiff, Nat.reduceEqDiff, Nat.reduceAdd, Nat.reduceMul, Nat.reduceBEq, Nat.reducePow, Int.zero_add, Int.reduceAdd, Int.reduceSub, Int.reduceLT, Int.reduceLE, Int.reduceToNat, Int.reduceNeg, Nat.reduceSub, Int.reduceBNe, Int.reduceBEq]); repeat (simp (disch := omega) only [idx_nat, idx_mapT, i64w, rows_getS, rows_get, getD_set_self, famR_get]; try (simp only [push_cast, reduceIte, reduceDIte, reduceCtorEq, Nat.reduceLT, Nat.reduceLeDiff, Nat.reduceEqDiff, Nat.reduceAdd, Nat.reduceMul, Nat.reduceBEq, Nat.reducePow, Int.zero_add, Int.reduceAdd, Int.reduceSub, Int.reduceLT, Int.reduceLE, Int.reduceToNat, Int.reduceNeg, Nat.reduceSub, Int.reduceBNe, Int.reduceBEq]))))
set_option maxRecDepth 20000 in
set_option maxHeartbeats 16000000 in
theorem settlesG_f (n : Net) (s : Sta) (k : Int) (l : List Int) (m : Nat) (hn : netOk n) (hs : staOk s) (hl : l.length ≤ 281474976710656) (hL : largeB n = false) (hG : longB s [l] = true) (aw : ∀ m, DCalls Try.prog 4 [] (hget []) m (lb true) (hget [])) : DCalls Try.prog 3 [netD n, staD s, li k, ints l] (hget []) m (lb true) (hget []) := by
  have eL := fun m => large_f n m hn
  have eG := fun m => long_f s [l] m hs (by simp) (fun x hx => by simp at hx; subst hx; exact hl)
  simp only [hL] at eL
  simp only [hG] at eG
  refine pureC (n := 193) (rs := [.tmp 8]) (ts := [4]) Try.func3 rfl (by decide) [] (by (exact SD)) ?_
  (repeat' (first | refine swp_seq [0, 1, 2, 3, 4, 5, 8, 9, 10, 11, 12, 13, 14, 15, 16, 17, 18, 19, 20, 22, 23, 24, 25, 27, 35, 57, 61, 71, 78, 84, 86, 92, 107, 116, 146, 147, 148, 149, 165] ?_ | refine st1 ?_ | (show CallQ ..; first | refine cF ?_ | refine cQ (fun hcc => (by first | exact aw _ | exact eL _ | exact eG _)) ?_ | (refine lP ?_; refine lQ (fun hcc m => (by first | exact aw _ | exact eL _ | exact eG _)) ?_)) | (show Fct ..; refine fctI (fun hf => ?_)) | (show XCallQ ..; first | refine xcF ?_ | refine xQ (fun hcc => (by first | exact aw _ | exact eL _ | exact eG _)) ?_ | (refine xlP ?_; refine xlQ (fun hcc m => (by first | exact aw _ | exact eL _ | exact eG _)) ?_)) | (show SWp _ _ _ (.region _ _ true) _ _ _ _; refine xG mixed [] ?_) | (show SWp _ _ _ (.cond _ _ _) _ _ _ _; first | (refine cB (fun hc => ?_) (fun hc => ?_) <;> first | exact False.elim hc | exact absurd hc Bool.false_ne_true | exact absurd hc.symm Bool.false_ne_true | skip) | refine cU ?_ ?_)))
  (((simp only [push_cast, reduceIte, reduceDIte, reduceCtorEq, Nat.reduceLT, Nat.reduceLeDiff, Nat.reduceEqDiff, Nat.reduceAdd, Nat.reduceMul, Nat.reduceBEq, Nat.reducePow, Int.zero_add, Int.reduceAdd, Int.reduceSub, Int.reduceLT, Int.reduceLE, Int.reduceToNat, Int.reduceNeg, Nat.reduceSub, Int.reduceBNe, Int.reduceBEq]); repeat (simp (disch := omega) only [idx_nat, idx_mapT, i64w, rows_getS, rows_get, getD_set_self, famR_get]; try (simp only [push_cast, reduceIte, reduceDIte, reduceCtorEq, Nat.reduceLT, Nat.reduceLeDiff, Nat.reduceEqDiff, Nat.reduceAdd, Nat.reduceMul, Nat.reduceBEq, Nat.reducePow, Int.zero_add, Int.reduceAdd, Int.reduceSub, Int.reduceLT, Int.reduceLE, Int.reduceToNat, Int.reduceNeg, Nat.reduceSub, Int.reduceBNe, Int.reduceBEq]))))
set_option maxRecDepth 20000 in
set_option maxHeartbeats 16000000 in
theorem head1_f (n : Net) (s : Sta) (k : Int) (l : List Int) (m : Nat) (hn : netOk n) (hs : staOk s) (hl : l.length ≤ 281474976710656) (hL : largeB n = false) (hG : longB s [l] = false) (hv : netB n = false) (T : Sta) (Z E : Int) (W : List ByteArray) (F : Int) (eS : ∀ m, DCalls Try.prog 7 [netD n, staD s] (hget []) m (.tup [staD T, li Z, li E]) (hget [])) (eP : ∀ m, DCalls Try.prog 8 [netD n, staD s] (hget []) m (.tup [strs W, li F]) (hget [])) (tail : TailS n s T Z E W F) (aw : ∀ m, DCalls Try.prog 4 [] (hget []) m (lb true) (hget [])) : DCalls Try.prog 3 [netD n, staD s, li k, ints l] (hget []) m (lb true) (hget []) := by
  have eL := fun m => large_f n m hn
  have eG := fun m => long_f s [l] m hs (by simp) (fun x hx => by simp at hx; subst hx; exact hl)
  have h14 : n.nodes.length ≤ 14 := by unfold largeB at hL; simp at hL; omega
  simp only [hL] at eL
  simp only [hG] at eG
  have eQ := fun m => passed_f n k l m hn h14 hl
  have eV := fun m => rNetValid_f n m hn
  have eR := fun m => rRanges_f l 9007199254740992 m hl
  have n10 : ¬ (1 : Int) = 0 := by decide
  have n20 : ¬ (2 : Int) = 0 := by decide
  have n30 : ¬ (3 : Int) = 0 := by decide
  have hp : passE n k l = 1 := by unfold passE; rw [if_pos hv]
  simp only [hv, hp, n10, if_false] at eQ eV
  refine pureC (n := 193) (rs := [.tmp 8]) (ts := [4]) Try.func3 rfl (by decide) [] (by (exact SD)) ?_
  (repeat' (first | (show SWp _ _ _ (.seq (.seq (.region 25 _ _) _) _) _ _ _ _; refine (swp_cut [4, 5, 9, 10, 11, 12, 13] [0, 8, 160] 161 tail (by omega) (by (((simp only [push_cast, reduceIte, reduceDIte, reduceCtorEq, Nat.reduceLT, Nat.reduceLeDiff, Nat.reduceEqDiff, Nat.reduceAdd, Nat.reduceMul, Nat.reduceBEq, Nat.reducePow, Int.zero_add, Int.reduceAdd, Int.reduceSub, Int.reduceLT, Int.reduceLE, Int.reduceToNat, Int.reduceNeg, Nat.reduceSub, Int.reduceBNe, Int.reduceBEq]); repeat (simp (disch := omega) only [idx_nat, idx_mapT, i64w, rows_getS, rows_get, getD_set_self, famR_get]; try (simp only [push_cast, reduceIte, reduceDIte, reduceCtorEq, Nat.reduceLT, Nat.reduceLeDiff, Nat.reduceEqDiff, Nat.reduceAdd, Nat.reduceMul, Nat.reduceBEq, Nat.reducePow, Int.zero_add, Int.reduceAdd, Int.reduceSub, Int.reduceLT, Int.reduceLE, Int.reduceToNat, Int.reduceNeg, Nat.reduceSub, Int.reduceBNe, Int.reduceBEq])))) <;> rfl) (by (((simp only [push_cast, reduceIte, reduceDIte, reduceCtorEq, Nat.reduceLT, Nat.reduceLeDiff, Nat.reduceEqDiff, Nat.reduceAdd, Nat.reduceMul, Nat.reduceBEq, Nat.reducePow, Int.zero_add, Int.reduceAdd, Int.reduceSub, Int.reduceLT, Int.reduceLE, Int.reduceToNat, Int.reduceNeg, Nat.reduceSub, Int.reduceBNe, Int.reduceBEq]); repeat (simp (disch := omega) only [idx_nat, idx_mapT, i64w, rows_getS, rows_get, getD_set_self, famR_get]; try (simp only [push_cast, reduceIte, reduceDIte, reduceCtorEq, Nat.reduceLT, Nat.reduceLeDiff, Nat.reduceEqDiff, Nat.reduceAdd, Nat.reduceMul, Nat.reduceBEq, Nat.reducePow, Int.zero_add, Int.reduceAdd, Int.reduceSub, Int.reduceLT, Int.reduceLE, Int.reduceToNat, Int.reduceNeg, Nat.reduceSub, Int.reduceBNe, Int.reduceBEq])))) <;> rfl) (by (exact SD)) (by (exact SD)))) | refine swp_seq [0, 1, 2, 3, 4, 5, 8, 9, 10, 11, 12, 13, 14, 15, 16, 17, 18, 19, 20, 22, 23, 24, 25, 27, 35, 57, 61, 71, 78, 84, 86, 92, 107, 116, 146, 147, 148, 149, 165] ?_ | refine st1 ?_ | (show CallQ ..; first | refine cF ?_ | refine cQ (fun hcc => (by first | exact aw _ | exact eL _ | exact eG _ | exact eS _ | exact eP _ | exact eQ _ | exact eV _ | exact eR _)) ?_ | (refine lP ?_; refine lQ (fun hcc m => (by first | exact aw _ | exact eL _ | exact eG _ | exact eS _ | exact eP _ | exact eQ _ | exact eV _ | exact eR _)) ?_)) | (show Fct ..; refine fctI (fun hf => ?_)) | (show XCallQ ..; first | refine xcF ?_ | refine xQ (fun hcc => (by first | exact aw _ | exact eL _ | exact eG _ | exact eS _ | exact eP _ | exact eQ _ | exact eV _ | exact eR _)) ?_ | (refine xlP ?_; refine xlQ (fun hcc m => (by first | exact aw _ | exact eL _ | exact eG _ | exact eS _ | exact eP _ | exact eQ _ | exact eV _ | exact eR _)) ?_)) | (show SWp _ _ _ (.region _ _ true) _ _ _ _; refine xG mixed [] ?_) | (show SWp _ _ _ (.cond _ _ _) _ _ _ _; first | (refine cB (fun hc => ?_) (fun hc => ?_) <;> first | exact False.elim hc | exact absurd hc Bool.false_ne_true | exact absurd hc.symm Bool.false_ne_true | skip) | refine cU ?_ ?_)))
  all_goals omega
set_option maxRecDepth 20000 in
set_option maxHeartbeats 16000000 in
theorem head20_f (n : Net) (s : Sta) (k : Int) (l : List Int) (m : Nat) (hn : netOk n) (hs : staOk s) (hl : l.length ≤ 281474976710656) (hL : largeB n = false) (hG : longB s [l] = false) (hv : netB n = true) (k1 : ¬ k < 0) (k2 : ¬ (n.nodes.length : Int) ≤ k) (k3 : l.length = n.links.length) (k4 : rangB l 9007199254740992 = true) (T : Sta) (Z E : Int) (W : List ByteArray) (F : Int) (eS : ∀ m, DCalls Try.prog 7 [netD n, staD s] (hget []) m (.tup [staD T, li Z, li E]) (hget [])) (eP : ∀ m, DCalls Try.prog 8 [netD n, staD s] (hget []) m (.tup [strs W, li F]) (hget [])) (tail : TailS n s T Z E W F) (aw : ∀ m, DCalls Try.prog 4 [] (hget []) m (lb true) (hget [])) : DCalls Try.prog 3 [netD n, staD s, li k, ints l] (hget []) m (lb true) (hget []) := by
  have eL := fun m => large_f n m hn
  have eG := fun m => long_f s [l] m hs (by simp) (fun x hx => by simp at hx; subst hx; exact hl)
  have h14 : n.nodes.length ≤ 14 := by unfold largeB at hL; simp at hL; omega
  simp only [hL] at eL
  simp only [hG] at eG
  have eQ := fun m => passed_f n k l m hn h14 hl
  have eV := fun m => rNetValid_f n m hn
  have eR := fun m => rRanges_f l 9007199254740992 m hl
  have n10 : ¬ (1 : Int) = 0 := by decide
  have n20 : ¬ (2 : Int) = 0 := by decide
  have n30 : ¬ (3 : Int) = 0 := by decide
  have a1 := netB_len hv
  have hp : passE n k l = 0 := by unfold passE; rw [if_neg (by rw [hv]; simp), if_neg (by omega), if_neg (by omega), if_neg (by rw [k4]; simp)]
  have q3 : (l.length : Int) = n.links.length := by omega
  (have := Nonempty.intro k1)
  (have := Nonempty.intro k2)
  (have := Nonempty.intro q3)
  have eW := fun m => rPassed_f n k.toNat l m a1.1 a1.2 (by omega) k3 k4
  rw [show ((k.toNat : Nat) : Int) = k by omega] at eW
  simp only [k4] at eR
  simp only [hv, hp, n10, n20, n30, if_true, if_false] at eQ eV
  generalize hX : selI (toB n k.toNat) l n.links.length = X at *
  generalize hY : selI (froB n k.toNat) l n.links.length = Y at *
  have hXX : X = X := rfl
  have hYY : Y = Y := rfl
  (have := Nonempty.intro hXX)
  (have := Nonempty.intro hYY)
  refine pureC (n := 193) (rs := [.tmp 8]) (ts := [4]) Try.func3 rfl (by decide) [] (by (exact SD)) ?_
  (repeat' (first | (show SWp _ _ _ (.seq (.seq (.region 25 _ _) _) _) _ _ _ _; refine (swp_cut [4, 5, 9, 10, 11, 12, 13] [0, 8, 160] 161 tail (by omega) (by (((simp only [push_cast, reduceIte, reduceDIte, reduceCtorEq, Nat.reduceLT, Nat.reduceLeDiff, Nat.reduceEqDiff, Nat.reduceAdd, Nat.reduceMul, Nat.reduceBEq, Nat.reducePow, Int.zero_add, Int.reduceAdd, Int.reduceSub, Int.reduceLT, Int.reduceLE, Int.reduceToNat, Int.reduceNeg, Nat.reduceSub, Int.reduceBNe, Int.reduceBEq]); repeat (simp (disch := omega) only [idx_nat, idx_mapT, i64w, rows_getS, rows_get, getD_set_self, famR_get]; try (simp only [push_cast, reduceIte, reduceDIte, reduceCtorEq, Nat.reduceLT, Nat.reduceLeDiff, Nat.reduceEqDiff, Nat.reduceAdd, Nat.reduceMul, Nat.reduceBEq, Nat.reducePow, Int.zero_add, Int.reduceAdd, Int.reduceSub, Int.reduceLT, Int.reduceLE, Int.reduceToNat, Int.reduceNeg, Nat.reduceSub, Int.reduceBNe, Int.reduceBEq])))) <;> rfl) (by (((simp only [push_cast, reduceIte, reduceDIte, reduceCtorEq, Nat.reduceLT, Nat.reduceLeDiff, Nat.reduceEqDiff, Nat.reduceAdd, Nat.reduceMul, Nat.reduceBEq, Nat.reducePow, Int.zero_add, Int.reduceAdd, Int.reduceSub, Int.reduceLT, Int.reduceLE, Int.reduceToNat, Int.reduceNeg, Nat.reduceSub, Int.reduceBNe, Int.reduceBEq]); repeat (simp (disch := omega) only [idx_nat, idx_mapT, i64w, rows_getS, rows_get, getD_set_self, famR_get]; try (simp only [push_cast, reduceIte, reduceDIte, reduceCtorEq, Nat.reduceLT, Nat.reduceLeDiff, Nat.reduceEqDiff, Nat.reduceAdd, Nat.reduceMul, Nat.reduceBEq, Nat.reducePow, Int.zero_add, Int.reduceAdd, Int.reduceSub, Int.reduceLT, Int.reduceLE, Int.reduceToNat, Int.reduceNeg, Nat.reduceSub, Int.reduceBNe, Int.reduceBEq])))) <;> rfl) (by (exact SD)) (by (exact SD)))) | refine swp_seq [0, 1, 2, 3, 4, 5, 8, 9, 10, 11, 12, 13, 14, 15, 16, 17, 18, 19, 20, 22, 23, 24, 25, 27, 35, 57, 61, 71, 78, 84, 86, 92, 107, 116, 146, 147, 148, 149, 165] ?_ | refine st1 ?_ | (show CallQ ..; first | refine cF ?_ | refine cQ (fun hcc => (by first | exact aw _ | exact eL _ | exact eG _ | exact eS _ | exact eP _ | exact eQ _ | exact eV _ | exact eR _ | exact eW _)) ?_ | (refine lP ?_; refine lQ (fun hcc m => (by first | exact aw _ | exact eL _ | exact eG _ | exact eS _ | exact eP _ | exact eQ _ | exact eV _ | exact eR _ | exact eW _)) ?_)) | (show Fct ..; refine fctI (fun hf => ?_)) | (show XCallQ ..; first | refine xcF ?_ | refine xQ (fun hcc => (by first | exact aw _ | exact eL _ | exact eG _ | exact eS _ | exact eP _ | exact eQ _ | exact eV _ | exact eR _ | exact eW _)) ?_ | (refine xlP ?_; refine xlQ (fun hcc m => (by first | exact aw _ | exact eL _ | exact eG _ | exact eS _ | exact eP _ | exact eQ _ | exact eV _ | exact eR _ | exact eW _)) ?_)) | (show SWp _ _ _ (.region _ _ true) _ _ _ _; refine xG mixed [] ?_) | (show SWp _ _ _ (.cond _ _ _) _ _ _ _; first | (refine cB (fun hc => ?_) (fun hc => ?_) <;> first | exact False.elim hc | exact absurd hc Bool.false_ne_true | exact absurd hc.symm Bool.false_ne_true | skip) | refine cU ?_ ?_)))
  all_goals omega
set_option maxRecDepth 20000 in
set_option maxHeartbeats 16000000 in
theorem head21_f (n : Net) (s : Sta) (k : Int) (l : List Int) (m : Nat) (hn : netOk n) (hs : staOk s) (hl : l.length ≤ 281474976710656) (hL : largeB n = false) (hG : longB s [l] = false) (hv : netB n = true) (k1 : k < 0) (T : Sta) (Z E : Int) (W : List ByteArray) (F : Int) (eS : ∀ m, DCalls Try.prog 7 [netD n, staD s] (hget []) m (.tup [staD T, li Z, li E]) (hget [])) (eP : ∀ m, DCalls Try.prog 8 [netD n, staD s] (hget []) m (.tup [strs W, li F]) (hget [])) (tail : TailS n s T Z E W F) (aw : ∀ m, DCalls Try.prog 4 [] (hget []) m (lb true) (hget [])) : DCalls Try.prog 3 [netD n, staD s, li k, ints l] (hget []) m (lb true) (hget []) := by
  have eL := fun m => large_f n m hn
  have eG := fun m => long_f s [l] m hs (by simp) (fun x hx => by simp at hx; subst hx; exact hl)
  have h14 : n.nodes.length ≤ 14 := by unfold largeB at hL; simp at hL; omega
  simp only [hL] at eL
  simp only [hG] at eG
  have eQ := fun m => passed_f n k l m hn h14 hl
  have eV := fun m => rNetValid_f n m hn
  have eR := fun m => rRanges_f l 9007199254740992 m hl
  have n10 : ¬ (1 : Int) = 0 := by decide
  have n20 : ¬ (2 : Int) = 0 := by decide
  have n30 : ¬ (3 : Int) = 0 := by decide
  have hp : passE n k l = 2 := by unfold passE; rw [if_neg (by rw [hv]; simp), if_pos (by omega)]
  (have := Nonempty.intro k1)
  simp only [hv, hp, n10, n20, n30, if_true, if_false] at eQ eV
  refine pureC (n := 193) (rs := [.tmp 8]) (ts := [4]) Try.func3 rfl (by decide) [] (by (exact SD)) ?_
  (repeat' (first | (show SWp _ _ _ (.seq (.seq (.region 25 _ _) _) _) _ _ _ _; refine (swp_cut [4, 5, 9, 10, 11, 12, 13] [0, 8, 160] 161 tail (by omega) (by (((simp only [push_cast, reduceIte, reduceDIte, reduceCtorEq, Nat.reduceLT, Nat.reduceLeDiff, Nat.reduceEqDiff, Nat.reduceAdd, Nat.reduceMul, Nat.reduceBEq, Nat.reducePow, Int.zero_add, Int.reduceAdd, Int.reduceSub, Int.reduceLT, Int.reduceLE, Int.reduceToNat, Int.reduceNeg, Nat.reduceSub, Int.reduceBNe, Int.reduceBEq]); repeat (simp (disch := omega) only [idx_nat, idx_mapT, i64w, rows_getS, rows_get, getD_set_self, famR_get]; try (simp only [push_cast, reduceIte, reduceDIte, reduceCtorEq, Nat.reduceLT, Nat.reduceLeDiff, Nat.reduceEqDiff, Nat.reduceAdd, Nat.reduceMul, Nat.reduceBEq, Nat.reducePow, Int.zero_add, Int.reduceAdd, Int.reduceSub, Int.reduceLT, Int.reduceLE, Int.reduceToNat, Int.reduceNeg, Nat.reduceSub, Int.reduceBNe, Int.reduceBEq])))) <;> rfl) (by (((simp only [push_cast, reduceIte, reduceDIte, reduceCtorEq, Nat.reduceLT, Nat.reduceLeDiff, Nat.reduceEqDiff, Nat.reduceAdd, Nat.reduceMul, Nat.reduceBEq, Nat.reducePow, Int.zero_add, Int.reduceAdd, Int.reduceSub, Int.reduceLT, Int.reduceLE, Int.reduceToNat, Int.reduceNeg, Nat.reduceSub, Int.reduceBNe, Int.reduceBEq]); repeat (simp (disch := omega) only [idx_nat, idx_mapT, i64w, rows_getS, rows_get, getD_set_self, famR_get]; try (simp only [push_cast, reduceIte, reduceDIte, reduceCtorEq, Nat.reduceLT, Nat.reduceLeDiff, Nat.reduceEqDiff, Nat.reduceAdd, Nat.reduceMul, Nat.reduceBEq, Nat.reducePow, Int.zero_add, Int.reduceAdd, Int.reduceSub, Int.reduceLT, Int.reduceLE, Int.reduceToNat, Int.reduceNeg, Nat.reduceSub, Int.reduceBNe, Int.reduceBEq])))) <;> rfl) (by (exact SD)) (by (exact SD)))) | refine swp_seq [0, 1, 2, 3, 4, 5, 8, 9, 10, 11, 12, 13, 14, 15, 16, 17, 18, 19, 20, 22, 23, 24, 25, 27, 35, 57, 61, 71, 78, 84, 86, 92, 107, 116, 146, 147, 148, 149, 165] ?_ | refine st1 ?_ | (show CallQ ..; first | refine cF ?_ | refine cQ (fun hcc => (by first | exact aw _ | exact eL _ | exact eG _ | exact eS _ | exact eP _ | exact eQ _ | exact eV _ | exact eR _)) ?_ | (refine lP ?_; refine lQ (fun hcc m => (by first | exact aw _ | exact eL _ | exact eG _ | exact eS _ | exact eP _ | exact eQ _ | exact eV _ | exact eR _)) ?_)) | (show Fct ..; refine fctI (fun hf => ?_)) | (show XCallQ ..; first | refine xcF ?_ | refine xQ (fun hcc => (by first | exact aw _ | exact eL _ | exact eG _ | exact eS _ | exact eP _ | exact eQ _ | exact eV _ | exact eR _)) ?_ | (refine xlP ?_; refine xlQ (fun hcc m => (by first | exact aw _ | exact eL _ | exact eG _ | exact eS _ | exact eP _ | exact eQ _ | exact eV _ | exact eR _)) ?_)) | (show SWp _ _ _ (.region _ _ true) _ _ _ _; refine xG mixed [] ?_) | (show SWp _ _ _ (.cond _ _ _) _ _ _ _; first | (refine cB (fun hc => ?_) (fun hc => ?_) <;> first | exact False.elim hc | exact absurd hc Bool.false_ne_true | exact absurd hc.symm Bool.false_ne_true | skip) | refine cU ?_ ?_)))
  all_goals omega
set_option maxRecDepth 20000 in
set_option maxHeartbeats 16000000 in
theorem head22_f (n : Net) (s : Sta) (k : Int) (l : List Int) (m : Nat) (hn : netOk n) (hs : staOk s) (hl : l.length ≤ 281474976710656) (hL : largeB n = false) (hG : longB s [l] = false) (hv : netB n = true) (k1 : ¬ k < 0) (k2 : (n.nodes.length : Int) ≤ k) (T : Sta) (Z E : Int) (W : List ByteArray) (F : Int) (eS : ∀ m, DCalls Try.prog 7 [netD n, staD s] (hget []) m (.tup [staD T, li Z, li E]) (hget [])) (eP : ∀ m, DCalls Try.prog 8 [netD n, staD s] (hget []) m (.tup [strs W, li F]) (hget [])) (tail : TailS n s T Z E W F) (aw : ∀ m, DCalls Try.prog 4 [] (hget []) m (lb true) (hget [])) : DCalls Try.prog 3 [netD n, staD s, li k, ints l] (hget []) m (lb true) (hget []) := by
  have eL := fun m => large_f n m hn
  have eG := fun m => long_f s [l] m hs (by simp) (fun x hx => by simp at hx; subst hx; exact hl)
  have h14 : n.nodes.length ≤ 14 := by unfold largeB at hL; simp at hL; omega
  simp only [hL] at eL
  simp only [hG] at eG
  have eQ := fun m => passed_f n k l m hn h14 hl
  have eV := fun m => rNetValid_f n m hn
  have eR := fun m => rRanges_f l 9007199254740992 m hl
  have n10 : ¬ (1 : Int) = 0 := by decide
  have n20 : ¬ (2 : Int) = 0 := by decide
  have n30 : ¬ (3 : Int) = 0 := by decide
  have hp : passE n k l = 2 := by unfold passE; rw [if_neg (by rw [hv]; simp), if_pos (by omega)]
  (have := Nonempty.intro k1)
  (have := Nonempty.intro k2)
  simp only [hv, hp, n10, n20, n30, if_true, if_false] at eQ eV
  refine pureC (n := 193) (rs := [.tmp 8]) (ts := [4]) Try.func3 rfl (by decide) [] (by (exact SD)) ?_
  (repeat' (first | (show SWp _ _ _ (.seq (.seq (.region 25 _ _) _) _) _ _ _ _; refine (swp_cut [4, 5, 9, 10, 11, 12, 13] [0, 8, 160] 161 tail (by omega) (by (((simp only [push_cast, reduceIte, reduceDIte, reduceCtorEq, Nat.reduceLT, Nat.reduceLeDiff, Nat.reduceEqDiff, Nat.reduceAdd, Nat.reduceMul, Nat.reduceBEq, Nat.reducePow, Int.zero_add, Int.reduceAdd, Int.reduceSub, Int.reduceLT, Int.reduceLE, Int.reduceToNat, Int.reduceNeg, Nat.reduceSub, Int.reduceBNe, Int.reduceBEq]); repeat (simp (disch := omega) only [idx_nat, idx_mapT, i64w, rows_getS, rows_get, getD_set_self, famR_get]; try (simp only [push_cast, reduceIte, reduceDIte, reduceCtorEq, Nat.reduceLT, Nat.reduceLeDiff, Nat.reduceEqDiff, Nat.reduceAdd, Nat.reduceMul, Nat.reduceBEq, Nat.reducePow, Int.zero_add, Int.reduceAdd, Int.reduceSub, Int.reduceLT, Int.reduceLE, Int.reduceToNat, Int.reduceNeg, Nat.reduceSub, Int.reduceBNe, Int.reduceBEq])))) <;> rfl) (by (((simp only [push_cast, reduceIte, reduceDIte, reduceCtorEq, Nat.reduceLT, Nat.reduceLeDiff, Nat.reduceEqDiff, Nat.reduceAdd, Nat.reduceMul, Nat.reduceBEq, Nat.reducePow, Int.zero_add, Int.reduceAdd, Int.reduceSub, Int.reduceLT, Int.reduceLE, Int.reduceToNat, Int.reduceNeg, Nat.reduceSub, Int.reduceBNe, Int.reduceBEq]); repeat (simp (disch := omega) only [idx_nat, idx_mapT, i64w, rows_getS, rows_get, getD_set_self, famR_get]; try (simp only [push_cast, reduceIte, reduceDIte, reduceCtorEq, Nat.reduceLT, Nat.reduceLeDiff, Nat.reduceEqDiff, Nat.reduceAdd, Nat.reduceMul, Nat.reduceBEq, Nat.reducePow, Int.zero_add, Int.reduceAdd, Int.reduceSub, Int.reduceLT, Int.reduceLE, Int.reduceToNat, Int.reduceNeg, Nat.reduceSub, Int.reduceBNe, Int.reduceBEq])))) <;> rfl) (by (exact SD)) (by (exact SD)))) | refine swp_seq [0, 1, 2, 3, 4, 5, 8, 9, 10, 11, 12, 13, 14, 15, 16, 17, 18, 19, 20, 22, 23, 24, 25, 27, 35, 57, 61, 71, 78, 84, 86, 92, 107, 116, 146, 147, 148, 149, 165] ?_ | refine st1 ?_ | (show CallQ ..; first | refine cF ?_ | refine cQ (fun hcc => (by first | exact aw _ | exact eL _ | exact eG _ | exact eS _ | exact eP _ | exact eQ _ | exact eV _ | exact eR _)) ?_ | (refine lP ?_; refine lQ (fun hcc m => (by first | exact aw _ | exact eL _ | exact eG _ | exact eS _ | exact eP _ | exact eQ _ | exact eV _ | exact eR _)) ?_)) | (show Fct ..; refine fctI (fun hf => ?_)) | (show XCallQ ..; first | refine xcF ?_ | refine xQ (fun hcc => (by first | exact aw _ | exact eL _ | exact eG _ | exact eS _ | exact eP _ | exact eQ _ | exact eV _ | exact eR _)) ?_ | (refine xlP ?_; refine xlQ (fun hcc m => (by first | exact aw _ | exact eL _ | exact eG _ | exact eS _ | exact eP _ | exact eQ _ | exact eV _ | exact eR _)) ?_)) | (show SWp _ _ _ (.region _ _ true) _ _ _ _; refine xG mixed [] ?_) | (show SWp _ _ _ (.cond _ _ _) _ _ _ _; first | (refine cB (fun hc => ?_) (fun hc => ?_) <;> first | exact False.elim hc | exact absurd hc Bool.false_ne_true | exact absurd hc.symm Bool.false_ne_true | skip) | refine cU ?_ ?_)))
  all_goals omega
set_option maxRecDepth 20000 in
set_option maxHeartbeats 16000000 in
theorem head23_f (n : Net) (s : Sta) (k : Int) (l : List Int) (m : Nat) (hn : netOk n) (hs : staOk s) (hl : l.length ≤ 281474976710656) (hL : largeB n = false) (hG : longB s [l] = false) (hv : netB n = true) (k1 : ¬ k < 0) (k2 : ¬ (n.nodes.length : Int) ≤ k) (k3 : ¬ l.length = n.links.length) (T : Sta) (Z E : Int) (W : List ByteArray) (F : Int) (eS : ∀ m, DCalls Try.prog 7 [netD n, staD s] (hget []) m (.tup [staD T, li Z, li E]) (hget [])) (eP : ∀ m, DCalls Try.prog 8 [netD n, staD s] (hget []) m (.tup [strs W, li F]) (hget [])) (tail : TailS n s T Z E W F) (aw : ∀ m, DCalls Try.prog 4 [] (hget []) m (lb true) (hget [])) : DCalls Try.prog 3 [netD n, staD s, li k, ints l] (hget []) m (lb true) (hget []) := by
  have eL := fun m => large_f n m hn
  have eG := fun m => long_f s [l] m hs (by simp) (fun x hx => by simp at hx; subst hx; exact hl)
  have h14 : n.nodes.length ≤ 14 := by unfold largeB at hL; simp at hL; omega
  simp only [hL] at eL
  simp only [hG] at eG
  have eQ := fun m => passed_f n k l m hn h14 hl
  have eV := fun m => rNetValid_f n m hn
  have eR := fun m => rRanges_f l 9007199254740992 m hl
  have n10 : ¬ (1 : Int) = 0 := by decide
  have n20 : ¬ (2 : Int) = 0 := by decide
  have n30 : ¬ (3 : Int) = 0 := by decide
  have hp : passE n k l = 3 := by unfold passE; rw [if_neg (by rw [hv]; simp), if_neg (by omega), if_pos (by omega)]
  have q3 : ¬ (l.length : Int) = n.links.length := by omega
  (have := Nonempty.intro k1)
  (have := Nonempty.intro k2)
  (have := Nonempty.intro q3)
  simp only [hv, hp, n10, n20, n30, if_true, if_false] at eQ eV
  refine pureC (n := 193) (rs := [.tmp 8]) (ts := [4]) Try.func3 rfl (by decide) [] (by (exact SD)) ?_
  (repeat' (first | (show SWp _ _ _ (.seq (.seq (.region 25 _ _) _) _) _ _ _ _; refine (swp_cut [4, 5, 9, 10, 11, 12, 13] [0, 8, 160] 161 tail (by omega) (by (((simp only [push_cast, reduceIte, reduceDIte, reduceCtorEq, Nat.reduceLT, Nat.reduceLeDiff, Nat.reduceEqDiff, Nat.reduceAdd, Nat.reduceMul, Nat.reduceBEq, Nat.reducePow, Int.zero_add, Int.reduceAdd, Int.reduceSub, Int.reduceLT, Int.reduceLE, Int.reduceToNat, Int.reduceNeg, Nat.reduceSub, Int.reduceBNe, Int.reduceBEq]); repeat (simp (disch := omega) only [idx_nat, idx_mapT, i64w, rows_getS, rows_get, getD_set_self, famR_get]; try (simp only [push_cast, reduceIte, reduceDIte, reduceCtorEq, Nat.reduceLT, Nat.reduceLeDiff, Nat.reduceEqDiff, Nat.reduceAdd, Nat.reduceMul, Nat.reduceBEq, Nat.reducePow, Int.zero_add, Int.reduceAdd, Int.reduceSub, Int.reduceLT, Int.reduceLE, Int.reduceToNat, Int.reduceNeg, Nat.reduceSub, Int.reduceBNe, Int.reduceBEq])))) <;> rfl) (by (((simp only [push_cast, reduceIte, reduceDIte, reduceCtorEq, Nat.reduceLT, Nat.reduceLeDiff, Nat.reduceEqDiff, Nat.reduceAdd, Nat.reduceMul, Nat.reduceBEq, Nat.reducePow, Int.zero_add, Int.reduceAdd, Int.reduceSub, Int.reduceLT, Int.reduceLE, Int.reduceToNat, Int.reduceNeg, Nat.reduceSub, Int.reduceBNe, Int.reduceBEq]); repeat (simp (disch := omega) only [idx_nat, idx_mapT, i64w, rows_getS, rows_get, getD_set_self, famR_get]; try (simp only [push_cast, reduceIte, reduceDIte, reduceCtorEq, Nat.reduceLT, Nat.reduceLeDiff, Nat.reduceEqDiff, Nat.reduceAdd, Nat.reduceMul, Nat.reduceBEq, Nat.reducePow, Int.zero_add, Int.reduceAdd, Int.reduceSub, Int.reduceLT, Int.reduceLE, Int.reduceToNat, Int.reduceNeg, Nat.reduceSub, Int.reduceBNe, Int.reduceBEq])))) <;> rfl) (by (exact SD)) (by (exact SD)))) | refine swp_seq [0, 1, 2, 3, 4, 5, 8, 9, 10, 11, 12, 13, 14, 15, 16, 17, 18, 19, 20, 22, 23, 24, 25, 27, 35, 57, 61, 71, 78, 84, 86, 92, 107, 116, 146, 147, 148, 149, 165] ?_ | refine st1 ?_ | (show CallQ ..; first | refine cF ?_ | refine cQ (fun hcc => (by first | exact aw _ | exact eL _ | exact eG _ | exact eS _ | exact eP _ | exact eQ _ | exact eV _ | exact eR _)) ?_ | (refine lP ?_; refine lQ (fun hcc m => (by first | exact aw _ | exact eL _ | exact eG _ | exact eS _ | exact eP _ | exact eQ _ | exact eV _ | exact eR _)) ?_)) | (show Fct ..; refine fctI (fun hf => ?_)) | (show XCallQ ..; first | refine xcF ?_ | refine xQ (fun hcc => (by first | exact aw _ | exact eL _ | exact eG _ | exact eS _ | exact eP _ | exact eQ _ | exact eV _ | exact eR _)) ?_ | (refine xlP ?_; refine xlQ (fun hcc m => (by first | exact aw _ | exact eL _ | exact eG _ | exact eS _ | exact eP _ | exact eQ _ | exact eV _ | exact eR _)) ?_)) | (show SWp _ _ _ (.region _ _ true) _ _ _ _; refine xG mixed [] ?_) | (show SWp _ _ _ (.cond _ _ _) _ _ _ _; first | (refine cB (fun hc => ?_) (fun hc => ?_) <;> first | exact False.elim hc | exact absurd hc Bool.false_ne_true | exact absurd hc.symm Bool.false_ne_true | skip) | refine cU ?_ ?_)))
  all_goals omega
set_option maxRecDepth 20000 in
set_option maxHeartbeats 16000000 in
theorem head24_f (n : Net) (s : Sta) (k : Int) (l : List Int) (m : Nat) (hn : netOk n) (hs : staOk s) (hl : l.length ≤ 281474976710656) (hL : largeB n = false) (hG : longB s [l] = false) (hv : netB n = true) (k1 : ¬ k < 0) (k2 : ¬ (n.nodes.length : Int) ≤ k) (k3 : l.length = n.links.length) (k4 : rangB l 9007199254740992 = false) (T : Sta) (Z E : Int) (W : List ByteArray) (F : Int) (eS : ∀ m, DCalls Try.prog 7 [netD n, staD s] (hget []) m (.tup [staD T, li Z, li E]) (hget [])) (eP : ∀ m, DCalls Try.prog 8 [netD n, staD s] (hget []) m (.tup [strs W, li F]) (hget [])) (tail : TailS n s T Z E W F) (aw : ∀ m, DCalls Try.prog 4 [] (hget []) m (lb true) (hget [])) : DCalls Try.prog 3 [netD n, staD s, li k, ints l] (hget []) m (lb true) (hget []) := by
  have eL := fun m => large_f n m hn
  have eG := fun m => long_f s [l] m hs (by simp) (fun x hx => by simp at hx; subst hx; exact hl)
  have h14 : n.nodes.length ≤ 14 := by unfold largeB at hL; simp at hL; omega
  simp only [hL] at eL
  simp only [hG] at eG
  have eQ := fun m => passed_f n k l m hn h14 hl
  have eV := fun m => rNetValid_f n m hn
  have eR := fun m => rRanges_f l 9007199254740992 m hl
  have n10 : ¬ (1 : Int) = 0 := by decide
  have n20 : ¬ (2 : Int) = 0 := by decide
  have n30 : ¬ (3 : Int) = 0 := by decide
  have hp : passE n k l = 2 := by unfold passE; rw [if_neg (by rw [hv]; simp), if_neg (by omega), if_neg (by omega), if_pos k4]
  have q3 : (l.length : Int) = n.links.length := by omega
  (have := Nonempty.intro k1)
  (have := Nonempty.intro k2)
  (have := Nonempty.intro q3)
  simp only [k4] at eR
  simp only [hv, hp, n10, n20, n30, if_true, if_false] at eQ eV
  refine pureC (n := 193) (rs := [.tmp 8]) (ts := [4]) Try.func3 rfl (by decide) [] (by (exact SD)) ?_
  (repeat' (first | (show SWp _ _ _ (.seq (.seq (.region 25 _ _) _) _) _ _ _ _; refine (swp_cut [4, 5, 9, 10, 11, 12, 13] [0, 8, 160] 161 tail (by omega) (by (((simp only [push_cast, reduceIte, reduceDIte, reduceCtorEq, Nat.reduceLT, Nat.reduceLeDiff, Nat.reduceEqDiff, Nat.reduceAdd, Nat.reduceMul, Nat.reduceBEq, Nat.reducePow, Int.zero_add, Int.reduceAdd, Int.reduceSub, Int.reduceLT, Int.reduceLE, Int.reduceToNat, Int.reduceNeg, Nat.reduceSub, Int.reduceBNe, Int.reduceBEq]); repeat (simp (disch := omega) only [idx_nat, idx_mapT, i64w, rows_getS, rows_get, getD_set_self, famR_get]; try (simp only [push_cast, reduceIte, reduceDIte, reduceCtorEq, Nat.reduceLT, Nat.reduceLeDiff, Nat.reduceEqDiff, Nat.reduceAdd, Nat.reduceMul, Nat.reduceBEq, Nat.reducePow, Int.zero_add, Int.reduceAdd, Int.reduceSub, Int.reduceLT, Int.reduceLE, Int.reduceToNat, Int.reduceNeg, Nat.reduceSub, Int.reduceBNe, Int.reduceBEq])))) <;> rfl) (by (((simp only [push_cast, reduceIte, reduceDIte, reduceCtorEq, Nat.reduceLT, Nat.reduceLeDiff, Nat.reduceEqDiff, Nat.reduceAdd, Nat.reduceMul, Nat.reduceBEq, Nat.reducePow, Int.zero_add, Int.reduceAdd, Int.reduceSub, Int.reduceLT, Int.reduceLE, Int.reduceToNat, Int.reduceNeg, Nat.reduceSub, Int.reduceBNe, Int.reduceBEq]); repeat (simp (disch := omega) only [idx_nat, idx_mapT, i64w, rows_getS, rows_get, getD_set_self, famR_get]; try (simp only [push_cast, reduceIte, reduceDIte, reduceCtorEq, Nat.reduceLT, Nat.reduceLeDiff, Nat.reduceEqDiff, Nat.reduceAdd, Nat.reduceMul, Nat.reduceBEq, Nat.reducePow, Int.zero_add, Int.reduceAdd, Int.reduceSub, Int.reduceLT, Int.reduceLE, Int.reduceToNat, Int.reduceNeg, Nat.reduceSub, Int.reduceBNe, Int.reduceBEq])))) <;> rfl) (by (exact SD)) (by (exact SD)))) | refine swp_seq [0, 1, 2, 3, 4, 5, 8, 9, 10, 11, 12, 13, 14, 15, 16, 17, 18, 19, 20, 22, 23, 24, 25, 27, 35, 57, 61, 71, 78, 84, 86, 92, 107, 116, 146, 147, 148, 149, 165] ?_ | refine st1 ?_ | (show CallQ ..; first | refine cF ?_ | refine cQ (fun hcc => (by first | exact aw _ | exact eL _ | exact eG _ | exact eS _ | exact eP _ | exact eQ _ | exact eV _ | exact eR _)) ?_ | (refine lP ?_; refine lQ (fun hcc m => (by first | exact aw _ | exact eL _ | exact eG _ | exact eS _ | exact eP _ | exact eQ _ | exact eV _ | exact eR _)) ?_)) | (show Fct ..; refine fctI (fun hf => ?_)) | (show XCallQ ..; first | refine xcF ?_ | refine xQ (fun hcc => (by first | exact aw _ | exact eL _ | exact eG _ | exact eS _ | exact eP _ | exact eQ _ | exact eV _ | exact eR _)) ?_ | (refine xlP ?_; refine xlQ (fun hcc m => (by first | exact aw _ | exact eL _ | exact eG _ | exact eS _ | exact eP _ | exact eQ _ | exact eV _ | exact eR _)) ?_)) | (show SWp _ _ _ (.region _ _ true) _ _ _ _; refine xG mixed [] ?_) | (show SWp _ _ _ (.cond _ _ _) _ _ _ _; first | (refine cB (fun hc => ?_) (fun hc => ?_) <;> first | exact False.elim hc | exact absurd hc Bool.false_ne_true | exact absurd hc.symm Bool.false_ne_true | skip) | refine cU ?_ ?_)))
  all_goals omega

end Go.Proofs.Ytlbadfjonhgppaa
