/-
  Contracts of functions of the program, over the engine.
  No condition.
-/
import Derived.Test.YtkhddlhhbanebaaCa25
namespace Go.Proofs.Ytkhddlhhbanebaa
open Go.Eng
set_option linter.all false

theorem all_get {l : List Rec} {P : Rec → Prop} (h : ∀ r, r ∈ l → P r) {i : Nat} (hi : i < l.length) : P (l.getD i default) := by
  rw [List.getD_eq_getElem?_getD, List.getElem?_eq_getElem hi]; exact h _ (List.getElem_mem hi)
set_option maxHeartbeats 1000000 in
theorem idxR_f (g : FuncId) (p : Rec → Bool) (hp : ∀ r m, recOk r → DCalls Try.prog g [recD r] (hget []) m (lb (p r)) (hget [])) (l : List Rec) (m : Nat) (hl : l.length ≤ 281474976710656) (hr : ∀ r, r ∈ l → recOk r) :
    DCalls Try.prog 57 [recs l, .clo g []] (hget []) m (li (idxI p l)) (hget []) := by
  refine pureC (n := 19) (rs := [.tmp 4]) (ts := [3]) Try.func57 rfl (by decide) [] (by (exact SD)) ?_
  (repeat' (first | refine swp_seq [0, 1, 4, 5, 7, 8, 9, 16] ?_ | (first | refine rF (fun hf => ?_) | refine tN ?_ | refine swp_skip ?_ | refine swp_ret ?_ | refine swp_exit ?_ | refine swp_block ?_ | refine swp_scope ?_ | refine thenK_ret ?_ | refine thenK_exit ?_ | refine blockK_normal ?_ | refine blockK_ret ?_ | refine blockK_here ?_ | refine bX ?_ | refine scopeK_normal ?_ | refine scopeK_ret ?_ | refine scopeK_exit ?_ | refine loopK_ret ?_ | refine loopK_exit ?_ | refine dF mixed ?_ | (refine cB (fun hc => ?_) (fun hc => ?_) <;> first | exact False.elim hc | exact absurd hc Bool.false_ne_true | exact absurd hc.symm Bool.false_ne_true | skip) | refine cU ?_ ?_)))
  refine loop_swp [0, 1, 7, 8] [] 0 (fun k A H => ∃ i : Nat, i ≤ l.length ∧ k = l.length - i ∧ (l.take i).any p = false ∧ A = [(0, recs l), (1, .clo g []), (7, li l.length), (8, li i)] ∧ H = []) (by omega) ?_ ?_ ?_
  · rintro k A H ⟨i, h1, h2, h3, rfl, rfl⟩
    exact ⟨⟨by (exact SD), trivial, by (exact SD)⟩, by (exact SD)⟩
  · refine ⟨_, 0, by omega, rfl, by simp, ?_, ?_⟩
    · (((simp only [push_cast, reduceIte, reduceDIte, reduceCtorEq, Nat.reduceLT, Nat.reduceLeDiff, Nat.reduceEqDiff, Nat.reduceAdd, Nat.reduceMul, Nat.reduceBEq, Nat.reducePow, Int.zero_add, Int.reduceAdd, Int.reduceSub, Int.reduceLT, Int.reduceLE, Int.reduceToNat, Int.reduceNeg, Nat.reduceSub]); repeat (simp (disch := omega) only [idx_map, idx_nat, i64w]; try (simp only [push_cast, reduceIte, reduceDIte, reduceCtorEq, Nat.reduceLT, Nat.reduceLeDiff, Nat.reduceEqDiff, Nat.reduceAdd, Nat.reduceMul, Nat.reduceBEq, Nat.reducePow, Int.zero_add, Int.reduceAdd, Int.reduceSub, Int.reduceLT, Int.reduceLE, Int.reduceToNat, Int.reduceNeg, Nat.reduceSub]))))
    · (((simp only [push_cast, reduceIte, reduceDIte, reduceCtorEq, Nat.reduceLT, Nat.reduceLeDiff, Nat.reduceEqDiff, Nat.reduceAdd, Nat.reduceMul, Nat.reduceBEq, Nat.reducePow, Int.zero_add, Int.reduceAdd, Int.reduceSub, Int.reduceLT, Int.reduceLE, Int.reduceToNat, Int.reduceNeg, Nat.reduceSub]); repeat (simp (disch := omega) only [idx_map, idx_nat, i64w]; try (simp only [push_cast, reduceIte, reduceDIte, reduceCtorEq, Nat.reduceLT, Nat.reduceLeDiff, Nat.reduceEqDiff, Nat.reduceAdd, Nat.reduceMul, Nat.reduceBEq, Nat.reducePow, Int.zero_add, Int.reduceAdd, Int.reduceSub, Int.reduceLT, Int.reduceLE, Int.reduceToNat, Int.reduceNeg, Nat.reduceSub]))))
  · rintro k A H ⟨i, h1, h2, h3, rfl, rfl⟩
    (repeat' (first | refine swp_seq [0, 1, 4, 5, 7, 8, 9, 16] ?_ | (first | refine rF (fun hf => ?_) | refine tN ?_ | refine swp_skip ?_ | refine swp_ret ?_ | refine swp_exit ?_ | refine swp_block ?_ | refine swp_scope ?_ | refine thenK_ret ?_ | refine thenK_exit ?_ | refine blockK_normal ?_ | refine blockK_ret ?_ | refine blockK_here ?_ | refine bX ?_ | refine scopeK_normal ?_ | refine scopeK_ret ?_ | refine scopeK_exit ?_ | refine loopK_ret ?_ | refine loopK_exit ?_ | refine dF mixed ?_ | (refine cB (fun hc => ?_) (fun hc => ?_) <;> first | exact False.elim hc | exact absurd hc Bool.false_ne_true | exact absurd hc.symm Bool.false_ne_true | skip) | refine cU ?_ ?_)))
    · ((refine rC (fun hf => ?_); refine cA (hp (l.getD i default) _ (all_get hr (by omega))) (fun hf => ?_); refine drun_end ?_))
      (repeat' (first | refine swp_seq [0, 1, 4, 5, 7, 8, 9, 16] ?_ | (first | refine rF (fun hf => ?_) | refine tN ?_ | refine swp_skip ?_ | refine swp_ret ?_ | refine swp_exit ?_ | refine swp_block ?_ | refine swp_scope ?_ | refine thenK_ret ?_ | refine thenK_exit ?_ | refine blockK_normal ?_ | refine blockK_ret ?_ | refine blockK_here ?_ | refine bX ?_ | refine scopeK_normal ?_ | refine scopeK_ret ?_ | refine scopeK_exit ?_ | refine loopK_ret ?_ | refine loopK_exit ?_ | refine dF mixed ?_ | (refine cB (fun hc => ?_) (fun hc => ?_) <;> first | exact False.elim hc | exact absurd hc Bool.false_ne_true | exact absurd hc.symm Bool.false_ne_true | skip) | refine cU ?_ ?_)))
      · (((simp only [push_cast, reduceIte, reduceDIte, reduceCtorEq, Nat.reduceLT, Nat.reduceLeDiff, Nat.reduceEqDiff, Nat.reduceAdd, Nat.reduceMul, Nat.reduceBEq, Nat.reducePow, Int.zero_add, Int.reduceAdd, Int.reduceSub, Int.reduceLT, Int.reduceLE, Int.reduceToNat, Int.reduceNeg, Nat.reduceSub]); repeat (simp (disch := omega) only [idx_map, idx_nat, i64w]; try (simp only [push_cast, reduceIte, reduceDIte, reduceCtorEq, Nat.reduceLT, Nat.reduceLeDiff, Nat.reduceEqDiff, Nat.reduceAdd, Nat.reduceMul, Nat.reduceBEq, Nat.reducePow, Int.zero_add, Int.reduceAdd, Int.reduceSub, Int.reduceLT, Int.reduceLE, Int.reduceToNat, Int.reduceNeg, Nat.reduceSub]))))
        rw [idxI_hit h3 (by omega) hc]
      · (refine lN [] ?_)
        exact ⟨_, by omega, i + 1, by omega, rfl, any_step h3 (by omega) hc, rfl, rfl⟩
    · (((simp only [push_cast, reduceIte, reduceDIte, reduceCtorEq, Nat.reduceLT, Nat.reduceLeDiff, Nat.reduceEqDiff, Nat.reduceAdd, Nat.reduceMul, Nat.reduceBEq, Nat.reducePow, Int.zero_add, Int.reduceAdd, Int.reduceSub, Int.reduceLT, Int.reduceLE, Int.reduceToNat, Int.reduceNeg, Nat.reduceSub]); repeat (simp (disch := omega) only [idx_map, idx_nat, i64w]; try (simp only [push_cast, reduceIte, reduceDIte, reduceCtorEq, Nat.reduceLT, Nat.reduceLeDiff, Nat.reduceEqDiff, Nat.reduceAdd, Nat.reduceMul, Nat.reduceBEq, Nat.reducePow, Int.zero_add, Int.reduceAdd, Int.reduceSub, Int.reduceLT, Int.reduceLE, Int.reduceToNat, Int.reduceNeg, Nat.reduceSub]))))
      rw [List.take_of_length_le (by omega)] at h3
      rw [idxI_none h3]
theorem conR_f (g : FuncId) (p : Rec → Bool) (hp : ∀ r m, recOk r → DCalls Try.prog g [recD r] (hget []) m (lb (p r)) (hget [])) (l : List Rec) (m : Nat) (hl : l.length ≤ 281474976710656) (hr : ∀ r, r ∈ l → recOk r) :
    DCalls Try.prog 34 [recs l, .clo g []] (hget []) m (lb (l.any p)) (hget []) := by
  refine pureC (n := 9) (rs := [.tmp 4]) (ts := [4]) Try.func34 rfl (by decide) [] (by (exact SD)) ?_
  (repeat' (first | refine swp_seq [0, 1, 4] ?_ | (first | refine rF (fun hf => ?_) | refine tN ?_ | refine swp_skip ?_ | refine swp_ret ?_ | refine swp_exit ?_ | refine swp_block ?_ | refine swp_scope ?_ | refine thenK_ret ?_ | refine thenK_exit ?_ | refine blockK_normal ?_ | refine blockK_ret ?_ | refine blockK_here ?_ | refine bX ?_ | refine scopeK_normal ?_ | refine scopeK_ret ?_ | refine scopeK_exit ?_ | refine loopK_ret ?_ | refine loopK_exit ?_ | refine dF mixed ?_ | (refine cB (fun hc => ?_) (fun hc => ?_) <;> first | exact False.elim hc | exact absurd hc Bool.false_ne_true | exact absurd hc.symm Bool.false_ne_true | skip) | refine cU ?_ ?_)))
  ((refine rC (fun hf => ?_); refine cA (idxR_f g p hp l _ hl hr) (fun hf => ?_); refine drun_end ?_))
  (repeat' (first | refine swp_seq [0, 1, 4] ?_ | (first | refine rF (fun hf => ?_) | refine tN ?_ | refine swp_skip ?_ | refine swp_ret ?_ | refine swp_exit ?_ | refine swp_block ?_ | refine swp_scope ?_ | refine thenK_ret ?_ | refine thenK_exit ?_ | refine blockK_normal ?_ | refine blockK_ret ?_ | refine blockK_here ?_ | refine bX ?_ | refine scopeK_normal ?_ | refine scopeK_ret ?_ | refine scopeK_exit ?_ | refine loopK_ret ?_ | refine loopK_exit ?_ | refine dF mixed ?_ | (refine cB (fun hc => ?_) (fun hc => ?_) <;> first | exact False.elim hc | exact absurd hc Bool.false_ne_true | exact absurd hc.symm Bool.false_ne_true | skip) | refine cU ?_ ?_)))
  (((simp only [push_cast, reduceIte, reduceDIte, reduceCtorEq, Nat.reduceLT, Nat.reduceLeDiff, Nat.reduceEqDiff, Nat.reduceAdd, Nat.reduceMul, Nat.reduceBEq, Nat.reducePow, Int.zero_add, Int.reduceAdd, Int.reduceSub, Int.reduceLT, Int.reduceLE, Int.reduceToNat, Int.reduceNeg, Nat.reduceSub]); repeat (simp (disch := omega) only [idx_map, idx_nat, i64w]; try (simp only [push_cast, reduceIte, reduceDIte, reduceCtorEq, Nat.reduceLT, Nat.reduceLeDiff, Nat.reduceEqDiff, Nat.reduceAdd, Nat.reduceMul, Nat.reduceBEq, Nat.reducePow, Int.zero_add, Int.reduceAdd, Int.reduceSub, Int.reduceLT, Int.reduceLE, Int.reduceToNat, Int.reduceNeg, Nat.reduceSub]))))
  rw [idxI_any]
theorem tears1_f (r : Rec) (m : Nat) (hr : recOk r) : DCalls Try.prog 35 [recD r] (hget []) m (lb (!recB r)) (hget []) := by
  refine pureC (n := 6) (rs := [.tmp 2]) (ts := [4]) Try.func35 rfl (by decide) [] (by (exact SD)) ?_
  (repeat' (first | refine swp_seq [0, 1, 2] ?_ | (first | refine rF (fun hf => ?_) | refine tN ?_ | refine swp_skip ?_ | refine swp_ret ?_ | refine swp_exit ?_ | refine swp_block ?_ | refine swp_scope ?_ | refine thenK_ret ?_ | refine thenK_exit ?_ | refine blockK_normal ?_ | refine blockK_ret ?_ | refine blockK_here ?_ | refine bX ?_ | refine scopeK_normal ?_ | refine scopeK_ret ?_ | refine scopeK_exit ?_ | refine loopK_ret ?_ | refine loopK_exit ?_ | refine dF mixed ?_ | (refine cB (fun hc => ?_) (fun hc => ?_) <;> first | exact False.elim hc | exact absurd hc Bool.false_ne_true | exact absurd hc.symm Bool.false_ne_true | skip) | refine cU ?_ ?_)))
  ((refine rC (fun hf => ?_); refine cA (rRight_f r _ hr) (fun hf => ?_); refine drun_end ?_))
  (repeat' (first | refine swp_seq [0, 1, 2] ?_ | (first | refine rF (fun hf => ?_) | refine tN ?_ | refine swp_skip ?_ | refine swp_ret ?_ | refine swp_exit ?_ | refine swp_block ?_ | refine swp_scope ?_ | refine thenK_ret ?_ | refine thenK_exit ?_ | refine blockK_normal ?_ | refine blockK_ret ?_ | refine blockK_here ?_ | refine bX ?_ | refine scopeK_normal ?_ | refine scopeK_ret ?_ | refine scopeK_exit ?_ | refine loopK_ret ?_ | refine loopK_exit ?_ | refine dF mixed ?_ | (refine cB (fun hc => ?_) (fun hc => ?_) <;> first | exact False.elim hc | exact absurd hc Bool.false_ne_true | exact absurd hc.symm Bool.false_ne_true | skip) | refine cU ?_ ?_)))
  (((simp only [push_cast, reduceIte, reduceDIte, reduceCtorEq, Nat.reduceLT, Nat.reduceLeDiff, Nat.reduceEqDiff, Nat.reduceAdd, Nat.reduceMul, Nat.reduceBEq, Nat.reducePow, Int.zero_add, Int.reduceAdd, Int.reduceSub, Int.reduceLT, Int.reduceLE, Int.reduceToNat, Int.reduceNeg, Nat.reduceSub]); repeat (simp (disch := omega) only [idx_map, idx_nat, i64w]; try (simp only [push_cast, reduceIte, reduceDIte, reduceCtorEq, Nat.reduceLT, Nat.reduceLeDiff, Nat.reduceEqDiff, Nat.reduceAdd, Nat.reduceMul, Nat.reduceBEq, Nat.reducePow, Int.zero_add, Int.reduceAdd, Int.reduceSub, Int.reduceLT, Int.reduceLE, Int.reduceToNat, Int.reduceNeg, Nat.reduceSub]))))
theorem surv1_f (r : Rec) (m : Nat) (hr : recOk r) : DCalls Try.prog 37 [recD r] (hget []) m (lb (!recB r)) (hget []) := by
  refine pureC (n := 6) (rs := [.tmp 2]) (ts := [4]) Try.func37 rfl (by decide) [] (by (exact SD)) ?_
  (repeat' (first | refine swp_seq [0, 1, 2] ?_ | (first | refine rF (fun hf => ?_) | refine tN ?_ | refine swp_skip ?_ | refine swp_ret ?_ | refine swp_exit ?_ | refine swp_block ?_ | refine swp_scope ?_ | refine thenK_ret ?_ | refine thenK_exit ?_ | refine blockK_normal ?_ | refine blockK_ret ?_ | refine blockK_here ?_ | refine bX ?_ | refine scopeK_normal ?_ | refine scopeK_ret ?_ | refine scopeK_exit ?_ | refine loopK_ret ?_ | refine loopK_exit ?_ | refine dF mixed ?_ | (refine cB (fun hc => ?_) (fun hc => ?_) <;> first | exact False.elim hc | exact absurd hc Bool.false_ne_true | exact absurd hc.symm Bool.false_ne_true | skip) | refine cU ?_ ?_)))
  ((refine rC (fun hf => ?_); refine cA (rRight_f r _ hr) (fun hf => ?_); refine drun_end ?_))
  (repeat' (first | refine swp_seq [0, 1, 2] ?_ | (first | refine rF (fun hf => ?_) | refine tN ?_ | refine swp_skip ?_ | refine swp_ret ?_ | refine swp_exit ?_ | refine swp_block ?_ | refine swp_scope ?_ | refine thenK_ret ?_ | refine thenK_exit ?_ | refine blockK_normal ?_ | refine blockK_ret ?_ | refine blockK_here ?_ | refine bX ?_ | refine scopeK_normal ?_ | refine scopeK_ret ?_ | refine scopeK_exit ?_ | refine loopK_ret ?_ | refine loopK_exit ?_ | refine dF mixed ?_ | (refine cB (fun hc => ?_) (fun hc => ?_) <;> first | exact False.elim hc | exact absurd hc Bool.false_ne_true | exact absurd hc.symm Bool.false_ne_true | skip) | refine cU ?_ ?_)))
  (((simp only [push_cast, reduceIte, reduceDIte, reduceCtorEq, Nat.reduceLT, Nat.reduceLeDiff, Nat.reduceEqDiff, Nat.reduceAdd, Nat.reduceMul, Nat.reduceBEq, Nat.reducePow, Int.zero_add, Int.reduceAdd, Int.reduceSub, Int.reduceLT, Int.reduceLE, Int.reduceToNat, Int.reduceNeg, Nat.reduceSub]); repeat (simp (disch := omega) only [idx_map, idx_nat, i64w]; try (simp only [push_cast, reduceIte, reduceDIte, reduceCtorEq, Nat.reduceLT, Nat.reduceLeDiff, Nat.reduceEqDiff, Nat.reduceAdd, Nat.reduceMul, Nat.reduceBEq, Nat.reducePow, Int.zero_add, Int.reduceAdd, Int.reduceSub, Int.reduceLT, Int.reduceLE, Int.reduceToNat, Int.reduceNeg, Nat.reduceSub]))))
theorem encR_len : ∀ (rs : List Rec), (∀ r ∈ rs, recB r = true) → (encR rs).length ≤ 3008 * rs.length
  | [], _ => by simp [encR]
  | r :: rs, h => by
    have h1 := recBytes_len (h r (by simp))
    have h2 := frameB_len (recBytes r)
    have h3 := encR_len rs fun x hx => h x (by simp [hx])
    rw [encR_cons, List.length_append, List.length_cons]; omega
theorem whole_enc {rs : List Rec} (h : ∀ r ∈ rs, recB r = true) : wholeV (encR rs) = (encR rs).length :=
  (frames_of (post := []) (by simp) h (okF_end _ _ (Nat.le_refl _))).2.2
theorem bods_enc {rs : List Rec} (h : ∀ r ∈ rs, recB r = true) : bods (encR rs) = rs.map recBytes :=
  (frames_of (post := []) (by simp) h (okF_end _ _ (Nat.le_refl _))).1
theorem ends_enc {rs : List Rec} (h : ∀ r ∈ rs, recB r = true) : ends (encR rs) = endsOf 0 rs :=
  (frames_of (post := []) (by simp) h (okF_end _ _ (Nat.le_refl _))).2.1
theorem app_enc {rs : List Rec} {r : Rec} (h : ∀ r ∈ rs, recB r = true) (hr : recB r = true) (hl : rs.length ≤ 300) : appD ⟨encR rs, 0, -1⟩ r = (⟨encR (rs ++ [r]), 0, -1⟩, 0) := by
  have h1 := encR_len rs h
  have h2 := recBytes_len hr
  have h3 := frameB_len (recBytes r)
  have hD : diskB ⟨encR rs, 0, -1⟩ = true := by unfold diskB; simp; omega
  unfold appD
  rw [if_pos ⟨hD, hr⟩, if_neg (by simp), if_pos (whole_enc h), if_neg (by simp only; omega), if_neg (by simp)]
  simp [encR]
theorem endsOf_mem : ∀ (rs : List Rec) (p : Nat), rs ≠ [] → ((p + (encR rs).length : Nat) : Int) ∈ endsOf p rs
  | [], _, h => absurd rfl h
  | [r], p, _ => by simp [endsOf, encR]
  | r :: s :: rs, p, _ => by
    have := endsOf_mem (s :: rs) (p + (frameB (recBytes r)).length) (by simp)
    rw [encR_cons, List.length_append, ← Nat.add_assoc]
    rw [endsOf]
    exact List.mem_cons_of_mem _ this
theorem diskB_enc {rs : List Rec} (h : ∀ r ∈ rs, recB r = true) (hl : rs.length ≤ 300) : diskB ⟨encR rs, (encR rs).length, -1⟩ = true := by
  have h1 := encR_len rs h
  unfold diskB
  rw [ends_enc h]
  cases rs with
  | nil => simp [encR]
  | cons r rs =>
    have := endsOf_mem (r :: rs) 0 (by simp)
    rw [Nat.zero_add] at this
    simp only [Bool.and_eq_true, Bool.or_eq_true, decide_eq_true_eq]
    refine ⟨⟨⟨by omega, by omega⟩, by omega⟩, .inr ?_⟩
    rw [List.any_eq_true]
    exact ⟨_, this, by simp⟩
theorem recs_enc {rs : List Rec} (h : ∀ r ∈ rs, recB r = true) (hl : rs.length ≤ 300) : recsD ⟨encR rs, (encR rs).length, -1⟩ = (rs, 0) := by
  unfold recsD
  rw [if_pos (diskB_enc h hl), bods_enc h, recsGo_back _ _ h]; rfl
theorem open_bad {rs : List Rec} {l post : List UInt8} (h : ∀ r ∈ rs, recB r = true) (hl : l = encR rs ++ post) (hk : ¬ okF l (encR rs).length = true) (hn : l.length ≤ 1048576) :
    openD ⟨l, 0, -1⟩ = (⟨encR rs, (encR rs).length, -1⟩, 0) := by
  have hw := (frames_of hl h hk).2.2
  unfold openD
  rw [if_pos (by unfold diskB; simp; omega), if_neg (by simp)]
  simp only [hw, Int.toNat_natCast]
  rw [hl, List.take_left]
theorem getD_app_right {α : Type} [Inhabited α] {a b : List α} {i : Nat} : (a ++ b).getD (a.length + i) default = b.getD i default := by
  simp [List.getD_eq_getElem?_getD, List.getElem?_append_right]
theorem rec_parts {r : List Rec} {k : Nat} (hk : k < r.length) : encR r = encR (r.take k) ++ (frameB (recBytes (r.getD k default)) ++ encR (r.drop (k + 1))) := by
  have e : r.getD k default = r[k] := by rw [List.getD_eq_getElem?_getD, List.getElem?_eq_getElem hk]; rfl
  rw [e, ← encR_cons, ← encR_app]
  congr 1
  rw [← List.drop_eq_getElem_cons hk, List.take_append_drop]
theorem open_torn {r : List Rec} {k j : Nat} {c : UInt8} (h : ∀ x ∈ r, recB x = true) (hn : r.length ≤ 300) (hk : k < r.length) (hj : 4 ≤ j) (hj2 : j < (frameB (recBytes (r.getD k default))).length)
    (hc : (encR r).getD ((encR (r.take k)).length + j) default ≠ c) : openD ⟨(encR r).set ((encR (r.take k)).length + j) c, 0, -1⟩ = (⟨encR (r.take k), (encR (r.take k)).length, -1⟩, 0) := by
  have ht : ∀ x ∈ r.take k, recB x = true := fun x hx => h x (List.mem_of_mem_take hx)
  have hlen := encR_len r h
  have hb := recBytes_len (all_get h hk)
  have hp := rec_parts hk
  have e : (encR r).set ((encR (r.take k)).length + j) c = encR (r.take k) ++ ((frameB (recBytes (r.getD k default))).set j c ++ encR (r.drop (k + 1))) := by
    rw [hp, List.set_append_right _ _ (by omega), Nat.add_sub_cancel_left, List.set_append_left _ _ hj2]
  have hc2 : (frameB (recBytes (r.getD k default))).getD j default ≠ c := fun q => hc (by
    rw [hp, getD_app_right, List.getD_eq_getElem?_getD, List.getElem?_append_left hj2, ← List.getD_eq_getElem?_getD]; exact q)
  exact open_bad ht e (frame_bad (by omega) rfl hj hj2 hc2 e rfl) (by rw [List.length_set]; omega)

end Go.Proofs.Ytkhddlhhbanebaa
