/-
  Contracts of functions of the program, over the engine.
  No condition.
-/
import Derived.Test.YtkhddlhhbanebaaCa27
namespace Go.Proofs.Ytkhddlhhbanebaa
open Go.Eng
set_option linter.all false

theorem swp_nrm {P : Program} {N pin nx : Nat} {A : LE} {H : LH} {Q : Exit → LE → LH → Nat → Prop} {c : Code} (id : Nat) (ks : List (Option Nat)) {t : TypeId} {cs cs2 : List DV} {H2 : LH} (hi : hget H id = some (.blk t cs)) (hcs : normL ks cs = cs2) (hH : hset H id (.blk t cs2) = H2)
    (h : SWp P N pin c Q A H2 nx) : SWp P N pin c Q A H nx := fun hp B hB a w hS => by
  subst hcs hH
  obtain ⟨ρ, S, HS, ES⟩ := hS
  refine h hp B hB a w ⟨ρ, S, ?_, ES⟩
  rw [hget_set]
  have key : ∀ i v, upd (hget H) id (some (.blk t (normL ks cs))) i = some v → ∃ v0, hget H i = some v0 ∧ hblk (ρ i) v0 = hblk (ρ i) v ∧ (HRel ρ S w i v0 → HRel ρ S w i v) ∧ (v0.uses (fun i => i < nx) → v.uses (fun i => i < nx)) := by
    intro i v hv
    by_cases e : i = id
    · subst e
      rw [upd_same] at hv
      cases hv
      refine ⟨_, hi, rfl, ?_, fun k => normL_uses k⟩
      rintro ⟨b, vs, fz, k1, k2, k3, k4⟩
      exact ⟨b, vs, fz, k1, k2, normL_rel k3, k4⟩
    · rw [upd_ne _ _ e] at hv
      exact ⟨v, hv, rfl, fun k => k, fun k => k⟩
  exact { HS with
    heap := fun i v hv => by
      obtain ⟨v0, k1, _, k3, _⟩ := key i v hv
      exact k3 (HS.heap i v0 k1)
    heapU := fun i v hv => by
      obtain ⟨v0, k1, _, _, k4⟩ := key i v hv
      exact ⟨(HS.heapU i v0 k1).1, k4 (HS.heapU i v0 k1).2⟩
    disj := fun i j v u b hv hu hbi hbj => by
      obtain ⟨v0, k1, k2, _, _⟩ := key i v hv
      obtain ⟨u0, l1, l2, _, _⟩ := key j u hu
      exact HS.disj i j v0 u0 b k1 l1 (k2.trans hbi) (l2.trans hbj)
    sep := fun i v b hv hb => by
      obtain ⟨v0, k1, k2, _, _⟩ := key i v hv
      exact HS.sep i v0 b k1 (k2.trans hb)
    prov := fun i v b hv hb => by
      obtain ⟨v0, k1, k2, _, _⟩ := key i v hv
      exact HS.prov i v0 b k1 (k2.trans hb) }
theorem any_false {l : List Rec} {p : Rec → Bool} (h : l.any p = false) : ∀ r ∈ l, p r = false := fun r hr => by
  rw [List.any_eq_false] at h
  simpa using h r hr
set_option maxHeartbeats 8000000 in
theorem tears_f (r : List Rec) (w : UInt8) (at1 : Int) (by1 : UInt8) (m : Nat) (hr : ∀ x ∈ r, recOk x) (hl : r.length ≤ 281474976710656) (ha : 0 ≤ at1 ∧ at1 ≤ 65535) :
    DCalls Try.prog 6 [recs r, u8 w.toNat, lv (.int .u16 at1), u8 by1.toNat] (hget []) m (lb true) (hget []) := by
  have hw8 := u8lt w
  refine pureC (n := 131) (rs := [.tmp 8]) (ts := [4]) Try.func6 rfl (by decide) [] (by (exact SD)) ?_
  (repeat' (first | refine swp_seq [0, 1, 2, 3, 8, 9, 10, 11, 12, 13, 14, 15, 16, 17, 18, 19, 21, 41, 48, 49, 50, 51, 57, 68, 71, 79] ?_ | (first | refine rF (fun hf => ?_) | refine tN ?_ | refine swp_skip ?_ | refine swp_ret ?_ | refine swp_exit ?_ | refine swp_block ?_ | refine swp_scope ?_ | refine thenK_ret ?_ | refine thenK_exit ?_ | refine blockK_normal ?_ | refine blockK_ret ?_ | refine blockK_here ?_ | refine bX ?_ | refine scopeK_normal ?_ | refine scopeK_ret ?_ | refine scopeK_exit ?_ | refine loopK_ret ?_ | refine loopK_exit ?_ | refine dF mixed ?_ | (refine cB (fun hc => ?_) (fun hc => ?_) <;> first | exact False.elim hc | exact absurd hc Bool.false_ne_true | exact absurd hc.symm Bool.false_ne_true | skip) | refine cU ?_ ?_)))
  ((refine rC (fun hf => ?_); refine cA (awake_f _) (fun hf => ?_); refine drun_end ?_))
  (repeat' (first | refine swp_seq [0, 1, 2, 3, 8, 9, 10, 11, 12, 13, 14, 15, 16, 17, 18, 19, 21, 41, 48, 49, 50, 51, 57, 68, 71, 79] ?_ | (first | refine rF (fun hf => ?_) | refine tN ?_ | refine swp_skip ?_ | refine swp_ret ?_ | refine swp_exit ?_ | refine swp_block ?_ | refine swp_scope ?_ | refine thenK_ret ?_ | refine thenK_exit ?_ | refine blockK_normal ?_ | refine blockK_ret ?_ | refine blockK_here ?_ | refine bX ?_ | refine scopeK_normal ?_ | refine scopeK_ret ?_ | refine scopeK_exit ?_ | refine loopK_ret ?_ | refine loopK_exit ?_ | refine dF mixed ?_ | (refine cB (fun hc => ?_) (fun hc => ?_) <;> first | exact False.elim hc | exact absurd hc Bool.false_ne_true | exact absurd hc.symm Bool.false_ne_true | skip) | refine cU ?_ ?_)))
  (refine rC (fun hf => ?_))
  (refine cA (conR_f 9 wordyB (fun r m _ => wordy_f r m) r _ hl hr) (fun hf => ?_))
  (refine cA (conR_f 35 (fun x => !recB x) (fun r m h => tears1_f r m h) r _ hl hr) (fun hf => ?_))
  (refine drun_end ?_)
  (repeat' (first | refine swp_seq [0, 1, 2, 3, 8, 9, 10, 11, 12, 13, 14, 15, 16, 17, 18, 19, 21, 41, 48, 49, 50, 51, 57, 68, 71, 79] ?_ | (first | refine rF (fun hf => ?_) | refine tN ?_ | refine swp_skip ?_ | refine swp_ret ?_ | refine swp_exit ?_ | refine swp_block ?_ | refine swp_scope ?_ | refine thenK_ret ?_ | refine thenK_exit ?_ | refine blockK_normal ?_ | refine blockK_ret ?_ | refine blockK_here ?_ | refine bX ?_ | refine scopeK_normal ?_ | refine scopeK_ret ?_ | refine scopeK_exit ?_ | refine loopK_ret ?_ | refine loopK_exit ?_ | refine dF mixed ?_ | (refine cB (fun hc => ?_) (fun hc => ?_) <;> first | exact False.elim hc | exact absurd hc Bool.false_ne_true | exact absurd hc.symm Bool.false_ne_true | skip) | refine cU ?_ ?_)))
  · (((simp only [push_cast, reduceIte, reduceDIte, reduceCtorEq, Nat.reduceLT, Nat.reduceLeDiff, Nat.reduceEqDiff, Nat.reduceAdd, Nat.reduceMul, Nat.reduceBEq, Nat.reducePow, Int.zero_add, Int.reduceAdd, Int.reduceSub, Int.reduceLT, Int.reduceLE, Int.reduceToNat, Int.reduceNeg, Nat.reduceSub]); repeat (simp (disch := omega) only [idx_map, idx_nat, i64w]; try (simp only [push_cast, reduceIte, reduceDIte, reduceCtorEq, Nat.reduceLT, Nat.reduceLeDiff, Nat.reduceEqDiff, Nat.reduceAdd, Nat.reduceMul, Nat.reduceBEq, Nat.reducePow, Int.zero_add, Int.reduceAdd, Int.reduceSub, Int.reduceLT, Int.reduceLE, Int.reduceToNat, Int.reduceNeg, Nat.reduceSub]))))
  · obtain ⟨⟨⟨⟨c1, c2⟩, c3⟩, c4⟩, c5⟩ := hc
    have hB : ∀ x ∈ r, recB x = true := fun x hx => by
      have := any_false c5 x hx
      simpa using this
    have hW : ∀ x ∈ r, x.inflows.length ≤ 310 ∧ x.link.size ≤ 100 ∧ x.text.size ≤ 510 ∧ x.msg.node.size ≤ 100 := fun x hx => wordyB_in (any_false c4 x hx)
    have hk1 : (w.toNat : Int).tmod (r.length : Int) = ((w.toNat % r.length : Nat) : Int) := by
      rw [Int.tmod_eq_emod_of_nonneg (by omega)]; simp
    have hkl : w.toNat % r.length < r.length := Nat.mod_lt _ (by omega)
    rw [hk1]
    generalize w.toNat % r.length = k at *
    obtain ⟨a, hA⟩ : ∃ a, a = (encR (r.take k)).length := ⟨_, rfl⟩
    obtain ⟨b, hb⟩ : ∃ b, b = (encR (r.take (k + 1))).length := ⟨_, rfl⟩
    obtain ⟨F, hF⟩ : ∃ F : Nat → Nat, ∀ i, F i = if k < i then a else 0 := ⟨_, fun _ => rfl⟩
    obtain ⟨G, hG⟩ : ∃ G : Nat → Nat, ∀ i, G i = if k < i then b else 0 := ⟨_, fun _ => rfl⟩
    have hF1 : F (k + 1) = a := by rw [hF, if_pos (by omega)]
    have hG1 : G (k + 1) = b := by rw [hG, if_pos (by omega)]
    have hF2 : ∀ i, i ≠ k → F (i + 1) = F i := fun i hi => by rw [hF, hF]; by_cases q : k < i <;> simp [q] <;> omega
    have hG2 : ∀ i, i ≠ k → G (i + 1) = G i := fun i hi => by rw [hG, hG]; by_cases q : k < i <;> simp [q] <;> omega
    have hT : ∀ i, ∀ x ∈ r.take i, recB x = true := fun i x hx => hB x (List.mem_of_mem_take hx)
    have hEl : ∀ i, (encR (r.take i)).length ≤ 30000 := fun i => by
      have := encR_len (r.take i) (hT i)
      rw [List.length_take] at this; omega
    refine swp_nrm 240 [some 1] (by (((simp only [push_cast, reduceIte, reduceDIte, reduceCtorEq, Nat.reduceLT, Nat.reduceLeDiff, Nat.reduceEqDiff, Nat.reduceAdd, Nat.reduceMul, Nat.reduceBEq, Nat.reducePow, Int.zero_add, Int.reduceAdd, Int.reduceSub, Int.reduceLT, Int.reduceLE, Int.reduceToNat, Int.reduceNeg, Nat.reduceSub]); repeat (simp (disch := omega) only [idx_map, idx_nat, i64w]; try (simp only [push_cast, reduceIte, reduceDIte, reduceCtorEq, Nat.reduceLT, Nat.reduceLeDiff, Nat.reduceEqDiff, Nat.reduceAdd, Nat.reduceMul, Nat.reduceBEq, Nat.reducePow, Int.zero_add, Int.reduceAdd, Int.reduceSub, Int.reduceLT, Int.reduceLE, Int.reduceToNat, Int.reduceNeg, Nat.reduceSub])))) <;> rfl) rfl (by (((simp only [push_cast, reduceIte, reduceDIte, reduceCtorEq, Nat.reduceLT, Nat.reduceLeDiff, Nat.reduceEqDiff, Nat.reduceAdd, Nat.reduceMul, Nat.reduceBEq, Nat.reducePow, Int.zero_add, Int.reduceAdd, Int.reduceSub, Int.reduceLT, Int.reduceLE, Int.reduceToNat, Int.reduceNeg, Nat.reduceSub]); repeat (simp (disch := omega) only [idx_map, idx_nat, i64w]; try (simp only [push_cast, reduceIte, reduceDIte, reduceCtorEq, Nat.reduceLT, Nat.reduceLeDiff, Nat.reduceEqDiff, Nat.reduceAdd, Nat.reduceMul, Nat.reduceBEq, Nat.reducePow, Int.zero_add, Int.reduceAdd, Int.reduceSub, Int.reduceLT, Int.reduceLE, Int.reduceToNat, Int.reduceNeg, Nat.reduceSub])))) <;> rfl) ?_
    refine loop_swp [0, 2, 3, 8, 9, 10, 11, 12, 48, 49, 50] [240] 241 (fun q A H => ∃ i : Nat, i ≤ r.length ∧ q = r.length - i ∧ A = [(0, recs r), (2, lv (.int .u16 at1)), (3, u8 by1.toNat), (8, lb false), (9, li k), (10, .ptr 240 0), (11, li (F i : Nat)), (12, li (G i : Nat)), (48, recs r), (49, li r.length), (50, li i)] ∧ H = [(240, .blk 42 (dskC ⟨encR (r.take i), 0, -1⟩))]) (by omega) ?_ ?_ ?_
    · rintro q A H ⟨i, g1, g2, rfl, rfl⟩
      exact ⟨by (exact SD), by (exact SD)⟩
    · refine ⟨_, 0, by omega, rfl, ?_, ?_⟩
      · have e1 : F 0 = 0 := by rw [hF, if_neg (by omega)]
        have e2 : G 0 = 0 := by rw [hG, if_neg (by omega)]
        rw [e1, e2]
        (((simp only [push_cast, reduceIte, reduceDIte, reduceCtorEq, Nat.reduceLT, Nat.reduceLeDiff, Nat.reduceEqDiff, Nat.reduceAdd, Nat.reduceMul, Nat.reduceBEq, Nat.reducePow, Int.zero_add, Int.reduceAdd, Int.reduceSub, Int.reduceLT, Int.reduceLE, Int.reduceToNat, Int.reduceNeg, Nat.reduceSub]); repeat (simp (disch := omega) only [idx_map, idx_nat, i64w]; try (simp only [push_cast, reduceIte, reduceDIte, reduceCtorEq, Nat.reduceLT, Nat.reduceLeDiff, Nat.reduceEqDiff, Nat.reduceAdd, Nat.reduceMul, Nat.reduceBEq, Nat.reducePow, Int.zero_add, Int.reduceAdd, Int.reduceSub, Int.reduceLT, Int.reduceLE, Int.reduceToNat, Int.reduceNeg, Nat.reduceSub]))))
      · (((simp only [push_cast, reduceIte, reduceDIte, reduceCtorEq, Nat.reduceLT, Nat.reduceLeDiff, Nat.reduceEqDiff, Nat.reduceAdd, Nat.reduceMul, Nat.reduceBEq, Nat.reducePow, Int.zero_add, Int.reduceAdd, Int.reduceSub, Int.reduceLT, Int.reduceLE, Int.reduceToNat, Int.reduceNeg, Nat.reduceSub]); repeat (simp (disch := omega) only [idx_map, idx_nat, i64w]; try (simp only [push_cast, reduceIte, reduceDIte, reduceCtorEq, Nat.reduceLT, Nat.reduceLeDiff, Nat.reduceEqDiff, Nat.reduceAdd, Nat.reduceMul, Nat.reduceBEq, Nat.reducePow, Int.zero_add, Int.reduceAdd, Int.reduceSub, Int.reduceLT, Int.reduceLE, Int.reduceToNat, Int.reduceNeg, Nat.reduceSub])))); rfl
    · rintro q A H ⟨i, g1, g2, rfl, rfl⟩
      by_cases hi : i < r.length
      · have hap : appD ⟨encR (r.take i), 0, -1⟩ (r.getD i default) = (⟨encR (r.take (i + 1)), 0, -1⟩, 0) := by
          rw [app_enc (hT i) (all_get hB hi) (by rw [List.length_take]; omega)]
          rw [List.take_succ_eq_append_getElem hi, List.getD_eq_getElem?_getD, List.getElem?_eq_getElem hi]; rfl
        obtain ⟨w1, w2, w3, w4⟩ := all_get hW hi
        have he := hEl i
        have he1 := hEl (i + 1)
        (repeat' (first | refine swp_seq [0, 1, 2, 3, 8, 9, 10, 11, 12, 13, 14, 15, 16, 17, 18, 19, 21, 41, 48, 49, 50, 51, 57, 68, 71, 79] ?_ | (first | refine rF (fun hf => ?_) | refine tN ?_ | refine swp_skip ?_ | refine swp_ret ?_ | refine swp_exit ?_ | refine swp_block ?_ | refine swp_scope ?_ | refine thenK_ret ?_ | refine thenK_exit ?_ | refine blockK_normal ?_ | refine blockK_ret ?_ | refine blockK_here ?_ | refine bX ?_ | refine scopeK_normal ?_ | refine scopeK_ret ?_ | refine scopeK_exit ?_ | refine loopK_ret ?_ | refine loopK_exit ?_ | refine dF mixed ?_ | (refine cB (fun hc => ?_) (fun hc => ?_) <;> first | exact False.elim hc | exact absurd hc Bool.false_ne_true | exact absurd hc.symm Bool.false_ne_true | skip) | refine cU ?_ ?_)))
        · have hik : i = k := by omega
          (refine rC (fun hf => ?_))
          (refine cA (append_f ⟨encR (r.take i), 0, -1⟩ (r.getD i default) _ (all_get hr hi) (by omega) (by omega) (by omega) (by omega)) (fun hf => ?_))
          rw [hap]
          (refine drun_end ?_)
          (repeat' (first | refine swp_seq [0, 1, 2, 3, 8, 9, 10, 11, 12, 13, 14, 15, 16, 17, 18, 19, 21, 41, 48, 49, 50, 51, 57, 68, 71, 79] ?_ | (first | refine rF (fun hf => ?_) | refine tN ?_ | refine swp_skip ?_ | refine swp_ret ?_ | refine swp_exit ?_ | refine swp_block ?_ | refine swp_scope ?_ | refine thenK_ret ?_ | refine thenK_exit ?_ | refine blockK_normal ?_ | refine blockK_ret ?_ | refine blockK_here ?_ | refine bX ?_ | refine scopeK_normal ?_ | refine scopeK_ret ?_ | refine scopeK_exit ?_ | refine loopK_ret ?_ | refine loopK_exit ?_ | refine dF mixed ?_ | (refine cB (fun hc => ?_) (fun hc => ?_) <;> first | exact False.elim hc | exact absurd hc Bool.false_ne_true | exact absurd hc.symm Bool.false_ne_true | skip) | refine cU ?_ ?_)))
          · exact absurd trivial hc
          · (refine lN [240] ?_)
            refine ⟨_, by omega, i + 1, by omega, rfl, ?_, ?_⟩
            · subst hik
              rw [hF1, hG1, hA, hb]; rfl
            · (((simp only [push_cast, reduceIte, reduceDIte, reduceCtorEq, Nat.reduceLT, Nat.reduceLeDiff, Nat.reduceEqDiff, Nat.reduceAdd, Nat.reduceMul, Nat.reduceBEq, Nat.reducePow, Int.zero_add, Int.reduceAdd, Int.reduceSub, Int.reduceLT, Int.reduceLE, Int.reduceToNat, Int.reduceNeg, Nat.reduceSub]); repeat (simp (disch := omega) only [idx_map, idx_nat, i64w]; try (simp only [push_cast, reduceIte, reduceDIte, reduceCtorEq, Nat.reduceLT, Nat.reduceLeDiff, Nat.reduceEqDiff, Nat.reduceAdd, Nat.reduceMul, Nat.reduceBEq, Nat.reducePow, Int.zero_add, Int.reduceAdd, Int.reduceSub, Int.reduceLT, Int.reduceLE, Int.reduceToNat, Int.reduceNeg, Nat.reduceSub]))))
          · exfalso; omega
        · have hik : i ≠ k := by omega
          (refine rC (fun hf => ?_))
          (refine cA (append_f ⟨encR (r.take i), 0, -1⟩ (r.getD i default) _ (all_get hr hi) (by omega) (by omega) (by omega) (by omega)) (fun hf => ?_))
          rw [hap]
          (refine drun_end ?_)
          (repeat' (first | refine swp_seq [0, 1, 2, 3, 8, 9, 10, 11, 12, 13, 14, 15, 16, 17, 18, 19, 21, 41, 48, 49, 50, 51, 57, 68, 71, 79] ?_ | (first | refine rF (fun hf => ?_) | refine tN ?_ | refine swp_skip ?_ | refine swp_ret ?_ | refine swp_exit ?_ | refine swp_block ?_ | refine swp_scope ?_ | refine thenK_ret ?_ | refine thenK_exit ?_ | refine blockK_normal ?_ | refine blockK_ret ?_ | refine blockK_here ?_ | refine bX ?_ | refine scopeK_normal ?_ | refine scopeK_ret ?_ | refine scopeK_exit ?_ | refine loopK_ret ?_ | refine loopK_exit ?_ | refine dF mixed ?_ | (refine cB (fun hc => ?_) (fun hc => ?_) <;> first | exact False.elim hc | exact absurd hc Bool.false_ne_true | exact absurd hc.symm Bool.false_ne_true | skip) | refine cU ?_ ?_)))
          · exact absurd trivial hc
          · exfalso; omega
          · (refine lN [240] ?_)
            refine ⟨_, by omega, i + 1, by omega, rfl, ?_, ?_⟩
            · rw [hF2 i hik, hG2 i hik]; rfl
            · (((simp only [push_cast, reduceIte, reduceDIte, reduceCtorEq, Nat.reduceLT, Nat.reduceLeDiff, Nat.reduceEqDiff, Nat.reduceAdd, Nat.reduceMul, Nat.reduceBEq, Nat.reducePow, Int.zero_add, Int.reduceAdd, Int.reduceSub, Int.reduceLT, Int.reduceLE, Int.reduceToNat, Int.reduceNeg, Nat.reduceSub]); repeat (simp (disch := omega) only [idx_map, idx_nat, i64w]; try (simp only [push_cast, reduceIte, reduceDIte, reduceCtorEq, Nat.reduceLT, Nat.reduceLeDiff, Nat.reduceEqDiff, Nat.reduceAdd, Nat.reduceMul, Nat.reduceBEq, Nat.reducePow, Int.zero_add, Int.reduceAdd, Int.reduceSub, Int.reduceLT, Int.reduceLE, Int.reduceToNat, Int.reduceNeg, Nat.reduceSub]))))
        all_goals (exfalso; omega)
      · obtain rfl : i = r.length := by omega
        have hFn : F r.length = a := by rw [hF, if_pos hkl]
        have hGn : G r.length = b := by rw [hG, if_pos hkl]
        have hbl := recBytes_len (all_get hB hkl)
        have hfl := frameB_len (recBytes (r.getD k default))
        have hpos : 1 ≤ (recBytes (r.getD k default)).length := by simp [recBytes]
        have hab : b = a + (frameB (recBytes (r.getD k default))).length := by
          rw [hA, hb, List.take_succ_eq_append_getElem hkl, encR_app, List.length_append, List.getD_eq_getElem?_getD, List.getElem?_eq_getElem hkl]
          simp [encR]
        have hfull : r.take r.length = r := List.take_of_length_le (Nat.le_refl _)
        have hEn := hEl r.length
        rw [hFn, hGn, hfull]
        rw [hfull] at hEn
        have hEk : b ≤ (encR r).length := by
          rw [rec_parts hkl, hab, hA]; simp
        (repeat' (first | refine swp_seq [0, 1, 2, 3, 8, 9, 10, 11, 12, 13, 14, 15, 16, 17, 18, 19, 21, 41, 48, 49, 50, 51, 57, 68, 71, 79] ?_ | (first | refine rF (fun hf => ?_) | refine tN ?_ | refine swp_skip ?_ | refine swp_ret ?_ | refine swp_exit ?_ | refine swp_block ?_ | refine swp_scope ?_ | refine thenK_ret ?_ | refine thenK_exit ?_ | refine blockK_normal ?_ | refine blockK_ret ?_ | refine blockK_here ?_ | refine bX ?_ | refine scopeK_normal ?_ | refine scopeK_ret ?_ | refine scopeK_exit ?_ | refine loopK_ret ?_ | refine loopK_exit ?_ | refine dF mixed ?_ | (refine cB (fun hc => ?_) (fun hc => ?_) <;> first | exact False.elim hc | exact absurd hc Bool.false_ne_true | exact absurd hc.symm Bool.false_ne_true | skip) | refine cU ?_ ?_)))
        · exfalso; omega
        · exfalso; omega
        · (refine rC (fun hf => ?_))
          (refine cA (cloneO_f (encR r) _ (by omega)) (fun hf => ?_))
          (refine drun_end ?_)
          have hj : at1.tmod ((b : Int) - a - 4) = ((at1.toNat % (b - a - 4) : Nat) : Int) := by
            obtain ⟨z, rfl⟩ : ∃ z : Nat, at1 = z := ⟨at1.toNat, by omega⟩
            rw [Int.tmod_eq_emod_of_nonneg (by omega), show (b : Int) - a - 4 = ((b - a - 4 : Nat) : Int) by omega]
            simp
          have hjl : at1.toNat % (b - a - 4) < b - a - 4 := Nat.mod_lt _ (by omega)
          generalize at1.toNat % (b - a - 4) = j at *
          have hw : IntKind.i64.wrap ((a : Int) + 4 + at1.tmod ((b : Int) - a - 4)) = ((a + (4 + j) : Nat) : Int) := by rw [hj]; exact (i64w (by omega)).trans (by omega)
          have hidx : ((a : Int) + 4 + at1.tmod ((b : Int) - a - 4)).toNat = a + (4 + j) := by rw [hj]; omega
          have hrow : (rows byRow (encR r)).getD (a + (4 + j)) [] = [DV.p (.lit (.int .u8 (((encR r).getD (a + (4 + j)) default).toNat : Int)))] := by rw [rows_get _ _ _ (by omega)]; rfl
          (repeat' (first | refine swp_seq [0, 1, 2, 3, 8, 9, 10, 11, 12, 13, 14, 15, 16, 17, 18, 19, 21, 41, 48, 49, 50, 51, 57, 68, 71, 79] ?_ | (first | refine rF (fun hf => ?_) | refine tN ?_ | refine swp_skip ?_ | refine swp_ret ?_ | refine swp_exit ?_ | refine swp_block ?_ | refine swp_scope ?_ | refine thenK_ret ?_ | refine thenK_exit ?_ | refine blockK_normal ?_ | refine blockK_ret ?_ | refine blockK_here ?_ | refine bX ?_ | refine scopeK_normal ?_ | refine scopeK_ret ?_ | refine scopeK_exit ?_ | refine loopK_ret ?_ | refine loopK_exit ?_ | refine dF mixed ?_ | (refine cB (fun hc => ?_) (fun hc => ?_) <;> first | exact False.elim hc | exact absurd hc Bool.false_ne_true | exact absurd hc.symm Bool.false_ne_true | skip) | refine cU ?_ ?_)))
          refine xF mixed [297] ?_ (hF := by (((simp only [push_cast, reduceIte, reduceDIte, reduceCtorEq, Nat.reduceLT, Nat.reduceLeDiff, Nat.reduceEqDiff, Nat.reduceAdd, Nat.reduceMul, Nat.reduceBEq, Nat.reducePow, Int.zero_add, Int.reduceAdd, Int.reduceSub, Int.reduceLT, Int.reduceLE, Int.reduceToNat, Int.reduceNeg, Nat.reduceSub]); repeat (simp (disch := omega) only [idx_map, idx_nat, i64w]; try (simp only [push_cast, reduceIte, reduceDIte, reduceCtorEq, Nat.reduceLT, Nat.reduceLeDiff, Nat.reduceEqDiff, Nat.reduceAdd, Nat.reduceMul, Nat.reduceBEq, Nat.reducePow, Int.zero_add, Int.reduceAdd, Int.reduceSub, Int.reduceLT, Int.reduceLE, Int.reduceToNat, Int.reduceNeg, Nat.reduceSub])))); simp only [hidx, hrow]; (((simp only [push_cast, reduceIte, reduceDIte, reduceCtorEq, Nat.reduceLT, Nat.reduceLeDiff, Nat.reduceEqDiff, Nat.reduceAdd, Nat.reduceMul, Nat.reduceBEq, Nat.reducePow, Int.zero_add, Int.reduceAdd, Int.reduceSub, Int.reduceLT, Int.reduceLE, Int.reduceToNat, Int.reduceNeg, Nat.reduceSub]); repeat (simp (disch := omega) only [idx_map, idx_nat, i64w]; try (simp only [push_cast, reduceIte, reduceDIte, reduceCtorEq, Nat.reduceLT, Nat.reduceLeDiff, Nat.reduceEqDiff, Nat.reduceAdd, Nat.reduceMul, Nat.reduceBEq, Nat.reducePow, Int.zero_add, Int.reduceAdd, Int.reduceSub, Int.reduceLT, Int.reduceLE, Int.reduceToNat, Int.reduceNeg, Nat.reduceSub])))) <;> rfl)
          obtain ⟨c, hc1⟩ : ∃ c : UInt8, c = (encR r).getD (a + (4 + j)) default + by1 := ⟨_, rfl⟩
          have hcn : IntKind.u8.wrap ((((encR r).getD (a + (4 + j)) default).toNat : Int) + (by1.toNat : Int)) = (c.toNat : Int) := by
            rw [hc1, UInt8.toNat_add, IntKind.wrap_u8]; simp
          have hcne : (encR r).getD (a + (4 + j)) default ≠ c := fun q => by
            have q2 := congrArg UInt8.toNat q
            rw [hc1, UInt8.toNat_add] at q2
            have := u8lt by1
            have := u8lt ((encR r).getD (a + (4 + j)) default)
            omega
          have hset2 : (rows byRow (encR r)).set ((a : Int) + 4 + at1.tmod ((b : Int) - a - 4)).toNat (DV.p (.lit (.int .u8 (IntKind.u8.wrap ((((encR r).getD (a + (4 + j)) default).toNat : Int) + (by1.toNat : Int))))) :: List.drop 1 ((rows byRow (encR r)).getD ((a : Int) + 4 + at1.tmod ((b : Int) - a - 4)).toNat [])) = rows byRow ((encR r).set (a + (4 + j)) c) := by
            rw [hidx, hrow, hcn, ← rows_set]; rfl
          rw [hset2]
          have hop : openD ⟨(encR r).set (a + (4 + j)) c, 0, -1⟩ = (⟨encR (r.take k), (encR (r.take k)).length, -1⟩, 0) := by
            rw [hA] at hcne ⊢
            exact open_torn hB (by omega) hkl (by omega) (by omega) hcne
          have hrd := recs_enc (hT k) (by rw [List.length_take]; omega)
          have hka : (encR (r.take k)).length = a := hA.symm
          have htk : ∀ x ∈ r.take k, recOk x := fun x hx => hr x (List.mem_of_mem_take hx)
          (repeat' (first | refine swp_seq [0, 1, 2, 3, 8, 9, 10, 11, 12, 13, 14, 15, 16, 17, 18, 19, 21, 41, 48, 49, 50, 51, 57, 68, 71, 79] ?_ | (first | refine rF (fun hf => ?_) | refine tN ?_ | refine swp_skip ?_ | refine swp_ret ?_ | refine swp_exit ?_ | refine swp_block ?_ | refine swp_scope ?_ | refine thenK_ret ?_ | refine thenK_exit ?_ | refine blockK_normal ?_ | refine blockK_ret ?_ | refine blockK_here ?_ | refine bX ?_ | refine scopeK_normal ?_ | refine scopeK_ret ?_ | refine scopeK_exit ?_ | refine loopK_ret ?_ | refine loopK_exit ?_ | refine dF mixed ?_ | (refine cB (fun hc => ?_) (fun hc => ?_) <;> first | exact False.elim hc | exact absurd hc Bool.false_ne_true | exact absurd hc.symm Bool.false_ne_true | skip) | refine cU ?_ ?_)))
          (refine sF 297 ?_)
          (refine rC (fun hf => ?_))
          (refine cA (open_f ⟨(encR r).set (a + (4 + j)) c, 0, -1⟩ _) (fun hf => ?_))
          rw [hop]
          (refine drun_end ?_)
          (repeat' (first | refine swp_seq [0, 1, 2, 3, 8, 9, 10, 11, 12, 13, 14, 15, 16, 17, 18, 19, 21, 41, 48, 49, 50, 51, 57, 68, 71, 79] ?_ | (first | refine rF (fun hf => ?_) | refine tN ?_ | refine swp_skip ?_ | refine swp_ret ?_ | refine swp_exit ?_ | refine swp_block ?_ | refine swp_scope ?_ | refine thenK_ret ?_ | refine thenK_exit ?_ | refine blockK_normal ?_ | refine blockK_ret ?_ | refine blockK_here ?_ | refine bX ?_ | refine scopeK_normal ?_ | refine scopeK_ret ?_ | refine scopeK_exit ?_ | refine loopK_ret ?_ | refine loopK_exit ?_ | refine dF mixed ?_ | (refine cB (fun hc => ?_) (fun hc => ?_) <;> first | exact False.elim hc | exact absurd hc Bool.false_ne_true | exact absurd hc.symm Bool.false_ne_true | skip) | refine cU ?_ ?_)))
          (refine rC (fun hf => ?_))
          (refine cA (records_f ⟨encR (r.take k), (encR (r.take k)).length, -1⟩ _) (fun hf => ?_))
          rw [hrd]
          (refine drun_end ?_)
          (repeat' (first | refine swp_seq [0, 1, 2, 3, 8, 9, 10, 11, 12, 13, 14, 15, 16, 17, 18, 19, 21, 41, 48, 49, 50, 51, 57, 68, 71, 79] ?_ | (first | refine rF (fun hf => ?_) | refine tN ?_ | refine swp_skip ?_ | refine swp_ret ?_ | refine swp_exit ?_ | refine swp_block ?_ | refine swp_scope ?_ | refine thenK_ret ?_ | refine thenK_exit ?_ | refine blockK_normal ?_ | refine blockK_ret ?_ | refine blockK_here ?_ | refine bX ?_ | refine scopeK_normal ?_ | refine scopeK_ret ?_ | refine scopeK_exit ?_ | refine loopK_ret ?_ | refine loopK_exit ?_ | refine dF mixed ?_ | (refine cB (fun hc => ?_) (fun hc => ?_) <;> first | exact False.elim hc | exact absurd hc Bool.false_ne_true | exact absurd hc.symm Bool.false_ne_true | skip) | refine cU ?_ ?_)))
          (refine rC (fun hf => ?_))
          (refine cA (sameAll_self (r.take k) _ (by rw [List.length_take]; omega) htk) (fun hf => ?_))
          (refine drun_end ?_)
          (repeat' (first | refine swp_seq [0, 1, 2, 3, 8, 9, 10, 11, 12, 13, 14, 15, 16, 17, 18, 19, 21, 41, 48, 49, 50, 51, 57, 68, 71, 79] ?_ | (first | refine rF (fun hf => ?_) | refine tN ?_ | refine swp_skip ?_ | refine swp_ret ?_ | refine swp_exit ?_ | refine swp_block ?_ | refine swp_scope ?_ | refine thenK_ret ?_ | refine thenK_exit ?_ | refine blockK_normal ?_ | refine blockK_ret ?_ | refine blockK_here ?_ | refine bX ?_ | refine scopeK_normal ?_ | refine scopeK_ret ?_ | refine scopeK_exit ?_ | refine loopK_ret ?_ | refine loopK_exit ?_ | refine dF mixed ?_ | (refine cB (fun hc => ?_) (fun hc => ?_) <;> first | exact False.elim hc | exact absurd hc Bool.false_ne_true | exact absurd hc.symm Bool.false_ne_true | skip) | refine cU ?_ ?_)))
          (((simp only [push_cast, reduceIte, reduceDIte, reduceCtorEq, Nat.reduceLT, Nat.reduceLeDiff, Nat.reduceEqDiff, Nat.reduceAdd, Nat.reduceMul, Nat.reduceBEq, Nat.reducePow, Int.zero_add, Int.reduceAdd, Int.reduceSub, Int.reduceLT, Int.reduceLE, Int.reduceToNat, Int.reduceNeg, Nat.reduceSub]); repeat (simp (disch := omega) only [idx_map, idx_nat, i64w]; try (simp only [push_cast, reduceIte, reduceDIte, reduceCtorEq, Nat.reduceLT, Nat.reduceLeDiff, Nat.reduceEqDiff, Nat.reduceAdd, Nat.reduceMul, Nat.reduceBEq, Nat.reducePow, Int.zero_add, Int.reduceAdd, Int.reduceSub, Int.reduceLT, Int.reduceLE, Int.reduceToNat, Int.reduceNeg, Nat.reduceSub]))))
          rw [hka]; simp
attribute [local irreducible] PT
theorem pt_u16 {n : Nat} {xs : List PV} (h : PT Try.prog (n + 1) 63 xs) : ∃ z : Int, xs = [.lit (.int .u16 z)] ∧ 0 ≤ z ∧ z ≤ 65535 := by
  obtain ⟨z, rfl, hz⟩ := PT_int (P := Try.prog) (t := 63) Try.underlying63 h
  exact ⟨z, rfl, by simpa [Lit.wf, IntKind.min, IntKind.max, IntKind.signed, IntKind.bits] using hz⟩
theorem pt_recs {n : Nat} {xs : List PV} (h : PT Try.prog (n + 5) 55 xs) : ∃ l : List Rec, xs = [.dat 11 (l.map recP)] ∧ l.length ≤ 281474976710656 ∧ ∀ r, r ∈ l → recOk r := by
  obtain ⟨l, rfl, hl, hr⟩ := PT_slice (P := Try.prog) (t := 55) Try.underlying55 h
  rw [bytes26] at hl
  rw [cells26]
  obtain ⟨zs, hz⟩ := exMap (fun r : { r : Rec // recOk r } => recP r.1) l fun r hr2 => by
    obtain ⟨z, hz, hk⟩ := pt_rec (hr r hr2)
    exact ⟨⟨z, hk⟩, hz⟩
  refine ⟨zs.map (fun r => r.1), ?_, ?_, fun r hr2 => ?_⟩
  · rw [hz, List.map_map]; rfl
  · have := reachB
    rw [hz] at hl
    simp at hl ⊢; omega
  · obtain ⟨q, _, rfl⟩ := List.mem_map.1 hr2
    exact q.2
theorem dv_recs (l : List Rec) : dvT Try.prog 55 [.dat 11 (l.map recP)] = recs l := by unfold dvT; rw [Try.underlying55]; rfl
theorem dv_u8 (z : UInt8) : dvT Try.prog 5 (byRow z) = u8 z.toNat := by unfold dvT; rw [Try.underlying5]; rfl
theorem dv_u16 (z : Int) : dvT Try.prog 63 [.lit (.int .u16 z)] = lv (.int .u16 z) := by unfold dvT; rw [Try.underlying63]; rfl

end Go.Proofs.Ytkhddlhhbanebaa
