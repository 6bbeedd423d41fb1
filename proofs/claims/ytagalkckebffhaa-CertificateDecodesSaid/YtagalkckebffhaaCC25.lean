/-
  Contracts of functions of the program, over the engine.
  No condition.
-/
import Derived.Test.YtagalkckebffhaaCC23
import Derived.Test.YtagalkckebffhaaCC19C20
namespace Go.Proofs.Ytagalkckebffhaa
open Go.Eng
set_option linter.all false
attribute [local irreducible] DCallsG SWp Fct CallQ XCallQ LCallQ XLCallQ drun xrun

theorem O_frz (rs : List (List Int)) (k o : Nat) (x : FV) : (rows ilRow rs ++ List.replicate k nilRow).map (DV.frzL o x) = rows ilRow rs ++ List.replicate k nilRow := by
  rw [List.map_append, frz_rows, List.map_replicate]; rfl
theorem O_ren (rs : List (List Int)) (k a b : Nat) : (rows ilRow rs ++ List.replicate k nilRow).map (DV.renL a b) = rows ilRow rs ++ List.replicate k nilRow := by
  rw [List.map_append, ren_rows, List.map_replicate]; rfl
theorem O_uses (rs : List (List Int)) (k : Nat) (U : Nat → Prop) : DV.usesL U (rows ilRow rs ++ List.replicate k nilRow).flatten := by
  rw [List.flatten_append]
  refine usesL_append (uses_rows ilRow U rs) (usesL_iff.2 fun d hd => ?_)
  obtain ⟨r, hr, hd⟩ := List.mem_flatten.1 hd
  rw [List.eq_of_mem_replicate hr] at hd
  simp only [nilRow, List.mem_singleton] at hd
  subst hd; trivial
theorem O_set_uses {O : List (List DV)} {U : Nat → Prop} (h : DV.usesL U O.flatten) {K i : Nat} (hK : U K) : DV.usesL U (O.set i [.gl K]).flatten :=
  usesL_iff.2 fun d hd => by
    obtain ⟨r, hr, hd⟩ := List.mem_flatten.1 hd
    rcases List.mem_or_eq_of_mem_set hr with hr | rfl
    · exact usesL_iff.1 h d (List.mem_flatten.2 ⟨r, hr, hd⟩)
    · simp only [List.mem_singleton] at hd; subst hd; exact hK
theorem O_set {rs : List (List Int)} {k i : Nat} (hi : rs.length = i) (r : List Int) : (rows ilRow rs ++ List.replicate (k + 1) nilRow).set i [.p (.dat 1 (r.map inRow))] = rows ilRow (rs ++ [r]) ++ List.replicate k nilRow := by
  have hl : (rows ilRow rs).length = i := by simp [rows, hi]
  rw [List.set_append_right _ _ (by omega), hl, Nat.sub_self, List.replicate_succ, List.set_cons_zero, app_il, List.append_assoc]; rfl
theorem O_get {rs : List (List Int)} {k i : Nat} (hi : rs.length = i) : (rows ilRow rs ++ List.replicate (k + 1) nilRow).getD i [] = nilRow := by
  have hl : (rows ilRow rs).length = i := by simp [rows, hi]
  rw [List.getD_eq_getElem?_getD, List.getElem?_append_right (by omega), hl, Nat.sub_self]; rfl
theorem O_pv (rs : List (List Int)) (k : Nat) : ∃ y, pvLL (rows ilRow rs ++ List.replicate k nilRow) = some y := by
  have : rows ilRow rs ++ List.replicate k nilRow = rows (fun x : List PV => x) (rs.map ilRow ++ List.replicate k [.lit (.slice none 0 0)]) := by
    simp [rows, nilRow]
  rw [this, rows_pv]; exact ⟨_, rfl⟩
theorem own_nil (l : List (List DV)) (i : Nat) [h : Nonempty (l.getD i [] = nilRow)] : l.getD i [] = [.p (.lit (.slice none 0 0))] := h.elim id
attribute [push_cast] own_nil List.length_set
set_option maxRecDepth 20000 in
set_option maxHeartbeats 16000000 in
theorem rdecode_f (b : List UInt8) (m : Nat) (hb : b.length ≤ 281474976710656) : DCalls Try.prog 17 [bys b] (hget []) m (.tup [intss (decR b).1, li (decR b).2]) (hget []) := by
  by_cases h1 : (1048576 : Int) < (b.length : Int)
  · (have := Nonempty.intro h1)
    rw [show decR b = ([], 5) by unfold decR; rw [if_pos (by omega)]]
    refine pureC (n := 107) (rs := [.tmp 2, .tmp 3]) (ts := [27, 3]) Try.func17 rfl (by decide) [] (by (exact SD)) ?_
    (repeat' (first | refine swp_seq [0, 2, 3, 4, 5, 6, 7, 8, 9, 12, 33, 36, 43, 50, 63, 66, 87, 92, 100, 104] ?_ | refine st1 ?_ | (show Fct ..; refine fctI (fun hf => ?_)) | (show SWp _ _ _ (.region _ _ true) _ _ _ _; refine xG mixed [] ?_) | (show SWp _ _ _ (.cond _ _ _) _ _ _ _; first | (refine cB (fun hc => ?_) (fun hc => ?_) <;> first | exact False.elim hc | exact absurd hc Bool.false_ne_true | exact absurd hc.symm Bool.false_ne_true | skip) | refine cU ?_ ?_)))
    (((simp only [push_cast, reduceIte, reduceDIte, reduceCtorEq, Nat.reduceLT, Nat.reduceLeDiff, Nat.reduceEqDiff, Nat.reduceAdd, Nat.reduceMul, Nat.reduceBEq, Nat.reducePow, Int.zero_add, Int.reduceAdd, Int.reduceSub, Int.reduceLT, Int.reduceLE, Int.reduceToNat, Int.reduceNeg, Nat.reduceSub, Int.reduceBNe, Int.reduceBEq, Int.reduceTDiv, Int.reduceTMod, Int.reduceMul]); repeat (simp (disch := omega) only [idx_nat, idx_mapT, i64w, rows_getS, rows_get, getD_set_self, famR_get]; try (simp only [push_cast, reduceIte, reduceDIte, reduceCtorEq, Nat.reduceLT, Nat.reduceLeDiff, Nat.reduceEqDiff, Nat.reduceAdd, Nat.reduceMul, Nat.reduceBEq, Nat.reducePow, Int.zero_add, Int.reduceAdd, Int.reduceSub, Int.reduceLT, Int.reduceLE, Int.reduceToNat, Int.reduceNeg, Nat.reduceSub, Int.reduceBNe, Int.reduceBEq, Int.reduceTDiv, Int.reduceTMod, Int.reduceMul])))) <;> rfl
  (have := Nonempty.intro h1)
  by_cases hm : b.take 3 = magic
  case neg =>
    rw [show decR b = ([], 7) by unfold decR; rw [if_neg (by omega), if_pos hm]]
    by_cases f3 : (b.length : Int) < 3
    · (have := Nonempty.intro f3)
      refine pureC (n := 107) (rs := [.tmp 2, .tmp 3]) (ts := [27, 3]) Try.func17 rfl (by decide) [] (by (exact SD)) ?_
      (repeat' (first | refine swp_seq [0, 2, 3, 4, 5, 6, 7, 8, 9, 12, 33, 36, 43, 50, 63, 66, 87, 92, 100, 104] ?_ | refine st1 ?_ | (show Fct ..; refine fctI (fun hf => ?_)) | (show SWp _ _ _ (.region _ _ true) _ _ _ _; refine xG mixed [] ?_) | (show SWp _ _ _ (.cond _ _ _) _ _ _ _; first | (refine cB (fun hc => ?_) (fun hc => ?_) <;> first | exact False.elim hc | exact absurd hc Bool.false_ne_true | exact absurd hc.symm Bool.false_ne_true | skip) | refine cU ?_ ?_)))
      (((simp only [push_cast, reduceIte, reduceDIte, reduceCtorEq, Nat.reduceLT, Nat.reduceLeDiff, Nat.reduceEqDiff, Nat.reduceAdd, Nat.reduceMul, Nat.reduceBEq, Nat.reducePow, Int.zero_add, Int.reduceAdd, Int.reduceSub, Int.reduceLT, Int.reduceLE, Int.reduceToNat, Int.reduceNeg, Nat.reduceSub, Int.reduceBNe, Int.reduceBEq, Int.reduceTDiv, Int.reduceTMod, Int.reduceMul]); repeat (simp (disch := omega) only [idx_nat, idx_mapT, i64w, rows_getS, rows_get, getD_set_self, famR_get]; try (simp only [push_cast, reduceIte, reduceDIte, reduceCtorEq, Nat.reduceLT, Nat.reduceLeDiff, Nat.reduceEqDiff, Nat.reduceAdd, Nat.reduceMul, Nat.reduceBEq, Nat.reducePow, Int.zero_add, Int.reduceAdd, Int.reduceSub, Int.reduceLT, Int.reduceLE, Int.reduceToNat, Int.reduceNeg, Nat.reduceSub, Int.reduceBNe, Int.reduceBEq, Int.reduceTDiv, Int.reduceTMod, Int.reduceMul])))) <;> rfl
    (have := Nonempty.intro f3)
    by_cases z0 : ((b.getD 0 default).toNat : Int) = 82
    case neg =>
      (have := Nonempty.intro z0)
      refine pureC (n := 107) (rs := [.tmp 2, .tmp 3]) (ts := [27, 3]) Try.func17 rfl (by decide) [] (by (exact SD)) ?_
      (repeat' (first | refine swp_seq [0, 2, 3, 4, 5, 6, 7, 8, 9, 12, 33, 36, 43, 50, 63, 66, 87, 92, 100, 104] ?_ | refine st1 ?_ | (show Fct ..; refine fctI (fun hf => ?_)) | (show SWp _ _ _ (.region _ _ true) _ _ _ _; refine xG mixed [] ?_) | (show SWp _ _ _ (.cond _ _ _) _ _ _ _; first | (refine cB (fun hc => ?_) (fun hc => ?_) <;> first | exact False.elim hc | exact absurd hc Bool.false_ne_true | exact absurd hc.symm Bool.false_ne_true | skip) | refine cU ?_ ?_)))
      (((simp only [push_cast, reduceIte, reduceDIte, reduceCtorEq, Nat.reduceLT, Nat.reduceLeDiff, Nat.reduceEqDiff, Nat.reduceAdd, Nat.reduceMul, Nat.reduceBEq, Nat.reducePow, Int.zero_add, Int.reduceAdd, Int.reduceSub, Int.reduceLT, Int.reduceLE, Int.reduceToNat, Int.reduceNeg, Nat.reduceSub, Int.reduceBNe, Int.reduceBEq, Int.reduceTDiv, Int.reduceTMod, Int.reduceMul]); repeat (simp (disch := omega) only [idx_nat, idx_mapT, i64w, rows_getS, rows_get, getD_set_self, famR_get]; try (simp only [push_cast, reduceIte, reduceDIte, reduceCtorEq, Nat.reduceLT, Nat.reduceLeDiff, Nat.reduceEqDiff, Nat.reduceAdd, Nat.reduceMul, Nat.reduceBEq, Nat.reducePow, Int.zero_add, Int.reduceAdd, Int.reduceSub, Int.reduceLT, Int.reduceLE, Int.reduceToNat, Int.reduceNeg, Nat.reduceSub, Int.reduceBNe, Int.reduceBEq, Int.reduceTDiv, Int.reduceTMod, Int.reduceMul])))) <;> rfl
    (have := Nonempty.intro z0)
    by_cases z1 : ((b.getD 1 default).toNat : Int) = 67
    case neg =>
      (have := Nonempty.intro z1)
      refine pureC (n := 107) (rs := [.tmp 2, .tmp 3]) (ts := [27, 3]) Try.func17 rfl (by decide) [] (by (exact SD)) ?_
      (repeat' (first | refine swp_seq [0, 2, 3, 4, 5, 6, 7, 8, 9, 12, 33, 36, 43, 50, 63, 66, 87, 92, 100, 104] ?_ | refine st1 ?_ | (show Fct ..; refine fctI (fun hf => ?_)) | (show SWp _ _ _ (.region _ _ true) _ _ _ _; refine xG mixed [] ?_) | (show SWp _ _ _ (.cond _ _ _) _ _ _ _; first | (refine cB (fun hc => ?_) (fun hc => ?_) <;> first | exact False.elim hc | exact absurd hc Bool.false_ne_true | exact absurd hc.symm Bool.false_ne_true | skip) | refine cU ?_ ?_)))
      (((simp only [push_cast, reduceIte, reduceDIte, reduceCtorEq, Nat.reduceLT, Nat.reduceLeDiff, Nat.reduceEqDiff, Nat.reduceAdd, Nat.reduceMul, Nat.reduceBEq, Nat.reducePow, Int.zero_add, Int.reduceAdd, Int.reduceSub, Int.reduceLT, Int.reduceLE, Int.reduceToNat, Int.reduceNeg, Nat.reduceSub, Int.reduceBNe, Int.reduceBEq, Int.reduceTDiv, Int.reduceTMod, Int.reduceMul]); repeat (simp (disch := omega) only [idx_nat, idx_mapT, i64w, rows_getS, rows_get, getD_set_self, famR_get]; try (simp only [push_cast, reduceIte, reduceDIte, reduceCtorEq, Nat.reduceLT, Nat.reduceLeDiff, Nat.reduceEqDiff, Nat.reduceAdd, Nat.reduceMul, Nat.reduceBEq, Nat.reducePow, Int.zero_add, Int.reduceAdd, Int.reduceSub, Int.reduceLT, Int.reduceLE, Int.reduceToNat, Int.reduceNeg, Nat.reduceSub, Int.reduceBNe, Int.reduceBEq, Int.reduceTDiv, Int.reduceTMod, Int.reduceMul])))) <;> rfl
    (have := Nonempty.intro z1)
    by_cases z2 : ((b.getD 2 default).toNat : Int) = 1
    case neg =>
      (have := Nonempty.intro z2)
      refine pureC (n := 107) (rs := [.tmp 2, .tmp 3]) (ts := [27, 3]) Try.func17 rfl (by decide) [] (by (exact SD)) ?_
      (repeat' (first | refine swp_seq [0, 2, 3, 4, 5, 6, 7, 8, 9, 12, 33, 36, 43, 50, 63, 66, 87, 92, 100, 104] ?_ | refine st1 ?_ | (show Fct ..; refine fctI (fun hf => ?_)) | (show SWp _ _ _ (.region _ _ true) _ _ _ _; refine xG mixed [] ?_) | (show SWp _ _ _ (.cond _ _ _) _ _ _ _; first | (refine cB (fun hc => ?_) (fun hc => ?_) <;> first | exact False.elim hc | exact absurd hc Bool.false_ne_true | exact absurd hc.symm Bool.false_ne_true | skip) | refine cU ?_ ?_)))
      (((simp only [push_cast, reduceIte, reduceDIte, reduceCtorEq, Nat.reduceLT, Nat.reduceLeDiff, Nat.reduceEqDiff, Nat.reduceAdd, Nat.reduceMul, Nat.reduceBEq, Nat.reducePow, Int.zero_add, Int.reduceAdd, Int.reduceSub, Int.reduceLT, Int.reduceLE, Int.reduceToNat, Int.reduceNeg, Nat.reduceSub, Int.reduceBNe, Int.reduceBEq, Int.reduceTDiv, Int.reduceTMod, Int.reduceMul]); repeat (simp (disch := omega) only [idx_nat, idx_mapT, i64w, rows_getS, rows_get, getD_set_self, famR_get]; try (simp only [push_cast, reduceIte, reduceDIte, reduceCtorEq, Nat.reduceLT, Nat.reduceLeDiff, Nat.reduceEqDiff, Nat.reduceAdd, Nat.reduceMul, Nat.reduceBEq, Nat.reducePow, Int.zero_add, Int.reduceAdd, Int.reduceSub, Int.reduceLT, Int.reduceLE, Int.reduceToNat, Int.reduceNeg, Nat.reduceSub, Int.reduceBNe, Int.reduceBEq, Int.reduceTDiv, Int.reduceTMod, Int.reduceMul])))) <;> rfl
    refine absurd ?_ hm
    match b, f3, z0, z1, z2 with
    | x :: y :: z :: l, _, z0, z1, z2 =>
      have e0 : x = 82 := UInt8.toNat_inj.1 (by simpa using Int.ofNat.inj z0)
      have e1 : y = 67 := UInt8.toNat_inj.1 (by simpa using Int.ofNat.inj z1)
      have e2 : z = 1 := UInt8.toNat_inj.1 (by simpa using Int.ofNat.inj z2)
      rw [e0, e1, e2]; rfl
    | [], f3, _, _, _ => exact absurd (by simp) f3
    | [_], f3, _, _, _ => exact absurd (by simp) f3
    | [_, _], f3, _, _, _ => exact absurd (by simp) f3
  have h3 : 3 ≤ b.length := by
    have := congrArg List.length hm
    rw [List.length_take] at this
    have h3 : magic.length = 3 := rfl
    omega
  have hb3 : ∃ l, b = 82 :: 67 :: 1 :: l := ⟨b.drop 3, by
    have := List.take_append_drop 3 b
    rw [hm] at this; exact this.symm⟩
  have f3 : ¬ ((b.length : Int) < 3) := by omega
  have z0 : ((b.getD 0 default).toNat : Int) = 82 := by obtain ⟨l, rfl⟩ := hb3; rfl
  have z1 : ((b.getD 1 default).toNat : Int) = 67 := by obtain ⟨l, rfl⟩ := hb3; rfl
  have z2 : ((b.getD 2 default).toNat : Int) = 1 := by obtain ⟨l, rfl⟩ := hb3; rfl
  (have := Nonempty.intro f3)
  (have := Nonempty.intro z0)
  (have := Nonempty.intro z1)
  (have := Nonempty.intro z2)
  by_cases h5 : (b.length : Int) < 5
  case pos =>
    (have := Nonempty.intro h5)
    rw [show decR b = ([], 8) by unfold decR; rw [if_neg (by omega), if_neg (fun q => q hm), if_pos (by omega)]]
    refine pureC (n := 107) (rs := [.tmp 2, .tmp 3]) (ts := [27, 3]) Try.func17 rfl (by decide) [] (by (exact SD)) ?_
    (repeat' (first | refine swp_seq [0, 2, 3, 4, 5, 6, 7, 8, 9, 12, 33, 36, 43, 50, 63, 66, 87, 92, 100, 104] ?_ | refine st1 ?_ | (show Fct ..; refine fctI (fun hf => ?_)) | (show SWp _ _ _ (.region _ _ true) _ _ _ _; refine xG mixed [] ?_) | (show SWp _ _ _ (.cond _ _ _) _ _ _ _; first | (refine cB (fun hc => ?_) (fun hc => ?_) <;> first | exact False.elim hc | exact absurd hc Bool.false_ne_true | exact absurd hc.symm Bool.false_ne_true | skip) | refine cU ?_ ?_)))
    (((simp only [push_cast, reduceIte, reduceDIte, reduceCtorEq, Nat.reduceLT, Nat.reduceLeDiff, Nat.reduceEqDiff, Nat.reduceAdd, Nat.reduceMul, Nat.reduceBEq, Nat.reducePow, Int.zero_add, Int.reduceAdd, Int.reduceSub, Int.reduceLT, Int.reduceLE, Int.reduceToNat, Int.reduceNeg, Nat.reduceSub, Int.reduceBNe, Int.reduceBEq, Int.reduceTDiv, Int.reduceTMod, Int.reduceMul]); repeat (simp (disch := omega) only [idx_nat, idx_mapT, i64w, rows_getS, rows_get, getD_set_self, famR_get]; try (simp only [push_cast, reduceIte, reduceDIte, reduceCtorEq, Nat.reduceLT, Nat.reduceLeDiff, Nat.reduceEqDiff, Nat.reduceAdd, Nat.reduceMul, Nat.reduceBEq, Nat.reducePow, Int.zero_add, Int.reduceAdd, Int.reduceSub, Int.reduceLT, Int.reduceLE, Int.reduceToNat, Int.reduceNeg, Nat.reduceSub, Int.reduceBNe, Int.reduceBEq, Int.reduceTDiv, Int.reduceTMod, Int.reduceMul])))) <;> rfl
  (have := Nonempty.intro h5)
  have c0 := fun m => take_f b 3 2 m hb (by omega)
  rw [show tkV b 3 2 = (numU ((b.drop 3).take 2) : Nat) from num2_w _] at c0
  have hR : decR b = decT b (pI (b.drop 5) (numU ((b.drop 3).take 2))) := by
    unfold decR; rw [if_neg (by omega), if_neg (fun q => q hm), if_neg (by omega)]
  have hN := num2_lt (b.drop 3)
  generalize hNN : numU ((b.drop 3).take 2) = N at *
  rw [hR]
  refine pureC (n := 107) (rs := [.tmp 2, .tmp 3]) (ts := [27, 3]) Try.func17 rfl (by decide) [248] (by (exact SD)) ?_
  (repeat' (first | refine swp_seq [0, 2, 3, 4, 5, 6, 7, 8, 9, 12, 33, 36, 43, 50, 63, 66, 87, 92, 100, 104] ?_ | refine st1 ?_ | (show CallQ ..; first | refine cF ?_ | refine cQ (fun hcc => (by first | exact c0 _)) ?_ | (refine lP ?_; refine lQ (fun hcc m => (by first | exact c0 _)) ?_)) | (show Fct ..; refine fctI (fun hf => ?_)) | (show XCallQ ..; first | refine xcF ?_ | refine xQ (fun hcc => (by first | exact c0 _)) ?_ | (refine xlP ?_; refine xlQ (fun hcc m => (by first | exact c0 _)) ?_)) | (show SWp _ _ _ (.region _ _ true) _ _ _ _; refine xG mixed [] ?_) | (show SWp _ _ _ (.cond _ _ _) _ _ _ _; first | (refine cB (fun hc => ?_) (fun hc => ?_) <;> first | exact False.elim hc | exact absurd hc Bool.false_ne_true | exact absurd hc.symm Bool.false_ne_true | skip) | refine cU ?_ ?_)))
  refine loop_swp [0, 4, 5, 6] [248] 249 (fun q A H => ∃ (i a : Nat) (rs : List (List Int)), i ≤ N ∧ q = N - i ∧ pI (b.drop 5) i = some (rs, b.drop a) ∧ a ≤ b.length ∧ A = [(0, bys b), (4, .gl 248), (5, li a), (6, li i)] ∧ H = [(248, .lst 22 1 (rows ilRow rs ++ List.replicate (N - i) nilRow))]) (by omega) ?_ ?_ ?_
  · rintro q A H ⟨i, a, rs, g1, g2, g3, g4, rfl, rfl⟩
    exact ⟨by (exact SD), ⟨by omega, O_uses _ _ _, trivial⟩⟩
  · refine ⟨_, 0, 5, [], by omega, rfl, rfl, by omega, ?_, ?_⟩
    · (((simp only [push_cast, reduceIte, reduceDIte, reduceCtorEq, Nat.reduceLT, Nat.reduceLeDiff, Nat.reduceEqDiff, Nat.reduceAdd, Nat.reduceMul, Nat.reduceBEq, Nat.reducePow, Int.zero_add, Int.reduceAdd, Int.reduceSub, Int.reduceLT, Int.reduceLE, Int.reduceToNat, Int.reduceNeg, Nat.reduceSub, Int.reduceBNe, Int.reduceBEq, Int.reduceTDiv, Int.reduceTMod, Int.reduceMul]); repeat (simp (disch := omega) only [idx_nat, idx_mapT, i64w, rows_getS, rows_get, getD_set_self, famR_get]; try (simp only [push_cast, reduceIte, reduceDIte, reduceCtorEq, Nat.reduceLT, Nat.reduceLeDiff, Nat.reduceEqDiff, Nat.reduceAdd, Nat.reduceMul, Nat.reduceBEq, Nat.reducePow, Int.zero_add, Int.reduceAdd, Int.reduceSub, Int.reduceLT, Int.reduceLE, Int.reduceToNat, Int.reduceNeg, Nat.reduceSub, Int.reduceBNe, Int.reduceBEq, Int.reduceTDiv, Int.reduceTMod, Int.reduceMul])))) <;> rfl
    · rfl
  rintro q A H ⟨i, a, rs, g1, g2, g3, g4, rfl, rfl⟩
  have hd5 : (b.drop 5).length = b.length - 5 := List.length_drop
  have hok := pI_ok (by omega) g3
  have hda : (b.drop a).length = b.length - a := List.length_drop
  by_cases hi : i < N
  · obtain ⟨k, hk⟩ : ∃ k, N - i = k + 1 := ⟨N - i - 1, by omega⟩
    have hOf := O_frz rs (k + 1)
    have hOr := O_ren rs (k + 1)
    have hOu := O_uses rs (k + 1)
    have hOs := fun r => O_set (k := k) hok.1 r
    have hOg := O_get (k := k) hok.1
    obtain ⟨pv, hOp⟩ := O_pv rs (k + 1)
    have hOl : (rows ilRow rs ++ List.replicate (k + 1) nilRow).length = N := by simp [rows, hok.1]; omega
    rw [hk]
    generalize hO : rows ilRow rs ++ List.replicate (k + 1) nilRow = O at *
    have hi3 : (i : Int) < (O.length : Int) := by omega
    (have := Nonempty.intro hi3)
    (have := Nonempty.intro hOg)
    have hcut := pI_cut g3
    have hnext := pI_next g3
    by_cases hs : (b.length : Int) < (a : Int) + 2
    · (have := Nonempty.intro hs)
      have hpn := pI_end (pI_short g3 (by omega)) (by omega : i + 1 ≤ N)
      rw [show decT b (pI (b.drop 5) N) = ([], 8) by rw [hpn]; rfl]
      (repeat' (first | refine swp_seq [0, 2, 3, 4, 5, 6, 7, 8, 9, 12, 33, 36, 43, 50, 63, 66, 87, 92, 100, 104] ?_ | refine st1 ?_ | (show CallQ ..; first | refine cF ?_ | refine cQ (fun hcc => (by fail)) ?_ | (refine lP ?_; refine lQ (fun hcc m => (by fail)) ?_)) | (show Fct ..; refine fctI (fun hf => ?_)) | (show XCallQ ..; first | refine xcF ?_ | refine xQ (fun hcc => (by fail)) ?_ | (refine xlP ?_; refine xlQ (fun hcc m => (by fail)) ?_)) | (show SWp _ _ _ (.region _ _ true) _ _ _ _; refine xG mixed [] ?_) | (show SWp _ _ _ (.cond _ _ _) _ _ _ _; first | (refine cB (fun hc => ?_) (fun hc => ?_) <;> first | exact False.elim hc | exact absurd hc Bool.false_ne_true | exact absurd hc.symm Bool.false_ne_true | skip) | refine cU ?_ ?_)))
      (((simp only [push_cast, reduceIte, reduceDIte, reduceCtorEq, Nat.reduceLT, Nat.reduceLeDiff, Nat.reduceEqDiff, Nat.reduceAdd, Nat.reduceMul, Nat.reduceBEq, Nat.reducePow, Int.zero_add, Int.reduceAdd, Int.reduceSub, Int.reduceLT, Int.reduceLE, Int.reduceToNat, Int.reduceNeg, Nat.reduceSub, Int.reduceBNe, Int.reduceBEq, Int.reduceTDiv, Int.reduceTMod, Int.reduceMul]); repeat (simp (disch := omega) only [idx_nat, idx_mapT, i64w, rows_getS, rows_get, getD_set_self, famR_get]; try (simp only [push_cast, reduceIte, reduceDIte, reduceCtorEq, Nat.reduceLT, Nat.reduceLeDiff, Nat.reduceEqDiff, Nat.reduceAdd, Nat.reduceMul, Nat.reduceBEq, Nat.reducePow, Int.zero_add, Int.reduceAdd, Int.reduceSub, Int.reduceLT, Int.reduceLE, Int.reduceToNat, Int.reduceNeg, Nat.reduceSub, Int.reduceBNe, Int.reduceBEq, Int.reduceTDiv, Int.reduceTMod, Int.reduceMul]))))
      rw [hOp]; rfl
    (have := Nonempty.intro hs)
    have c2 := fun m => take_f b a 2 m hb (by omega)
    rw [show tkV b a 2 = (numU ((b.drop a).take 2) : Nat) from num2_w _] at c2
    have hM := num2_lt (b.drop a)
    rw [List.drop_drop] at hcut hnext
    generalize hMM : numU ((b.drop a).take 2) = M at *
    have hX : (b.drop (a + 2)).length = b.length - (a + 2) := List.length_drop
    by_cases hc : (b.length : Int) < (a : Int) + 2 + 8 * (2 * (M : Int))
    · (have := Nonempty.intro hc)
      have hpn := pI_end (hcut (by omega)) (by omega : i + 1 ≤ N)
      rw [show decT b (pI (b.drop 5) N) = ([], 8) by rw [hpn]; rfl]
      (repeat' (first | refine swp_seq [0, 2, 3, 4, 5, 6, 7, 8, 9, 12, 33, 36, 43, 50, 63, 66, 87, 92, 100, 104] ?_ | refine st1 ?_ | (show CallQ ..; first | refine cF ?_ | refine cQ (fun hcc => (by first | exact c2 _)) ?_ | (refine lP ?_; refine lQ (fun hcc m => (by first | exact c2 _)) ?_)) | (show Fct ..; refine fctI (fun hf => ?_)) | (show XCallQ ..; first | refine xcF ?_ | refine xQ (fun hcc => (by first | exact c2 _)) ?_ | (refine xlP ?_; refine xlQ (fun hcc m => (by first | exact c2 _)) ?_)) | (show SWp _ _ _ (.region _ _ true) _ _ _ _; refine xG mixed [] ?_) | (show SWp _ _ _ (.cond _ _ _) _ _ _ _; first | (refine cB (fun hc => ?_) (fun hc => ?_) <;> first | exact False.elim hc | exact absurd hc Bool.false_ne_true | exact absurd hc.symm Bool.false_ne_true | skip) | refine cU ?_ ?_)))
      (((simp only [push_cast, reduceIte, reduceDIte, reduceCtorEq, Nat.reduceLT, Nat.reduceLeDiff, Nat.reduceEqDiff, Nat.reduceAdd, Nat.reduceMul, Nat.reduceBEq, Nat.reducePow, Int.zero_add, Int.reduceAdd, Int.reduceSub, Int.reduceLT, Int.reduceLE, Int.reduceToNat, Int.reduceNeg, Nat.reduceSub, Int.reduceBNe, Int.reduceBEq, Int.reduceTDiv, Int.reduceTMod, Int.reduceMul]); repeat (simp (disch := omega) only [idx_nat, idx_mapT, i64w, rows_getS, rows_get, getD_set_self, famR_get]; try (simp only [push_cast, reduceIte, reduceDIte, reduceCtorEq, Nat.reduceLT, Nat.reduceLeDiff, Nat.reduceEqDiff, Nat.reduceAdd, Nat.reduceMul, Nat.reduceBEq, Nat.reducePow, Int.zero_add, Int.reduceAdd, Int.reduceSub, Int.reduceLT, Int.reduceLE, Int.reduceToNat, Int.reduceNeg, Nat.reduceSub, Int.reduceBNe, Int.reduceBEq, Int.reduceTDiv, Int.reduceTMod, Int.reduceMul]))))
      rw [hOp]; rfl
    (have := Nonempty.intro hc)
    have hpn := hnext (by omega) (by omega)
    rw [List.drop_drop] at hpn
    (repeat' (first | refine swp_seq [0, 2, 3, 4, 5, 6, 7, 8, 9, 12, 33, 36, 43, 50, 63, 66, 87, 92, 100, 104] ?_ | refine st1 ?_ | (show CallQ ..; first | refine cF ?_ | refine cQ (fun hcc => (by first | exact c2 _)) ?_ | (refine lP ?_; refine lQ (fun hcc m => (by first | exact c2 _)) ?_)) | (show Fct ..; refine fctI (fun hf => ?_)) | (show XCallQ ..; first | refine xcF ?_ | refine xQ (fun hcc => (by first | exact c2 _)) ?_ | (refine xlP ?_; refine xlQ (fun hcc m => (by first | exact c2 _)) ?_)) | (show SWp _ _ _ (.region _ _ true) _ _ _ _; refine xG mixed [] ?_) | (show SWp _ _ _ (.cond _ _ _) _ _ _ _; first | (refine cB (fun hc => ?_) (fun hc => ?_) <;> first | exact False.elim hc | exact absurd hc Bool.false_ne_true | exact absurd hc.symm Bool.false_ne_true | skip) | refine cU ?_ ?_)))
    refine loop_swp [0, 4, 5, 6, 7, 8] [248, 32] 249 (fun q A H => ∃ j d : Nat, j ≤ 2 * M ∧ d = a + 2 + 8 * j ∧ q = 2 * M - j ∧ ((j = 0 ∧ H = [(248, .lst 22 1 O)]) ∨ (1 ≤ j ∧ H = [(248, .lst 22 1 (O.set i [.gl 32])), (32, inLt (rowN (b.drop (a + 2)) j))])) ∧ A = [(0, bys b), (4, .gl 248), (5, li d), (6, li i), (7, li (2 * (M : Int))), (8, li j)]) (by omega) ?_ ?_ ?_
    · rintro q A H ⟨j, d, k1, k2, k3, k4, rfl⟩
      rcases k4 with ⟨_, rfl⟩ | ⟨_, rfl⟩
      · exact ⟨by (exact SD), ⟨by omega, hOu _, trivial⟩⟩
      · exact ⟨by (exact SD), ⟨by omega, O_set_uses (hOu _) (by omega), by (exact SD)⟩⟩
    · refine ⟨_, 0, a + 2, by omega, rfl, rfl, .inl ⟨rfl, ?_⟩, ?_⟩
      · (((simp only [push_cast, reduceIte, reduceDIte, reduceCtorEq, Nat.reduceLT, Nat.reduceLeDiff, Nat.reduceEqDiff, Nat.reduceAdd, Nat.reduceMul, Nat.reduceBEq, Nat.reducePow, Int.zero_add, Int.reduceAdd, Int.reduceSub, Int.reduceLT, Int.reduceLE, Int.reduceToNat, Int.reduceNeg, Nat.reduceSub, Int.reduceBNe, Int.reduceBEq, Int.reduceTDiv, Int.reduceTMod, Int.reduceMul]); repeat (simp (disch := omega) only [idx_nat, idx_mapT, i64w, rows_getS, rows_get, getD_set_self, famR_get]; try (simp only [push_cast, reduceIte, reduceDIte, reduceCtorEq, Nat.reduceLT, Nat.reduceLeDiff, Nat.reduceEqDiff, Nat.reduceAdd, Nat.reduceMul, Nat.reduceBEq, Nat.reducePow, Int.zero_add, Int.reduceAdd, Int.reduceSub, Int.reduceLT, Int.reduceLE, Int.reduceToNat, Int.reduceNeg, Nat.reduceSub, Int.reduceBNe, Int.reduceBEq, Int.reduceTDiv, Int.reduceTMod, Int.reduceMul])))) <;> rfl
      · (((simp only [push_cast, reduceIte, reduceDIte, reduceCtorEq, Nat.reduceLT, Nat.reduceLeDiff, Nat.reduceEqDiff, Nat.reduceAdd, Nat.reduceMul, Nat.reduceBEq, Nat.reducePow, Int.zero_add, Int.reduceAdd, Int.reduceSub, Int.reduceLT, Int.reduceLE, Int.reduceToNat, Int.reduceNeg, Nat.reduceSub, Int.reduceBNe, Int.reduceBEq, Int.reduceTDiv, Int.reduceTMod, Int.reduceMul]); repeat (simp (disch := omega) only [idx_nat, idx_mapT, i64w, rows_getS, rows_get, getD_set_self, famR_get]; try (simp only [push_cast, reduceIte, reduceDIte, reduceCtorEq, Nat.reduceLT, Nat.reduceLeDiff, Nat.reduceEqDiff, Nat.reduceAdd, Nat.reduceMul, Nat.reduceBEq, Nat.reducePow, Int.zero_add, Int.reduceAdd, Int.reduceSub, Int.reduceLT, Int.reduceLE, Int.reduceToNat, Int.reduceNeg, Nat.reduceSub, Int.reduceBNe, Int.reduceBEq, Int.reduceTDiv, Int.reduceTMod, Int.reduceMul])))) <;> rfl
    rintro q A H ⟨j, d, k1, k2, k3, k4, rfl⟩
    have hrl := rowN_len (b.drop (a + 2)) j
    by_cases hj : j < 2 * M
    · have hj3 : (j : Int) < 2 * (M : Int) := by omega
      (have := Nonempty.intro hj3)
      have c8 := fun m => take_f b d 8 m hb (by omega)
      rw [show tkV b d 8 = tkV (b.drop (a + 2)) (8 * j) 8 by unfold tkV; rw [List.drop_drop, k2]] at c8
      have hrn := rowN_next (b.drop (a + 2)) j
      generalize tkV (b.drop (a + 2)) (8 * j) 8 = V at *
      rcases k4 with ⟨h0, rfl⟩ | ⟨h0, rfl⟩
      · rw [show rowN (b.drop (a + 2)) j = [] by rw [h0]; rfl] at hrn
        (repeat' (first | refine swp_seq [0, 2, 3, 4, 5, 6, 7, 8, 9, 12, 33, 36, 43, 50, 63, 66, 87, 92, 100, 104] ?_ | refine st1 ?_ | (show CallQ ..; first | refine cF ?_ | refine cQ (fun hcc => (by first | exact c8 _)) ?_ | (refine lP ?_; refine lQ (fun hcc m => (by first | exact c8 _)) ?_)) | (show Fct ..; refine fctI (fun hf => ?_)) | (show XCallQ ..; first | refine xcF ?_ | refine xQ (fun hcc => (by first | exact c8 _)) ?_ | (refine xlP ?_; refine xlQ (fun hcc m => (by first | exact c8 _)) ?_)) | (show SWp _ _ _ (.region _ _ true) _ _ _ _; refine xG mixed [248, 1000008] ?_) | (show SWp _ _ _ (.cond _ _ _) _ _ _ _; first | (refine cB (fun hc => ?_) (fun hc => ?_) <;> first | exact False.elim hc | exact absurd hc Bool.false_ne_true | exact absurd hc.symm Bool.false_ne_true | skip) | refine cU ?_ ?_)))
        refine lR (H3 := [(248, .lst 22 1 (O.set i [.gl 32])), (32, inLt [V])]) 353 32 [248, 353] ?qa (hH1 := ?ua) (eH := ?ea)
        case ea =>
          simp only [hkr, rnm, HV.ren, List.map_set, hOr]
          rfl
        case ua => exact ⟨⟨by omega, by omega⟩, O_set_uses (hOu _) ⟨by omega, by omega⟩, ⟨by omega, by omega⟩, by (exact SD), trivial⟩
        exact ⟨_, by omega, j + 1, d + 8, by omega, by omega, rfl, .inr ⟨by omega, by rw [hrn]; rfl⟩, rfl⟩
      · (repeat' (first | refine swp_seq [0, 2, 3, 4, 5, 6, 7, 8, 9, 12, 33, 36, 43, 50, 63, 66, 87, 92, 100, 104] ?_ | refine st1 ?_ | (show CallQ ..; first | refine cF ?_ | refine cQ (fun hcc => (by first | exact c8 _)) ?_ | (refine lP ?_; refine lQ (fun hcc m => (by first | exact c8 _)) ?_)) | (show Fct ..; refine fctI (fun hf => ?_)) | (show XCallQ ..; first | refine xcF ?_ | refine xQ (fun hcc => (by first | exact c8 _)) ?_ | (refine xlP ?_; refine xlQ (fun hcc m => (by first | exact c8 _)) ?_)) | (show SWp _ _ _ (.region _ _ true) _ _ _ _; refine xG mixed [248, 32, 1000008] ?_) | (show SWp _ _ _ (.cond _ _ _) _ _ _ _; first | (refine cB (fun hc => ?_) (fun hc => ?_) <;> first | exact False.elim hc | exact absurd hc Bool.false_ne_true | exact absurd hc.symm Bool.false_ne_true | skip) | refine cU ?_ ?_)))
        refine lR (H3 := [(248, .lst 22 1 (O.set i [.gl 32])), (32, inLt (rowN (b.drop (a + 2)) j ++ [V]))]) 353 32 [248, 353] ?qb (hH1 := ?ub) (eH := ?eb)
        case eb =>
          simp only [hkr, rnm, HV.ren, List.map_set, hOr, ren_rows]
          rfl
        case ub => exact ⟨⟨by omega, by omega⟩, O_set_uses (hOu _) ⟨by omega, by omega⟩, ⟨by omega, by omega⟩, by (exact SD), trivial⟩
        exact ⟨_, by omega, j + 1, d + 8, by omega, by omega, rfl, .inr ⟨by omega, by rw [hrn]⟩, rfl⟩
    have hj2 : j = 2 * M := by omega
    have hj3 : ¬ ((j : Int) < 2 * (M : Int)) := by omega
    (have := Nonempty.intro hj3)
    rw [← hj2, ← k2] at hpn
    have hk2 : N - (i + 1) = k := by omega
    have hdl : d ≤ b.length := by omega
    rcases k4 with ⟨h0, rfl⟩ | ⟨h0, rfl⟩
    · have hr0 : rowN (b.drop (a + 2)) j = [] := by rw [h0]; rfl
      have e2 : rows ilRow rs ++ [DV.p (.dat 1 [])] :: List.replicate k nilRow = rows ilRow (rs ++ [rowN (b.drop (a + 2)) j]) ++ List.replicate k nilRow := by
        rw [hr0, app_il, List.append_assoc]; rfl
      have e1 : O = rows ilRow rs ++ nilRow :: List.replicate k nilRow := hO.symm
      rw [show ([(248, HV.lst 22 1 O)] : LH) = [(248, HV.lst 22 1 (rows ilRow rs ++ nilRow :: List.replicate k nilRow))] by rw [e1]]
      refine swp_nilrow 248 1 _ (rows ilRow rs) (List.replicate k nilRow) ?_
      rw [e2]
      generalize hO2 : rows ilRow (rs ++ [rowN (b.drop (a + 2)) j]) ++ List.replicate k nilRow = O2 at *
      (repeat' (first | refine swp_seq [0, 2, 3, 4, 5, 6, 7, 8, 9, 12, 33, 36, 43, 50, 63, 66, 87, 92, 100, 104] ?_ | refine st1 ?_ | (show CallQ ..; first | refine cF ?_ | refine cQ (fun hcc => (by fail)) ?_ | (refine lP ?_; refine lQ (fun hcc m => (by fail)) ?_)) | (show Fct ..; refine fctI (fun hf => ?_)) | (show XCallQ ..; first | refine xcF ?_ | refine xQ (fun hcc => (by fail)) ?_ | (refine xlP ?_; refine xlQ (fun hcc m => (by fail)) ?_)) | (show SWp _ _ _ (.region _ _ true) _ _ _ _; refine xG mixed [] ?_) | (show SWp _ _ _ (.cond _ _ _) _ _ _ _; first | (refine cB (fun hc => ?_) (fun hc => ?_) <;> first | exact False.elim hc | exact absurd hc Bool.false_ne_true | exact absurd hc.symm Bool.false_ne_true | skip) | refine cU ?_ ?_)))
      (refine lN [248] ?_)
      exact ⟨_, by omega, i + 1, d, rs ++ [rowN (b.drop (a + 2)) j], by omega, rfl, hpn, hdl, rfl, by rw [hk2, hO2]⟩
    · have heq : hfrzL 32 (.elems 1 ((rowN (b.drop (a + 2)) j).map inRow)) [(248, .lst 22 1 (O.set i [.gl 32])), (32, inLt (rowN (b.drop (a + 2)) j))] = [(248, .lst 22 1 (rows ilRow (rs ++ [rowN (b.drop (a + 2)) j]) ++ List.replicate k nilRow))] := by
        rw [← hOs]
        simp only [hfrzL, HV.frz, List.map_set, hOf]
        rfl
      refine sF 32 ?_ (x := .elems 1 ((rowN (b.drop (a + 2)) j).map inRow)) (eH := heq)
      generalize hO2 : rows ilRow (rs ++ [rowN (b.drop (a + 2)) j]) ++ List.replicate k nilRow = O2 at *
      (repeat' (first | refine swp_seq [0, 2, 3, 4, 5, 6, 7, 8, 9, 12, 33, 36, 43, 50, 63, 66, 87, 92, 100, 104] ?_ | refine st1 ?_ | (show CallQ ..; first | refine cF ?_ | refine cQ (fun hcc => (by fail)) ?_ | (refine lP ?_; refine lQ (fun hcc m => (by fail)) ?_)) | (show Fct ..; refine fctI (fun hf => ?_)) | (show XCallQ ..; first | refine xcF ?_ | refine xQ (fun hcc => (by fail)) ?_ | (refine xlP ?_; refine xlQ (fun hcc m => (by fail)) ?_)) | (show SWp _ _ _ (.region _ _ true) _ _ _ _; refine xG mixed [] ?_) | (show SWp _ _ _ (.cond _ _ _) _ _ _ _; first | (refine cB (fun hc => ?_) (fun hc => ?_) <;> first | exact False.elim hc | exact absurd hc Bool.false_ne_true | exact absurd hc.symm Bool.false_ne_true | skip) | refine cU ?_ ?_)))
      (refine lN [248] ?_)
      exact ⟨_, by omega, i + 1, d, rs ++ [rowN (b.drop (a + 2)) j], by omega, rfl, hpn, hdl, rfl, by rw [hk2, hO2]⟩
  have hi2 : i = N := by omega
  rw [hi2] at g3 hok
  rw [g3, show N - i = 0 by omega, List.replicate_zero, List.append_nil]
  have hrs : rowsOk rs := ⟨by omega, hok.2.1⟩
  have hi3 : ¬ ((i : Int) < (rs.length : Int)) := by omega
  (have := Nonempty.intro hi3)
  obtain ⟨pv, hOp⟩ := O_pv rs 0
  by_cases h4 : (b.length : Int) < (a : Int) + 4
  · (have := Nonempty.intro h4)
    rw [show decT b (some (rs, b.drop a)) = ([], 8) by unfold decT; dsimp only; rw [if_pos (by omega)]]
    (repeat' (first | refine swp_seq [0, 2, 3, 4, 5, 6, 7, 8, 9, 12, 33, 36, 43, 50, 63, 66, 87, 92, 100, 104] ?_ | refine st1 ?_ | (show CallQ ..; first | refine cF ?_ | refine cQ (fun hcc => (by fail)) ?_ | (refine lP ?_; refine lQ (fun hcc m => (by fail)) ?_)) | (show Fct ..; refine fctI (fun hf => ?_)) | (show XCallQ ..; first | refine xcF ?_ | refine xQ (fun hcc => (by fail)) ?_ | (refine xlP ?_; refine xlQ (fun hcc m => (by fail)) ?_)) | (show SWp _ _ _ (.region _ _ true) _ _ _ _; refine xG mixed [] ?_) | (show SWp _ _ _ (.cond _ _ _) _ _ _ _; first | (refine cB (fun hc => ?_) (fun hc => ?_) <;> first | exact False.elim hc | exact absurd hc Bool.false_ne_true | exact absurd hc.symm Bool.false_ne_true | skip) | refine cU ?_ ?_)))
    (((simp only [push_cast, reduceIte, reduceDIte, reduceCtorEq, Nat.reduceLT, Nat.reduceLeDiff, Nat.reduceEqDiff, Nat.reduceAdd, Nat.reduceMul, Nat.reduceBEq, Nat.reducePow, Int.zero_add, Int.reduceAdd, Int.reduceSub, Int.reduceLT, Int.reduceLE, Int.reduceToNat, Int.reduceNeg, Nat.reduceSub, Int.reduceBNe, Int.reduceBEq, Int.reduceTDiv, Int.reduceTMod, Int.reduceMul]); repeat (simp (disch := omega) only [idx_nat, idx_mapT, i64w, rows_getS, rows_get, getD_set_self, famR_get]; try (simp only [push_cast, reduceIte, reduceDIte, reduceCtorEq, Nat.reduceLT, Nat.reduceLeDiff, Nat.reduceEqDiff, Nat.reduceAdd, Nat.reduceMul, Nat.reduceBEq, Nat.reducePow, Int.zero_add, Int.reduceAdd, Int.reduceSub, Int.reduceLT, Int.reduceLE, Int.reduceToNat, Int.reduceNeg, Nat.reduceSub, Int.reduceBNe, Int.reduceBEq, Int.reduceTDiv, Int.reduceTMod, Int.reduceMul])))) <;> rfl
  (have := Nonempty.intro h4)
  by_cases h6 : (a : Int) + 4 < (b.length : Int)
  · (have := Nonempty.intro h6)
    rw [show decT b (some (rs, b.drop a)) = ([], 7) by unfold decT; dsimp only; rw [if_neg (by omega), if_pos (by omega)]]
    (repeat' (first | refine swp_seq [0, 2, 3, 4, 5, 6, 7, 8, 9, 12, 33, 36, 43, 50, 63, 66, 87, 92, 100, 104] ?_ | refine st1 ?_ | (show CallQ ..; first | refine cF ?_ | refine cQ (fun hcc => (by fail)) ?_ | (refine lP ?_; refine lQ (fun hcc m => (by fail)) ?_)) | (show Fct ..; refine fctI (fun hf => ?_)) | (show XCallQ ..; first | refine xcF ?_ | refine xQ (fun hcc => (by fail)) ?_ | (refine xlP ?_; refine xlQ (fun hcc m => (by fail)) ?_)) | (show SWp _ _ _ (.region _ _ true) _ _ _ _; refine xG mixed [] ?_) | (show SWp _ _ _ (.cond _ _ _) _ _ _ _; first | (refine cB (fun hc => ?_) (fun hc => ?_) <;> first | exact False.elim hc | exact absurd hc Bool.false_ne_true | exact absurd hc.symm Bool.false_ne_true | skip) | refine cU ?_ ?_)))
    (((simp only [push_cast, reduceIte, reduceDIte, reduceCtorEq, Nat.reduceLT, Nat.reduceLeDiff, Nat.reduceEqDiff, Nat.reduceAdd, Nat.reduceMul, Nat.reduceBEq, Nat.reducePow, Int.zero_add, Int.reduceAdd, Int.reduceSub, Int.reduceLT, Int.reduceLE, Int.reduceToNat, Int.reduceNeg, Nat.reduceSub, Int.reduceBNe, Int.reduceBEq, Int.reduceTDiv, Int.reduceTMod, Int.reduceMul]); repeat (simp (disch := omega) only [idx_nat, idx_mapT, i64w, rows_getS, rows_get, getD_set_self, famR_get]; try (simp only [push_cast, reduceIte, reduceDIte, reduceCtorEq, Nat.reduceLT, Nat.reduceLeDiff, Nat.reduceEqDiff, Nat.reduceAdd, Nat.reduceMul, Nat.reduceBEq, Nat.reducePow, Int.zero_add, Int.reduceAdd, Int.reduceSub, Int.reduceLT, Int.reduceLE, Int.reduceToNat, Int.reduceNeg, Nat.reduceSub, Int.reduceBNe, Int.reduceBEq, Int.reduceTDiv, Int.reduceTMod, Int.reduceMul])))) <;> rfl
  (have := Nonempty.intro h6)
  have hD : decT b (some (rs, b.drop a)) = if ¬ tkV b a 4 = (sumN (b.take a) : Nat) then ([], 18) else if ¬ rightE rs = 0 then ([], rightE rs) else (rs, 0) := by
    unfold decT tkV; dsimp only; rw [if_neg (by omega), if_neg (by omega), show b.length - (b.drop a).length = a by omega]
  rw [hD]
  have c4 := fun m => take_f b a 4 m hb (by omega)
  have cs := fun m => sum18_f (b.take a) m (by rw [List.length_take]; omega)
  have cr := fun m => rRight_f rs m hrs
  generalize tkV b a 4 = V at *
  generalize ((sumN (b.take a) : Nat) : Int) = SM at *
  by_cases hV : V = SM
  · (have := Nonempty.intro hV)
    rw [if_neg (fun q => q hV)]
    by_cases h0 : rightE rs = 0
    · rw [if_neg (fun q => q h0)]
      simp only [h0] at cr
      (repeat' (first | refine swp_seq [0, 2, 3, 4, 5, 6, 7, 8, 9, 12, 33, 36, 43, 50, 63, 66, 87, 92, 100, 104] ?_ | refine st1 ?_ | (show CallQ ..; first | refine cF ?_ | refine cQ (fun hcc => (by first | exact c4 _ | exact cs _ | exact cr _)) ?_ | (refine lP ?_; refine lQ (fun hcc m => (by first | exact c4 _ | exact cs _ | exact cr _)) ?_)) | (show Fct ..; refine fctI (fun hf => ?_)) | (show XCallQ ..; first | refine xcF ?_ | refine xQ (fun hcc => (by first | exact c4 _ | exact cs _ | exact cr _)) ?_ | (refine xlP ?_; refine xlQ (fun hcc m => (by first | exact c4 _ | exact cs _ | exact cr _)) ?_)) | (show SWp _ _ _ (.region _ _ true) _ _ _ _; refine xG mixed [] ?_) | (show SWp _ _ _ (.cond _ _ _) _ _ _ _; first | (refine cB (fun hc => ?_) (fun hc => ?_) <;> first | exact False.elim hc | exact absurd hc Bool.false_ne_true | exact absurd hc.symm Bool.false_ne_true | skip) | refine cU ?_ ?_)))
      (((simp only [push_cast, reduceIte, reduceDIte, reduceCtorEq, Nat.reduceLT, Nat.reduceLeDiff, Nat.reduceEqDiff, Nat.reduceAdd, Nat.reduceMul, Nat.reduceBEq, Nat.reducePow, Int.zero_add, Int.reduceAdd, Int.reduceSub, Int.reduceLT, Int.reduceLE, Int.reduceToNat, Int.reduceNeg, Nat.reduceSub, Int.reduceBNe, Int.reduceBEq, Int.reduceTDiv, Int.reduceTMod, Int.reduceMul]); repeat (simp (disch := omega) only [idx_nat, idx_mapT, i64w, rows_getS, rows_get, getD_set_self, famR_get]; try (simp only [push_cast, reduceIte, reduceDIte, reduceCtorEq, Nat.reduceLT, Nat.reduceLeDiff, Nat.reduceEqDiff, Nat.reduceAdd, Nat.reduceMul, Nat.reduceBEq, Nat.reducePow, Int.zero_add, Int.reduceAdd, Int.reduceSub, Int.reduceLT, Int.reduceLE, Int.reduceToNat, Int.reduceNeg, Nat.reduceSub, Int.reduceBNe, Int.reduceBEq, Int.reduceTDiv, Int.reduceTMod, Int.reduceMul])))) <;> rfl
    · rw [if_pos h0]
      generalize rightE rs = E at *
      (have := Nonempty.intro h0)
      (repeat' (first | refine swp_seq [0, 2, 3, 4, 5, 6, 7, 8, 9, 12, 33, 36, 43, 50, 63, 66, 87, 92, 100, 104] ?_ | refine st1 ?_ | (show CallQ ..; first | refine cF ?_ | refine cQ (fun hcc => (by first | exact c4 _ | exact cs _ | exact cr _)) ?_ | (refine lP ?_; refine lQ (fun hcc m => (by first | exact c4 _ | exact cs _ | exact cr _)) ?_)) | (show Fct ..; refine fctI (fun hf => ?_)) | (show XCallQ ..; first | refine xcF ?_ | refine xQ (fun hcc => (by first | exact c4 _ | exact cs _ | exact cr _)) ?_ | (refine xlP ?_; refine xlQ (fun hcc m => (by first | exact c4 _ | exact cs _ | exact cr _)) ?_)) | (show SWp _ _ _ (.region _ _ true) _ _ _ _; refine xG mixed [] ?_) | (show SWp _ _ _ (.cond _ _ _) _ _ _ _; first | (refine cB (fun hc => ?_) (fun hc => ?_) <;> first | exact False.elim hc | exact absurd hc Bool.false_ne_true | exact absurd hc.symm Bool.false_ne_true | skip) | refine cU ?_ ?_)))
      (((simp only [push_cast, reduceIte, reduceDIte, reduceCtorEq, Nat.reduceLT, Nat.reduceLeDiff, Nat.reduceEqDiff, Nat.reduceAdd, Nat.reduceMul, Nat.reduceBEq, Nat.reducePow, Int.zero_add, Int.reduceAdd, Int.reduceSub, Int.reduceLT, Int.reduceLE, Int.reduceToNat, Int.reduceNeg, Nat.reduceSub, Int.reduceBNe, Int.reduceBEq, Int.reduceTDiv, Int.reduceTMod, Int.reduceMul]); repeat (simp (disch := omega) only [idx_nat, idx_mapT, i64w, rows_getS, rows_get, getD_set_self, famR_get]; try (simp only [push_cast, reduceIte, reduceDIte, reduceCtorEq, Nat.reduceLT, Nat.reduceLeDiff, Nat.reduceEqDiff, Nat.reduceAdd, Nat.reduceMul, Nat.reduceBEq, Nat.reducePow, Int.zero_add, Int.reduceAdd, Int.reduceSub, Int.reduceLT, Int.reduceLE, Int.reduceToNat, Int.reduceNeg, Nat.reduceSub, Int.reduceBNe, Int.reduceBEq, Int.reduceTDiv, Int.reduceTMod, Int.reduceMul])))) <;> rfl
  · (have := Nonempty.intro hV)
    rw [if_pos hV]
    (repeat' (first | refine swp_seq [0, 2, 3, 4, 5, 6, 7, 8, 9, 12, 33, 36, 43, 50, 63, 66, 87, 92, 100, 104] ?_ | refine st1 ?_ | (show CallQ ..; first | refine cF ?_ | refine cQ (fun hcc => (by first | exact c4 _ | exact cs _)) ?_ | (refine lP ?_; refine lQ (fun hcc m => (by first | exact c4 _ | exact cs _)) ?_)) | (show Fct ..; refine fctI (fun hf => ?_)) | (show XCallQ ..; first | refine xcF ?_ | refine xQ (fun hcc => (by first | exact c4 _ | exact cs _)) ?_ | (refine xlP ?_; refine xlQ (fun hcc m => (by first | exact c4 _ | exact cs _)) ?_)) | (show SWp _ _ _ (.region _ _ true) _ _ _ _; refine xG mixed [] ?_) | (show SWp _ _ _ (.cond _ _ _) _ _ _ _; first | (refine cB (fun hc => ?_) (fun hc => ?_) <;> first | exact False.elim hc | exact absurd hc Bool.false_ne_true | exact absurd hc.symm Bool.false_ne_true | skip) | refine cU ?_ ?_)))
    (((simp only [push_cast, reduceIte, reduceDIte, reduceCtorEq, Nat.reduceLT, Nat.reduceLeDiff, Nat.reduceEqDiff, Nat.reduceAdd, Nat.reduceMul, Nat.reduceBEq, Nat.reducePow, Int.zero_add, Int.reduceAdd, Int.reduceSub, Int.reduceLT, Int.reduceLE, Int.reduceToNat, Int.reduceNeg, Nat.reduceSub, Int.reduceBNe, Int.reduceBEq, Int.reduceTDiv, Int.reduceTMod, Int.reduceMul]); repeat (simp (disch := omega) only [idx_nat, idx_mapT, i64w, rows_getS, rows_get, getD_set_self, famR_get]; try (simp only [push_cast, reduceIte, reduceDIte, reduceCtorEq, Nat.reduceLT, Nat.reduceLeDiff, Nat.reduceEqDiff, Nat.reduceAdd, Nat.reduceMul, Nat.reduceBEq, Nat.reducePow, Int.zero_add, Int.reduceAdd, Int.reduceSub, Int.reduceLT, Int.reduceLE, Int.reduceToNat, Int.reduceNeg, Nat.reduceSub, Int.reduceBNe, Int.reduceBEq, Int.reduceTDiv, Int.reduceTMod, Int.reduceMul])))) <;> rfl

end Go.Proofs.Ytagalkckebffhaa
