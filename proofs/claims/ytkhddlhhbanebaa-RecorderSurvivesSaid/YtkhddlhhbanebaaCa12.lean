/-
  Contracts of functions of the program, over the engine.
  No condition.
-/
import Derived.Test.YtkhddlhhbanebaaCa11
namespace Go.Proofs.Ytkhddlhhbanebaa
open Go.Eng
set_option linter.all false
theorem ren_app (o n : Nat) (a b : List (List DV)) : (a ++ b).map (DV.renL o n) = a.map (DV.renL o n) ++ b.map (DV.renL o n) := List.map_append
theorem ren_cons (o n : Nat) (x : List DV) (b : List (List DV)) : (x :: b).map (DV.renL o n) = DV.renL o n x :: b.map (DV.renL o n) := rfl
theorem ren_nil (o n : Nat) : ([] : List (List DV)).map (DV.renL o n) = [] := rfl
attribute [push_cast] ren_app ren_cons ren_nil
theorem rdOk (l : List UInt8) (p : Nat) (h : p + 4 ≤ l.length) : tkE (l.drop p) false 4 = false ∧ nuV (l.drop p) false 4 = nAt l p ∧ tkL (l.drop p) false 4 = l.drop (p + 4) := by
  have h1 : tkE (l.drop p) false 4 = false := by unfold tkE; simp; omega
  refine ⟨h1, ?_, ?_⟩
  · unfold nuV tkV
    rw [h1]
    have := nAt_lt l p
    exact i64w (by unfold nAt at this; simp; omega)
  · unfold tkL; rw [h1]; simp [List.drop_drop]
theorem rdNo (l : List UInt8) (p : Nat) (h : ¬ p + 4 ≤ l.length) : tkE (l.drop p) false 4 = true ∧ nuV (l.drop p) false 4 = 0 := by
  have h1 : tkE (l.drop p) false 4 = true := by unfold tkE; simp; omega
  refine ⟨h1, ?_⟩
  unfold nuV tkV
  rw [h1]; rfl
theorem tkOkN (l : List UInt8) (p n : Nat) (h : p + n ≤ l.length) : tkE (l.drop p) false n = false ∧ tkV (l.drop p) false n = (l.drop p).take n ∧ tkL (l.drop p) false n = l.drop (p + n) := by
  have h1 : tkE (l.drop p) false n = false := by unfold tkE; simp; omega
  refine ⟨h1, ?_, ?_⟩
  · unfold tkV; rw [h1]; simp
  · unfold tkL; rw [h1]; simp [List.drop_drop]
theorem tkNoN (l : List UInt8) (p n : Nat) (h : ¬ p + n ≤ l.length) (hp : p ≤ l.length) : tkE (l.drop p) false n = true ∧ tkV (l.drop p) false n = [] ∧ tkL (l.drop p) false n = l.drop p := by
  have h1 : tkE (l.drop p) false n = true := by unfold tkE; simp; omega
  refine ⟨h1, ?_, ?_⟩
  · unfold tkV; rw [h1]; simp
  · unfold tkL; rw [h1]; simp
theorem rdEnd (l : List UInt8) (n : Nat) : tkE l true n = true ∧ nuV l true n = 0 ∧ tkL l true n = l := by
  have h1 : tkE l true n = true := rfl
  refine ⟨h1, ?_, ?_⟩
  · unfold nuV tkV; rw [h1]; rfl
  · unfold tkL; rw [h1]; rfl
def bodF : Nat → List UInt8 → Nat → List (List UInt8)
  | 0, _, _ => []
  | k + 1, l, p => if okF l p = true then (l.drop (p + 4)).take (nAt l p) :: bodF k l (p + nAt l p + 8) else []
theorem bodF_more (l : List UInt8) : ∀ (k p : Nat), l.length + 1 - p ≤ k → p ≤ l.length → bodF (k + 1) l p = bodF k l p := by
  intro k
  induction k with
  | zero => intro p h1 h2; omega
  | succ k ih =>
    intro p h1 h2
    have ea : bodF (k + 1 + 1) l p = if okF l p = true then (l.drop (p + 4)).take (nAt l p) :: bodF (k + 1) l (p + nAt l p + 8) else [] := rfl
    have eb : bodF (k + 1) l p = if okF l p = true then (l.drop (p + 4)).take (nAt l p) :: bodF k l (p + nAt l p + 8) else [] := rfl
    rw [ea, eb]
    by_cases hk : okF l p = true
    · rw [if_pos hk, if_pos hk]
      have h3 : p + nAt l p + 8 ≤ l.length := by unfold okF at hk; grind
      rw [ih (p + nAt l p + 8) (by omega) h3]
    · rw [if_neg hk, if_neg hk]
def bods (l : List UInt8) : List (List UInt8) := bodF (l.length + 1) l 0
def bodAt (l : List UInt8) (p : Nat) : List (List UInt8) := bodF (l.length + 1) l p
theorem bodAt_step (l : List UInt8) (p : Nat) (hp : p ≤ l.length) (hk : okF l p = true) : bodAt l p = (l.drop (p + 4)).take (nAt l p) :: bodAt l (p + nAt l p + 8) := by
  have h3 : p + nAt l p + 8 ≤ l.length := by unfold okF at hk; grind
  unfold bodAt
  rw [bodF, if_pos hk, ← bodF_more l l.length _ (by omega) h3]
theorem bodAt_stop (l : List UInt8) (p : Nat) (hk : ¬ okF l p = true) : bodAt l p = [] := by
  unfold bodAt; rw [bodF, if_neg hk]
def bsRow (b : List UInt8) : List PV := [.dat 1 (b.map byRow)]
attribute [push_cast] bsRow
abbrev bss (l : List (List UInt8)) : DV := .p (.dat 1 (l.map bsRow))
set_option maxHeartbeats 4000000 in
theorem frames_f (l : List UInt8) (m : Nat) (hl : l.length ≤ 1048576) : DCalls Try.prog 52 [bys l] (hget []) m (.tup [bss (bods l), ints (ends l)]) (hget []) := by
  refine pureC (n := 76) (rs := [.tmp 2, .tmp 3]) (ts := [82, 22]) Try.func52 rfl (by decide) [48, 56] (by (exact SD)) ?_
  (repeat' (first | refine swp_seq [0, 2, 3, 4, 5, 6, 7, 8, 9, 30, 58] ?_ | (first | refine rF (fun hf => ?_) | refine tN ?_ | refine swp_skip ?_ | refine swp_ret ?_ | refine swp_exit ?_ | refine swp_block ?_ | refine swp_scope ?_ | refine thenK_ret ?_ | refine thenK_exit ?_ | refine blockK_normal ?_ | refine blockK_ret ?_ | refine blockK_here ?_ | refine bX ?_ | refine scopeK_normal ?_ | refine scopeK_ret ?_ | refine scopeK_exit ?_ | refine loopK_ret ?_ | refine loopK_exit ?_ | refine dF mixed ?_ | (refine cB (fun hc => ?_) (fun hc => ?_) <;> first | exact False.elim hc | exact absurd hc Bool.false_ne_true | exact absurd hc.symm Bool.false_ne_true | skip) | refine cU ?_ ?_)))
  (refine sN 2 27 1 ?_)
  (refine sN 3 3 1 ?_)
  refine loop_swp [0, 2, 3, 4] [32, 48, 56] 64 (fun k A H => ∃ (q : List (List UInt8)) (e : List Int) (p : Nat), p ≤ l.length ∧ k = l.length - p ∧ 8 * e.length ≤ p ∧ q.length = e.length ∧ q ++ bodAt l p = bods l ∧ e ++ endsAt l p = ends l ∧ A = [(0, bys l), (2, .gl 48), (3, .gl 56), (4, .ptr 32 0)] ∧ H = [(32, rd (l.drop p) false), (48, .lst 27 1 (rows bsRow q)), (56, inL e)]) (by omega) ?_ ?_ ?_
  · rintro k A H ⟨q, e, p, h1, h2, h3, h4, h5, h6, rfl, rfl⟩
    exact ⟨by (exact SD), by simp only [rd]; (exact SD)⟩
  · refine ⟨_, [], [], 0, by omega, rfl, by simp, rfl, rfl, rfl, ?_, ?_⟩
    · (((simp only [push_cast, reduceIte, reduceDIte, reduceCtorEq, Nat.reduceLT, Nat.reduceLeDiff, Nat.reduceEqDiff, Nat.reduceAdd, Nat.reduceMul, Nat.reduceBEq, Nat.reducePow, Int.zero_add, Int.reduceAdd, Int.reduceSub, Int.reduceLT, Int.reduceLE, Int.reduceToNat, Int.reduceNeg, Nat.reduceSub]); repeat (simp (disch := omega) only [idx_map, idx_nat, i64w]; try (simp only [push_cast, reduceIte, reduceDIte, reduceCtorEq, Nat.reduceLT, Nat.reduceLeDiff, Nat.reduceEqDiff, Nat.reduceAdd, Nat.reduceMul, Nat.reduceBEq, Nat.reducePow, Int.zero_add, Int.reduceAdd, Int.reduceSub, Int.reduceLT, Int.reduceLE, Int.reduceToNat, Int.reduceNeg, Nat.reduceSub]))))
    · (((simp only [push_cast, reduceIte, reduceDIte, reduceCtorEq, Nat.reduceLT, Nat.reduceLeDiff, Nat.reduceEqDiff, Nat.reduceAdd, Nat.reduceMul, Nat.reduceBEq, Nat.reducePow, Int.zero_add, Int.reduceAdd, Int.reduceSub, Int.reduceLT, Int.reduceLE, Int.reduceToNat, Int.reduceNeg, Nat.reduceSub]); repeat (simp (disch := omega) only [idx_map, idx_nat, i64w]; try (simp only [push_cast, reduceIte, reduceDIte, reduceCtorEq, Nat.reduceLT, Nat.reduceLeDiff, Nat.reduceEqDiff, Nat.reduceAdd, Nat.reduceMul, Nat.reduceBEq, Nat.reducePow, Int.zero_add, Int.reduceAdd, Int.reduceSub, Int.reduceLT, Int.reduceLE, Int.reduceToNat, Int.reduceNeg, Nat.reduceSub])))); rfl
  · rintro k A H ⟨q, e, p, h1, h2, h3, h4, h5, h6, rfl, rfl⟩
    have hn := nAt_lt l p
    have hd : (l.drop p).length ≤ l.length := by simp
    have e5 : (l.length : Int) - ((l.drop p).length : Int) = p := by simp; omega
    have stop : ¬ okF l p = true → q = bods l ∧ e = ends l := fun hk => by
      rw [bodAt_stop l p hk, List.append_nil] at h5
      rw [endsAt_stop l p hk, List.append_nil] at h6
      exact ⟨h5, h6⟩
    simp only [rd]
    (repeat' (first | refine swp_seq [0, 2, 3, 4, 5, 6, 7, 8, 9, 30, 58] ?_ | (first | refine rF (fun hf => ?_) | refine tN ?_ | refine swp_skip ?_ | refine swp_ret ?_ | refine swp_exit ?_ | refine swp_block ?_ | refine swp_scope ?_ | refine thenK_ret ?_ | refine thenK_exit ?_ | refine blockK_normal ?_ | refine blockK_ret ?_ | refine blockK_here ?_ | refine bX ?_ | refine scopeK_normal ?_ | refine scopeK_ret ?_ | refine scopeK_exit ?_ | refine loopK_ret ?_ | refine loopK_exit ?_ | refine dF mixed ?_ | (refine cB (fun hc => ?_) (fun hc => ?_) <;> first | exact False.elim hc | exact absurd hc Bool.false_ne_true | exact absurd hc.symm Bool.false_ne_true | skip) | refine cU ?_ ?_)))
    rw [e5]
    (refine rC (fun hf => ?_))
    (refine cT [32] (number_f (l.drop p) false 4 1 (by omega)) (fun hf => ?_))
    (refine drun_end ?_)
    by_cases g4 : p + 4 ≤ l.length
    · obtain ⟨r1, r2, r3⟩ := rdOk l p g4
      rw [r1, r2, r3]
      simp only [rd]
      (repeat' (first | refine swp_seq [0, 2, 3, 4, 5, 6, 7, 8, 9, 30, 58] ?_ | (first | refine rF (fun hf => ?_) | refine tN ?_ | refine swp_skip ?_ | refine swp_ret ?_ | refine swp_exit ?_ | refine swp_block ?_ | refine swp_scope ?_ | refine thenK_ret ?_ | refine thenK_exit ?_ | refine blockK_normal ?_ | refine blockK_ret ?_ | refine blockK_here ?_ | refine bX ?_ | refine scopeK_normal ?_ | refine scopeK_ret ?_ | refine scopeK_exit ?_ | refine loopK_ret ?_ | refine loopK_exit ?_ | refine dF mixed ?_ | (refine cB (fun hc => ?_) (fun hc => ?_) <;> first | exact False.elim hc | exact absurd hc Bool.false_ne_true | exact absurd hc.symm Bool.false_ne_true | skip) | refine cU ?_ ?_)))
      · obtain ⟨rfl, rfl⟩ := stop (by unfold okF; grind)
        (((simp only [push_cast, reduceIte, reduceDIte, reduceCtorEq, Nat.reduceLT, Nat.reduceLeDiff, Nat.reduceEqDiff, Nat.reduceAdd, Nat.reduceMul, Nat.reduceBEq, Nat.reducePow, Int.zero_add, Int.reduceAdd, Int.reduceSub, Int.reduceLT, Int.reduceLE, Int.reduceToNat, Int.reduceNeg, Nat.reduceSub]); repeat (simp (disch := omega) only [idx_map, idx_nat, i64w]; try (simp only [push_cast, reduceIte, reduceDIte, reduceCtorEq, Nat.reduceLT, Nat.reduceLeDiff, Nat.reduceEqDiff, Nat.reduceAdd, Nat.reduceMul, Nat.reduceBEq, Nat.reducePow, Int.zero_add, Int.reduceAdd, Int.reduceSub, Int.reduceLT, Int.reduceLE, Int.reduceToNat, Int.reduceNeg, Nat.reduceSub]))))
      · (refine rC (fun hf => ?_))
        (refine cT [32] (take_f (l.drop (p + 4)) false (nAt l p) 1 (by omega)) (fun hf => ?_))
        (refine drun_end ?_)
        by_cases gn : p + 4 + nAt l p ≤ l.length
        · obtain ⟨s1, s2, s3⟩ := tkOkN l (p + 4) (nAt l p) gn
          rw [s1, s2, s3]
          simp only [rd]
          (repeat' (first | refine swp_seq [0, 2, 3, 4, 5, 6, 7, 8, 9, 30, 58] ?_ | (first | refine rF (fun hf => ?_) | refine tN ?_ | refine swp_skip ?_ | refine swp_ret ?_ | refine swp_exit ?_ | refine swp_block ?_ | refine swp_scope ?_ | refine thenK_ret ?_ | refine thenK_exit ?_ | refine blockK_normal ?_ | refine blockK_ret ?_ | refine blockK_here ?_ | refine bX ?_ | refine scopeK_normal ?_ | refine scopeK_ret ?_ | refine scopeK_exit ?_ | refine loopK_ret ?_ | refine loopK_exit ?_ | refine dF mixed ?_ | (refine cB (fun hc => ?_) (fun hc => ?_) <;> first | exact False.elim hc | exact absurd hc Bool.false_ne_true | exact absurd hc.symm Bool.false_ne_true | skip) | refine cU ?_ ?_)))
          obtain ⟨z, hz⟩ : ∃ z, z = p + 4 + nAt l p := ⟨_, rfl⟩
          rw [← hz] at gn
          have e8 : (l.length : Int) - ((l.drop z).length : Int) = z := by simp; omega
          rw [← hz, e8]
          (refine rC (fun hf => ?_))
          (refine cT [32] (number_f (l.drop z) false 4 1 (by omega)) (fun hf => ?_))
          (refine drun_end ?_)
          by_cases g8 : z + 4 ≤ l.length
          · obtain ⟨u1, u2, u3⟩ := rdOk l z g8
            rw [u1, u2, u3]
            simp only [rd]
            (repeat' (first | refine swp_seq [0, 2, 3, 4, 5, 6, 7, 8, 9, 30, 58] ?_ | (first | refine rF (fun hf => ?_) | refine tN ?_ | refine swp_skip ?_ | refine swp_ret ?_ | refine swp_exit ?_ | refine swp_block ?_ | refine swp_scope ?_ | refine thenK_ret ?_ | refine thenK_exit ?_ | refine blockK_normal ?_ | refine blockK_ret ?_ | refine blockK_here ?_ | refine bX ?_ | refine scopeK_normal ?_ | refine scopeK_ret ?_ | refine scopeK_exit ?_ | refine loopK_ret ?_ | refine loopK_exit ?_ | refine dF mixed ?_ | (refine cB (fun hc => ?_) (fun hc => ?_) <;> first | exact False.elim hc | exact absurd hc Bool.false_ne_true | exact absurd hc.symm Bool.false_ne_true | skip) | refine cU ?_ ?_)))
            ((refine rC (fun hf => ?_); refine cA (rsum_f ((l.drop p).take (z - p)) _ (by simp; omega)) (fun hf => ?_); refine drun_end ?_))
            have e9 : z - p = 4 + nAt l p := by omega
            rw [e9]
            (repeat' (first | refine swp_seq [0, 2, 3, 4, 5, 6, 7, 8, 9, 30, 58] ?_ | (first | refine rF (fun hf => ?_) | refine tN ?_ | refine swp_skip ?_ | refine swp_ret ?_ | refine swp_exit ?_ | refine swp_block ?_ | refine swp_scope ?_ | refine thenK_ret ?_ | refine thenK_exit ?_ | refine blockK_normal ?_ | refine blockK_ret ?_ | refine blockK_here ?_ | refine bX ?_ | refine scopeK_normal ?_ | refine scopeK_ret ?_ | refine scopeK_exit ?_ | refine loopK_ret ?_ | refine loopK_exit ?_ | refine dF mixed ?_ | (refine cB (fun hc => ?_) (fun hc => ?_) <;> first | exact False.elim hc | exact absurd hc Bool.false_ne_true | exact absurd hc.symm Bool.false_ne_true | skip) | refine cU ?_ ?_)))
            · obtain ⟨rfl, rfl⟩ := stop (by unfold okF; rw [← hz]; grind)
              (((simp only [push_cast, reduceIte, reduceDIte, reduceCtorEq, Nat.reduceLT, Nat.reduceLeDiff, Nat.reduceEqDiff, Nat.reduceAdd, Nat.reduceMul, Nat.reduceBEq, Nat.reducePow, Int.zero_add, Int.reduceAdd, Int.reduceSub, Int.reduceLT, Int.reduceLE, Int.reduceToNat, Int.reduceNeg, Nat.reduceSub]); repeat (simp (disch := omega) only [idx_map, idx_nat, i64w]; try (simp only [push_cast, reduceIte, reduceDIte, reduceCtorEq, Nat.reduceLT, Nat.reduceLeDiff, Nat.reduceEqDiff, Nat.reduceAdd, Nat.reduceMul, Nat.reduceBEq, Nat.reducePow, Int.zero_add, Int.reduceAdd, Int.reduceSub, Int.reduceLT, Int.reduceLE, Int.reduceToNat, Int.reduceNeg, Nat.reduceSub]))))
            · have hk : okF l p = true := by unfold okF; rw [← hz]; grind
              have e10 : (l.length : Int) - ((l.drop (z + 4)).length : Int) = ((p + nAt l p + 8 : Nat) : Int) := by simp; omega
              (refine xF mixed [48, 56] ?_)
              rw [e10]
              have hb := bodAt_step l p h1 hk
              have he := endsAt_step l p h1 hk
              obtain ⟨p', hp'⟩ : ∃ p', p' = p + nAt l p + 8 := ⟨_, rfl⟩
              have hz4 : z + 4 = p' := by omega
              rw [← hp'] at hb he ⊢
              rw [hz4]
              (first | refine rF (fun hf => ?_) | refine tN ?_ | refine swp_skip ?_ | refine swp_ret ?_ | refine swp_exit ?_ | refine swp_block ?_ | refine swp_scope ?_ | refine thenK_ret ?_ | refine thenK_exit ?_ | refine blockK_normal ?_ | refine blockK_ret ?_ | refine blockK_here ?_ | refine bX ?_ | refine scopeK_normal ?_ | refine scopeK_ret ?_ | refine scopeK_exit ?_ | refine loopK_ret ?_ | refine loopK_exit ?_ | refine dF mixed ?_ | (refine cB (fun hc => ?_) (fun hc => ?_) <;> first | exact False.elim hc | exact absurd hc Bool.false_ne_true | exact absurd hc.symm Bool.false_ne_true | skip) | refine cU ?_ ?_)
              (refine lR2 480 48 568 56 [32, 480, 568] ?_)
              refine ⟨_, by omega, q ++ [(l.drop (p + 4)).take (nAt l p)], e ++ [(p' : Int)], p', by omega, rfl, by simp; omega, by simp [h4], by rw [← h5, hb]; simp, by rw [← h6, he]; simp, rfl, ?_⟩
              simp [rows, bsRow, inRow, lb]
          · obtain ⟨u1, u2⟩ := rdNo l z g8
            rw [u1, u2]
            simp only [rd]
            (repeat' (first | refine swp_seq [0, 2, 3, 4, 5, 6, 7, 8, 9, 30, 58] ?_ | (first | refine rF (fun hf => ?_) | refine tN ?_ | refine swp_skip ?_ | refine swp_ret ?_ | refine swp_exit ?_ | refine swp_block ?_ | refine swp_scope ?_ | refine thenK_ret ?_ | refine thenK_exit ?_ | refine blockK_normal ?_ | refine blockK_ret ?_ | refine blockK_here ?_ | refine bX ?_ | refine scopeK_normal ?_ | refine scopeK_ret ?_ | refine scopeK_exit ?_ | refine loopK_ret ?_ | refine loopK_exit ?_ | refine dF mixed ?_ | (refine cB (fun hc => ?_) (fun hc => ?_) <;> first | exact False.elim hc | exact absurd hc Bool.false_ne_true | exact absurd hc.symm Bool.false_ne_true | skip) | refine cU ?_ ?_)))
            (refine rC (fun hf => ?_))
            (refine cS (li 0) (fun hf => ?_))
            (refine drun_end ?_)
            (repeat' (first | refine swp_seq [0, 2, 3, 4, 5, 6, 7, 8, 9, 30, 58] ?_ | (first | refine rF (fun hf => ?_) | refine tN ?_ | refine swp_skip ?_ | refine swp_ret ?_ | refine swp_exit ?_ | refine swp_block ?_ | refine swp_scope ?_ | refine thenK_ret ?_ | refine thenK_exit ?_ | refine blockK_normal ?_ | refine blockK_ret ?_ | refine blockK_here ?_ | refine bX ?_ | refine scopeK_normal ?_ | refine scopeK_ret ?_ | refine scopeK_exit ?_ | refine loopK_ret ?_ | refine loopK_exit ?_ | refine dF mixed ?_ | (refine cB (fun hc => ?_) (fun hc => ?_) <;> first | exact False.elim hc | exact absurd hc Bool.false_ne_true | exact absurd hc.symm Bool.false_ne_true | skip) | refine cU ?_ ?_)))
            obtain ⟨rfl, rfl⟩ := stop (by unfold okF; grind)
            (((simp only [push_cast, reduceIte, reduceDIte, reduceCtorEq, Nat.reduceLT, Nat.reduceLeDiff, Nat.reduceEqDiff, Nat.reduceAdd, Nat.reduceMul, Nat.reduceBEq, Nat.reducePow, Int.zero_add, Int.reduceAdd, Int.reduceSub, Int.reduceLT, Int.reduceLE, Int.reduceToNat, Int.reduceNeg, Nat.reduceSub]); repeat (simp (disch := omega) only [idx_map, idx_nat, i64w]; try (simp only [push_cast, reduceIte, reduceDIte, reduceCtorEq, Nat.reduceLT, Nat.reduceLeDiff, Nat.reduceEqDiff, Nat.reduceAdd, Nat.reduceMul, Nat.reduceBEq, Nat.reducePow, Int.zero_add, Int.reduceAdd, Int.reduceSub, Int.reduceLT, Int.reduceLE, Int.reduceToNat, Int.reduceNeg, Nat.reduceSub]))))
        · obtain ⟨s1, s2, s3⟩ := tkNoN l (p + 4) (nAt l p) gn (by omega)
          rw [s1, s2, s3]
          simp only [rd]
          (repeat' (first | refine swp_seq [0, 2, 3, 4, 5, 6, 7, 8, 9, 30, 58] ?_ | (first | refine rF (fun hf => ?_) | refine tN ?_ | refine swp_skip ?_ | refine swp_ret ?_ | refine swp_exit ?_ | refine swp_block ?_ | refine swp_scope ?_ | refine thenK_ret ?_ | refine thenK_exit ?_ | refine blockK_normal ?_ | refine blockK_ret ?_ | refine blockK_here ?_ | refine bX ?_ | refine scopeK_normal ?_ | refine scopeK_ret ?_ | refine scopeK_exit ?_ | refine loopK_ret ?_ | refine loopK_exit ?_ | refine dF mixed ?_ | (refine cB (fun hc => ?_) (fun hc => ?_) <;> first | exact False.elim hc | exact absurd hc Bool.false_ne_true | exact absurd hc.symm Bool.false_ne_true | skip) | refine cU ?_ ?_)))
          (refine rC (fun hf => ?_))
          (refine cT [32] (number_f (l.drop (p + 4)) true 4 1 (by omega)) (fun hf => ?_))
          (refine drun_end ?_)
          obtain ⟨u1, u2, u3⟩ := rdEnd (l.drop (p + 4)) 4
          rw [u1, u2, u3]
          simp only [rd]
          (repeat' (first | refine swp_seq [0, 2, 3, 4, 5, 6, 7, 8, 9, 30, 58] ?_ | (first | refine rF (fun hf => ?_) | refine tN ?_ | refine swp_skip ?_ | refine swp_ret ?_ | refine swp_exit ?_ | refine swp_block ?_ | refine swp_scope ?_ | refine thenK_ret ?_ | refine thenK_exit ?_ | refine blockK_normal ?_ | refine blockK_ret ?_ | refine blockK_here ?_ | refine bX ?_ | refine scopeK_normal ?_ | refine scopeK_ret ?_ | refine scopeK_exit ?_ | refine loopK_ret ?_ | refine loopK_exit ?_ | refine dF mixed ?_ | (refine cB (fun hc => ?_) (fun hc => ?_) <;> first | exact False.elim hc | exact absurd hc Bool.false_ne_true | exact absurd hc.symm Bool.false_ne_true | skip) | refine cU ?_ ?_)))
          (refine rC (fun hf => ?_))
          (refine cS (li 0) (fun hf => ?_))
          (refine drun_end ?_)
          (repeat' (first | refine swp_seq [0, 2, 3, 4, 5, 6, 7, 8, 9, 30, 58] ?_ | (first | refine rF (fun hf => ?_) | refine tN ?_ | refine swp_skip ?_ | refine swp_ret ?_ | refine swp_exit ?_ | refine swp_block ?_ | refine swp_scope ?_ | refine thenK_ret ?_ | refine thenK_exit ?_ | refine blockK_normal ?_ | refine blockK_ret ?_ | refine blockK_here ?_ | refine bX ?_ | refine scopeK_normal ?_ | refine scopeK_ret ?_ | refine scopeK_exit ?_ | refine loopK_ret ?_ | refine loopK_exit ?_ | refine dF mixed ?_ | (refine cB (fun hc => ?_) (fun hc => ?_) <;> first | exact False.elim hc | exact absurd hc Bool.false_ne_true | exact absurd hc.symm Bool.false_ne_true | skip) | refine cU ?_ ?_)))
          obtain ⟨rfl, rfl⟩ := stop (by unfold okF; grind)
          (((simp only [push_cast, reduceIte, reduceDIte, reduceCtorEq, Nat.reduceLT, Nat.reduceLeDiff, Nat.reduceEqDiff, Nat.reduceAdd, Nat.reduceMul, Nat.reduceBEq, Nat.reducePow, Int.zero_add, Int.reduceAdd, Int.reduceSub, Int.reduceLT, Int.reduceLE, Int.reduceToNat, Int.reduceNeg, Nat.reduceSub]); repeat (simp (disch := omega) only [idx_map, idx_nat, i64w]; try (simp only [push_cast, reduceIte, reduceDIte, reduceCtorEq, Nat.reduceLT, Nat.reduceLeDiff, Nat.reduceEqDiff, Nat.reduceAdd, Nat.reduceMul, Nat.reduceBEq, Nat.reducePow, Int.zero_add, Int.reduceAdd, Int.reduceSub, Int.reduceLT, Int.reduceLE, Int.reduceToNat, Int.reduceNeg, Nat.reduceSub]))))
    · obtain ⟨r1, r2⟩ := rdNo l p g4
      rw [r1, r2]
      simp only [rd]
      (repeat' (first | refine swp_seq [0, 2, 3, 4, 5, 6, 7, 8, 9, 30, 58] ?_ | (first | refine rF (fun hf => ?_) | refine tN ?_ | refine swp_skip ?_ | refine swp_ret ?_ | refine swp_exit ?_ | refine swp_block ?_ | refine swp_scope ?_ | refine thenK_ret ?_ | refine thenK_exit ?_ | refine blockK_normal ?_ | refine blockK_ret ?_ | refine blockK_here ?_ | refine bX ?_ | refine scopeK_normal ?_ | refine scopeK_ret ?_ | refine scopeK_exit ?_ | refine loopK_ret ?_ | refine loopK_exit ?_ | refine dF mixed ?_ | (refine cB (fun hc => ?_) (fun hc => ?_) <;> first | exact False.elim hc | exact absurd hc Bool.false_ne_true | exact absurd hc.symm Bool.false_ne_true | skip) | refine cU ?_ ?_)))
      obtain ⟨rfl, rfl⟩ := stop (by unfold okF; grind)
      (((simp only [push_cast, reduceIte, reduceDIte, reduceCtorEq, Nat.reduceLT, Nat.reduceLeDiff, Nat.reduceEqDiff, Nat.reduceAdd, Nat.reduceMul, Nat.reduceBEq, Nat.reducePow, Int.zero_add, Int.reduceAdd, Int.reduceSub, Int.reduceLT, Int.reduceLE, Int.reduceToNat, Int.reduceNeg, Nat.reduceSub]); repeat (simp (disch := omega) only [idx_map, idx_nat, i64w]; try (simp only [push_cast, reduceIte, reduceDIte, reduceCtorEq, Nat.reduceLT, Nat.reduceLeDiff, Nat.reduceEqDiff, Nat.reduceAdd, Nat.reduceMul, Nat.reduceBEq, Nat.reducePow, Int.zero_add, Int.reduceAdd, Int.reduceSub, Int.reduceLT, Int.reduceLE, Int.reduceToNat, Int.reduceNeg, Nat.reduceSub]))))

end Go.Proofs.Ytkhddlhhbanebaa
