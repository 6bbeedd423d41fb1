/-
  Contracts of functions of the program, over the engine.
  No condition.
-/
import Derived.Test.YtagalkckebffhaaCR11R12
import Derived.Test.YtagalkckebffhaaCC2C3C24
import Derived.Test.YtagalkckebffhaaCC15C16
namespace Go.Proofs.Ytagalkckebffhaa
open Go.Eng
set_option linter.all false
attribute [local irreducible] DCallsG SWp Fct CallQ XCallQ LCallQ XLCallQ drun xrun

def fewB (p : Plan) : Bool := (decide (p.inf.length ≤ 8) || (decide (200 < p.inf.length) && decide (p.inf.length ≤ 210))) && (decide (p.rel.length ≤ 5) || (decide (20 < p.rel.length) && decide (p.rel.length ≤ 30))) && decide (p.pen.length ≤ 30)
set_option maxHeartbeats 4000000 in
theorem few_f (p : Plan) (m : Nat) (hq : planOk p) : DCalls Try.prog 24 [planD p] (hget []) m (lb (fewB p)) (hget []) := by
  refine pureC (n := 43) (rs := [.tmp 2]) (ts := [4]) Try.func24 rfl (by decide) [] (by (exact SD)) ?_
  (repeat' (first | refine swp_seq [0, 1, 2] ?_ | refine st1 ?_ | (show Fct ..; refine fctI (fun hf => ?_)) | (show SWp _ _ _ (.cond _ _ _) _ _ _ _; first | (refine cB (fun hc => ?_) (fun hc => ?_) <;> first | exact False.elim hc | exact absurd hc Bool.false_ne_true | exact absurd hc.symm Bool.false_ne_true | skip) | refine cU ?_ ?_)))
  (((simp only [push_cast, reduceIte, reduceDIte, reduceCtorEq, Nat.reduceLT, Nat.reduceLeDiff, Nat.reduceEqDiff, Nat.reduceAdd, Nat.reduceMul, Nat.reduceBEq, Nat.reducePow, Int.zero_add, Int.reduceAdd, Int.reduceSub, Int.reduceLT, Int.reduceLE, Int.reduceToNat, Int.reduceNeg, Nat.reduceSub, Int.reduceBNe, Int.reduceBEq, Int.reduceTDiv, Int.reduceTMod, Int.reduceMul]); repeat (simp (disch := omega) only [idx_nat, idx_mapT, i64w, rows_getS, rows_get, getD_set_self, famR_get]; try (simp only [push_cast, reduceIte, reduceDIte, reduceCtorEq, Nat.reduceLT, Nat.reduceLeDiff, Nat.reduceEqDiff, Nat.reduceAdd, Nat.reduceMul, Nat.reduceBEq, Nat.reducePow, Int.zero_add, Int.reduceAdd, Int.reduceSub, Int.reduceLT, Int.reduceLE, Int.reduceToNat, Int.reduceNeg, Nat.reduceSub, Int.reduceBNe, Int.reduceBEq, Int.reduceTDiv, Int.reduceTMod, Int.reduceMul]))))
  refine lbC ?_
  unfold fewB
  grind
set_option maxHeartbeats 4000000 in
theorem rGap_f (p : Plan) (l : List (List Int)) (rs : List Int) (m : Nat) (hq : planOk p) (hl : rowsOk l) (hr : rs.length ≤ 281474976710656) : DCalls Try.prog 26 [planD p, intss l, ints rs] (hget []) m (.tup [li (gapR p l rs).1, li (gapR p l rs).2]) (hget []) := by
  have cb := fun m => rBound_f p l m hq hl
  have cc := fun m hp => rCost_f p rs m hp hr
  have hb := bound_in (p := p) (l := l)
  have hs := cost_sm (p := p) (rs := rs)
  have hbp : (boundR p l).2 = 0 → planB p = true := fun h => by
    unfold boundR at h
    split at h
    · next h0 => exact absurd h h0
    · next h0 => exact (given_in (by simpa using h0)).1
  unfold gapR
  generalize boundR p l = B at *
  generalize costR p rs = C at *
  obtain ⟨b, e⟩ := B
  obtain ⟨c, vs, f⟩ := C
  dsimp only at *
  by_cases he : e = 0
  · subst he
    rw [if_neg (fun k => k rfl)]
    have cc := fun m => cc m (hbp rfl)
    by_cases hf : f = 0
    · subst hf
      rw [if_neg (fun k => k rfl)]
      refine pureC (n := 35) (rs := [.tmp 6, .tmp 7]) (ts := [3, 3]) Try.func26 rfl (by decide) [] (by (exact SD)) ?_
      (repeat' (first | refine swp_seq [0, 1, 2, 3, 6, 7, 8, 9, 10, 12, 20, 30] ?_ | refine st1 ?_ | (show CallQ ..; first | refine cF ?_ | refine cQ (fun hcc => (by first | exact cb _ | exact cc _)) ?_ | (refine lP ?_; refine lQ (fun hcc m => (by first | exact cb _ | exact cc _)) ?_)) | (show Fct ..; refine fctI (fun hf => ?_)) | (show SWp _ _ _ (.cond _ _ _) _ _ _ _; first | (refine cB (fun hc => ?_) (fun hc => ?_) <;> first | exact False.elim hc | exact absurd hc Bool.false_ne_true | exact absurd hc.symm Bool.false_ne_true | skip) | refine cU ?_ ?_)))
      exact DVR
    · rw [if_pos hf]
      (have := Nonempty.intro hf)
      refine pureC (n := 35) (rs := [.tmp 6, .tmp 7]) (ts := [3, 3]) Try.func26 rfl (by decide) [] (by (exact SD)) ?_
      (repeat' (first | refine swp_seq [0, 1, 2, 3, 6, 7, 8, 9, 10, 12, 20, 30] ?_ | refine st1 ?_ | (show CallQ ..; first | refine cF ?_ | refine cQ (fun hcc => (by first | exact cb _ | exact cc _)) ?_ | (refine lP ?_; refine lQ (fun hcc m => (by first | exact cb _ | exact cc _)) ?_)) | (show Fct ..; refine fctI (fun hf => ?_)) | (show SWp _ _ _ (.cond _ _ _) _ _ _ _; first | (refine cB (fun hc => ?_) (fun hc => ?_) <;> first | exact False.elim hc | exact absurd hc Bool.false_ne_true | exact absurd hc.symm Bool.false_ne_true | skip) | refine cU ?_ ?_)))
      exact DVR
  · rw [if_pos he]
    (have := Nonempty.intro he)
    refine pureC (n := 35) (rs := [.tmp 6, .tmp 7]) (ts := [3, 3]) Try.func26 rfl (by decide) [] (by (exact SD)) ?_
    (repeat' (first | refine swp_seq [0, 1, 2, 3, 6, 7, 8, 9, 10, 12, 20, 30] ?_ | refine st1 ?_ | (show CallQ ..; first | refine cF ?_ | refine cQ (fun hcc => (by first | exact cb _)) ?_ | (refine lP ?_; refine lQ (fun hcc m => (by first | exact cb _)) ?_)) | (show Fct ..; refine fctI (fun hf => ?_)) | (show SWp _ _ _ (.cond _ _ _) _ _ _ _; first | (refine cB (fun hc => ?_) (fun hc => ?_) <;> first | exact False.elim hc | exact absurd hc Bool.false_ne_true | exact absurd hc.symm Bool.false_ne_true | skip) | refine cU ?_ ?_)))
    exact DVR
theorem raise_ok {p : Plan} {l : List (List Int)} (hl : rowsOk l) : rowsOk (raiseR p l).1 := by
  have hnil : rowsOk [] := ⟨by simp, by simp⟩
  unfold raiseR
  split
  · exact hnil
  split
  · exact hnil
  next h0 h1 =>
  have h0 : givenE p l = 0 := by simpa using h0
  obtain ⟨hp, hln, hrow⟩ := given_in h0
  have h200 := (planB_in hp).2.2.2.1
  have hall := fun k hk => failK_all (k := k) h1 hk
  have hok := outs_ok h0 hall
  refine ⟨by rw [outsR_len]; omega, ?_⟩
  have key : ∀ d, d ≤ l.length → ∀ r, r ∈ outsR p l d → intsOk r := by
    intro d
    induction d with
    | zero => intro _ r hr; cases hr
    | succ d ih =>
      intro hd r hr
      rw [outsR] at hr
      rcases List.mem_cons.1 hr with rfl | hr
      · have e0 : newRow p l (l.length - 1 - d) (outsR p l d) = (outsR p l (d + 1)).getD 0 default := by rw [outsR]; rfl
        obtain ⟨k1, k2, k3⟩ := hok d (by omega) _ rfl
        rw [← e0] at k1 k2 k3
        obtain ⟨hr1, hr8⟩ := hrow (l.length - 1 - d) (by omega)
        obtain ⟨q1, q2, q3⟩ := rowB_in hr1
        have hin := planB_in hp
        generalize newRow p l (l.length - 1 - d) (outsR p l d) = NR at *
        refine ⟨by omega, fun z hz => ?_⟩
        obtain ⟨a, ha, rfl⟩ := List.mem_iff_getElem.1 hz
        have e : NR.getD a default = NR[a] := by rw [List.getD_eq_getElem?_getD, List.getElem?_eq_getElem ha]; rfl
        rw [← e]
        unfold i64ok
        rcases Nat.mod_two_eq_zero_or_one a with h | h
        · have h2 := k2 (a / 2) (by omega)
          have h3 := (q2 (a / 2) (by omega)).1
          rw [show 2 * (a / 2) = a by omega] at h2 h3
          omega
        · have h3 := k3 (a / 2) (by omega)
          rw [show 2 * (a / 2) + 1 = a by omega] at h3
          omega
      · exact ih (by omega) r hr
  exact key l.length (Nat.le_refl _)
set_option maxRecDepth 20000 in
set_option maxHeartbeats 8000000 in
theorem raises_f (p : Plan) (l : List (List Int)) (rs : List Int) (m : Nat) (hq : planOk p) (hl : rowsOk l) (hr : rs.length ≤ 281474976710656) : DCalls Try.prog 6 [planD p, intss l, ints rs] (hget []) m (lb true) (hget []) := by
  have cw := fun m => few_f p m hq
  cases hfw : fewB p <;> simp only [hfw] at cw
  · refine pureC (n := 74) (rs := [.tmp 6]) (ts := [4]) Try.func6 rfl (by decide) [] (by (exact SD)) ?_
    (repeat' (first | refine swp_seq [0, 1, 2, 3, 6, 7, 8, 9, 10, 11, 12, 13, 14, 16, 29] ?_ | refine st1 ?_ | (show CallQ ..; first | refine cF ?_ | refine cQ (fun hcc => (by first | exact awake_f _ | exact cw _)) ?_ | (refine lP ?_; refine lQ (fun hcc m => (by first | exact awake_f _ | exact cw _)) ?_)) | (show Fct ..; refine fctI (fun hf => ?_)) | (show SWp _ _ _ (.cond _ _ _) _ _ _ _; first | (refine cB (fun hc => ?_) (fun hc => ?_) <;> first | exact False.elim hc | exact absurd hc Bool.false_ne_true | exact absurd hc.symm Bool.false_ne_true | skip) | refine cU ?_ ?_)))
    exact DVR
  have sa := fun m => short_f l m hl
  cases hsa : shortB l <;> simp only [hsa] at sa
  · refine pureC (n := 74) (rs := [.tmp 6]) (ts := [4]) Try.func6 rfl (by decide) [] (by (exact SD)) ?_
    (repeat' (first | refine swp_seq [0, 1, 2, 3, 6, 7, 8, 9, 10, 11, 12, 13, 14, 16, 29] ?_ | refine st1 ?_ | (show CallQ ..; first | refine cF ?_ | refine cQ (fun hcc => (by first | exact awake_f _ | exact cw _ | exact sa _)) ?_ | (refine lP ?_; refine lQ (fun hcc m => (by first | exact awake_f _ | exact cw _ | exact sa _)) ?_)) | (show Fct ..; refine fctI (fun hf => ?_)) | (show SWp _ _ _ (.cond _ _ _) _ _ _ _; first | (refine cB (fun hc => ?_) (fun hc => ?_) <;> first | exact False.elim hc | exact absurd hc Bool.false_ne_true | exact absurd hc.symm Bool.false_ne_true | skip) | refine cU ?_ ?_)))
    exact DVR
  by_cases h20 : (20 : Int) < (rs.length : Int)
  · (have := Nonempty.intro h20)
    refine pureC (n := 74) (rs := [.tmp 6]) (ts := [4]) Try.func6 rfl (by decide) [] (by (exact SD)) ?_
    (repeat' (first | refine swp_seq [0, 1, 2, 3, 6, 7, 8, 9, 10, 11, 12, 13, 14, 16, 29] ?_ | refine st1 ?_ | (show CallQ ..; first | refine cF ?_ | refine cQ (fun hcc => (by first | exact awake_f _ | exact cw _ | exact sa _)) ?_ | (refine lP ?_; refine lQ (fun hcc m => (by first | exact awake_f _ | exact cw _ | exact sa _)) ?_)) | (show Fct ..; refine fctI (fun hf => ?_)) | (show SWp _ _ _ (.cond _ _ _) _ _ _ _; first | (refine cB (fun hc => ?_) (fun hc => ?_) <;> first | exact False.elim hc | exact absurd hc Bool.false_ne_true | exact absurd hc.symm Bool.false_ne_true | skip) | refine cU ?_ ?_)))
    exact DVR
  (have := Nonempty.intro h20)
  have c1 := fun m => gap_f p l rs m hq hl hr
  have c2 := fun m => raise_f p l m hq hl
  have c3 := fun m => rGap_f p l rs m hq hl hr
  have c4 := fun m => rRaise_f p l m hq hl
  have c5 := fun m => same_s (raiseR p l).1 m (raise_ok hl)
  generalize gapR p l rs = G at *
  generalize raiseR p l = R at *
  obtain ⟨g, e⟩ := G
  obtain ⟨r, f⟩ := R
  have hg : g = g := rfl
  have he : e = e := rfl
  have hf : f = f := rfl
  (have := Nonempty.intro hg)
  (have := Nonempty.intro he)
  (have := Nonempty.intro hf)
  refine pureC (n := 74) (rs := [.tmp 6]) (ts := [4]) Try.func6 rfl (by decide) [] (by (exact SD)) ?_
  (repeat' (first | refine swp_seq [0, 1, 2, 3, 6, 7, 8, 9, 10, 11, 12, 13, 14, 16, 29] ?_ | refine st1 ?_ | (show CallQ ..; first | refine cF ?_ | refine cQ (fun hcc => (by first | exact awake_f _ | exact cw _ | exact sa _ | exact c1 _ | exact c2 _ | exact c3 _ | exact c4 _ | exact c5 _)) ?_ | (refine lP ?_; refine lQ (fun hcc m => (by first | exact awake_f _ | exact cw _ | exact sa _ | exact c1 _ | exact c2 _ | exact c3 _ | exact c4 _ | exact c5 _)) ?_)) | (show Fct ..; refine fctI (fun hf => ?_)) | (show SWp _ _ _ (.cond _ _ _) _ _ _ _; first | (refine cB (fun hc => ?_) (fun hc => ?_) <;> first | exact False.elim hc | exact absurd hc Bool.false_ne_true | exact absurd hc.symm Bool.false_ne_true | skip) | refine cU ?_ ?_)))
  exact DVR

end Go.Proofs.Ytagalkckebffhaa
