/-
  Contracts of functions of the program, over the engine.
  No condition.
-/
import Derived.Test.YtnfbaeeohepajaaGreatCT3T3n
import Derived.Test.YtnfbaeeohepajaaGreatCT2T2e
namespace Go.Proofs.YtnfbaeeohepajaaGreat
open Go.Eng
set_option linter.all false
attribute [local irreducible] DCallsG SWp Fct CallQ XCallQ LCallQ XLCallQ drun xrun

def curveB (t : List Knot) : Bool := tabB t && decide (0 ≤ (t.getD 0 default).x) && decide ((t.getD (t.length - 1) default).x ≤ 4194304) && decide (0 ≤ (t.getD 0 default).y) && decide ((t.getD (t.length - 1) default).y ≤ 1099511627776)
def kindL (x : Link) : Bool :=
  if x.kind = 1 then btwB x.length 1 16777216 && nameB x.sect && decide (x.width = 0) && decide (x.height = 0) && decide (x.curve.length = 0)
  else if x.kind = 2 then decide (x.length = 0) && decide (x.down = 0) && decide (x.sect.size = 0) && btwB x.width 1 1048576 && decide (x.height = 0) && decide (x.curve.length = 0)
  else if x.kind = 3 then decide (x.length = 0) && decide (x.down = 0) && decide (x.sect.size = 0) && btwB x.width 1 32768 && btwB x.height 1 32768 && decide (x.curve.length = 0)
  else if x.kind = 4 then decide (x.length = 0) && decide (x.down < x.up) && decide (x.sect.size = 0) && decide (x.width = 0) && decide (x.height = 0) && curveB x.curve
  else false
def linkR (x : Link) : Bool := nameB x.name && nameB x.fro && nameB x.til && !decide (x.fro = x.til) && levB x.up && levB x.down && kindL x
def plainL (x : Link) : Link := ⟨x.name, x.fro, x.til, x.kind, if x.kind = 1 then x.length else 0, x.up, if x.kind = 1 ∨ x.kind = 4 then x.down else 0, if x.kind = 1 then x.sect else .empty, if x.kind = 2 ∨ x.kind = 3 then x.width else 0, if x.kind = 3 then x.height else 0, if x.kind = 4 then x.curve else []⟩
set_option maxHeartbeats 2000000 in
theorem plain_f (x : Link) (m : Nat) : DCalls Tryz.prog 137 [linkD x] (hget []) m (linkD (plainL x)) (hget []) := by
  refine pureC (n := 50) (rs := [.cell 2 39]) (ts := [39]) Tryz.func137 rfl (by decide) [] (by (exact SD)) ?_
  by_cases k1 : x.kind = 1
  · (have := Nonempty.intro k1)
    (repeat' (first | refine swp_seq [0, 1, 2, 3, 16, 17, 28, 33, 41] ?_ | (show SWp _ _ _ (.region _ _ true) _ _ _ _; refine xG mixed [104] ?_) | refine st2 ?_ | (show Fct ..; refine fctI (fun hf => ?_)) | (show SWp _ _ _ (.cond _ _ _) _ _ _ _; first | refine cB (fun hc => ?_) (fun hc => ?_) | refine cU ?_ ?_)))
    (refine DVQ ?_)
    simp only [plainL, linkC, k1]; rfl
  (have := Nonempty.intro k1)
  by_cases k2 : x.kind = 2
  · (have := Nonempty.intro k2)
    (repeat' (first | refine swp_seq [0, 1, 2, 3, 16, 17, 28, 33, 41] ?_ | (show SWp _ _ _ (.region _ _ true) _ _ _ _; refine xG mixed [104] ?_) | refine st2 ?_ | (show Fct ..; refine fctI (fun hf => ?_)) | (show SWp _ _ _ (.cond _ _ _) _ _ _ _; first | refine cB (fun hc => ?_) (fun hc => ?_) | refine cU ?_ ?_)))
    (refine DVQ ?_)
    simp only [plainL, linkC, k2]; rfl
  (have := Nonempty.intro k2)
  by_cases k3 : x.kind = 3
  · (have := Nonempty.intro k3)
    (repeat' (first | refine swp_seq [0, 1, 2, 3, 16, 17, 28, 33, 41] ?_ | (show SWp _ _ _ (.region _ _ true) _ _ _ _; refine xG mixed [104] ?_) | refine st2 ?_ | (show Fct ..; refine fctI (fun hf => ?_)) | (show SWp _ _ _ (.cond _ _ _) _ _ _ _; first | refine cB (fun hc => ?_) (fun hc => ?_) | refine cU ?_ ?_)))
    (refine DVQ ?_)
    simp only [plainL, linkC, k3]; rfl
  (have := Nonempty.intro k3)
  by_cases k4 : x.kind = 4
  · (have := Nonempty.intro k4)
    (repeat' (first | refine swp_seq [0, 1, 2, 3, 16, 17, 28, 33, 41] ?_ | (show SWp _ _ _ (.region _ _ true) _ _ _ _; refine xG mixed [104] ?_) | refine st2 ?_ | (show Fct ..; refine fctI (fun hf => ?_)) | (show SWp _ _ _ (.cond _ _ _) _ _ _ _; first | refine cB (fun hc => ?_) (fun hc => ?_) | refine cU ?_ ?_)))
    (refine DVQ ?_)
    simp only [plainL, linkC, k4]; rfl
  (have := Nonempty.intro k4)
  (repeat' (first | refine swp_seq [0, 1, 2, 3, 16, 17, 28, 33, 41] ?_ | (show SWp _ _ _ (.region _ _ true) _ _ _ _; refine xG mixed [104] ?_) | refine st2 ?_ | (show Fct ..; refine fctI (fun hf => ?_)) | (show SWp _ _ _ (.cond _ _ _) _ _ _ _; first | refine cB (fun hc => ?_) (fun hc => ?_) | refine cU ?_ ?_)))
  (refine DVQ ?_)
  simp only [plainL, linkC, k1, k2, k3, k4]; rfl
set_option maxRecDepth 20000 in
set_option maxHeartbeats 8000000 in
theorem sameLink_f (x y : Link) (m : Nat) (hx : linkOk x) (hy : linkOk y) : DCalls Tryz.prog 136 [linkD x, linkD y] (hget []) m (lb (decide (x = y))) (hget []) := by
  obtain ⟨_, _, _, _, _, _, _, _, _, _, k1, _⟩ := hx
  obtain ⟨_, _, _, _, _, _, _, _, _, _, k2, _⟩ := hy
  refine pureC (n := 80) (rs := [.tmp 4]) (ts := [4]) Tryz.func136 rfl (by decide) [] (by (exact SD)) ?_
  (repeat' (first | refine swp_seq [0, 1, 2, 3, 4] ?_ | refine st2 ?_ | (show CallQ ..; first | refine cQ (fun hcc => (eqlKnot_f _ _ _ SC SC)) ?_ | (refine lP ?_; refine lQ (fun hcc m => (eqlKnot_f _ _ _ SC SC)) ?_)) | (show Fct ..; refine fctI (fun hf => ?_)) | (show SWp _ _ _ (.cond _ _ _) _ _ _ _; first | refine cB (fun hc => ?_) (fun hc => ?_) | refine cU ?_ ?_)))
  (refine DVQ ?_)
  refine lbC ?_
  rw [Bool.eq_iff_iff]
  rw [decide_eq_true_eq]
  constructor
  · intro h
    refine link_ext ?_
    grind
  · rintro rfl
    simp
theorem rl1_f (k : Knot) (m : Nat) : DCalls Tryz.prog 140 [knotD k] (hget []) m (lb (!(btwB k.x 0 4194304 && btwB k.y 0 1099511627776))) (hget []) := by
  refine pureC (n := 13) (rs := [.tmp 2]) (ts := [4]) Tryz.func140 rfl (by decide) [] (by (exact SD)) ?_
  (repeat' (first | refine swp_seq [0, 1, 2] ?_ | refine st2 ?_ | (show CallQ ..; first | refine cQ (fun hcc => (between_f _ _ _ _)) ?_ | (refine lP ?_; refine lQ (fun hcc m => (between_f _ _ _ _)) ?_)) | (show Fct ..; refine fctI (fun hf => ?_)) | (show SWp _ _ _ (.cond _ _ _) _ _ _ _; first | refine cB (fun hc => ?_) (fun hc => ?_) | refine cU ?_ ?_)))
  (refine DVQ ?_)
  refine lbC ?_
  cases btwB k.x 0 4194304 <;> simp
theorem tab_mono {t : List Knot} (h : tabB t = true) : ∀ j i, i ≤ j → j < t.length → (t.getD i default).x ≤ (t.getD j default).x ∧ (t.getD i default).y ≤ (t.getD j default).y := by
  unfold tabB at h
  simp only [Bool.and_eq_true, List.all_eq_true, List.mem_range] at h
  intro j
  induction j with
  | zero => intro i hi _; have : i = 0 := by omega
            subst this; omega
  | succ j ih =>
    intro i hi hj
    have h1 := h.2 (j + 1) hj
    unfold tabR at h1
    simp at h1
    by_cases e : i = j + 1
    · subst e; omega
    · have := ih i (by omega) (by omega)
      simp only [List.getD_eq_getElem?_getD] at this ⊢
      omega
theorem curve_all {t : List Knot} (h : tabB t = true) : (!t.any fun k => !(btwB k.x 0 4194304 && btwB k.y 0 1099511627776)) = curveB t := by
  have hl := tabB_len h
  have hm := tab_mono h
  unfold curveB
  rw [h, Bool.eq_iff_iff]
  simp only [Bool.not_eq_true', List.any_eq_false, Bool.true_and, Bool.and_eq_true, decide_eq_true_eq, Bool.not_eq_true, Bool.not_eq_false', Bool.and_eq_true, btwB]
  constructor
  · intro k
    have k0 := k _ (getD_mem (l := t) (i := 0) (by omega))
    have k1 := k _ (getD_mem (l := t) (i := t.length - 1) (by omega))
    simp at k0 k1
    simp only [List.getD_eq_getElem?_getD]
    grind
  · rintro ⟨⟨⟨a, b⟩, c⟩, d⟩ k hk
    obtain ⟨i, hi, rfl⟩ := List.mem_iff_getElem.1 hk
    have e : t.getD i default = t[i] := by simp [List.getD_eq_getElem?_getD, hi]
    have q0 := hm i 0 (by omega) hi
    have q1 := hm (t.length - 1) i (by omega) (by omega)
    rw [e] at q0 q1
    have : btwB t[i].x 0 4194304 = true ∧ btwB t[i].y 0 1099511627776 = true := by
      unfold btwB
      constructor <;> (simp; omega)
    simp [btwB] at this ⊢
    omega
def kindP (x : Link) : Bool :=
  if x.kind = 1 then btwB x.length 1 16777216 && levB x.down && nameB x.sect
  else if x.kind = 2 then btwB x.width 1 1048576
  else if x.kind = 3 then btwB x.width 1 32768 && btwB x.height 1 32768
  else if x.kind = 4 then levB x.down && decide (x.down < x.up) && curveB x.curve
  else false
theorem link_iff {x y : Link} : x = y ↔ (x.name = y.name ∧ x.fro = y.fro ∧ x.til = y.til ∧ x.kind = y.kind ∧ x.length = y.length ∧ x.up = y.up ∧ x.down = y.down ∧ x.sect = y.sect ∧ x.width = y.width ∧ x.height = y.height ∧ x.curve = y.curve) := ⟨fun h => by subst h; simp, link_ext⟩
theorem sz0 (s : ByteArray) : s = ByteArray.empty ↔ s.size = 0 := by
  have := bEmpty s
  simpa using this
theorem sz0' (s : ByteArray) : s = (⟨#[]⟩ : ByteArray) ↔ s.size = 0 := sz0 s
theorem lev0 : levB 0 = true := by decide
theorem linkR_eq (x : Link) : linkR x = (nameB x.name && nameB x.fro && nameB x.til && !decide (x.fro = x.til) && levB x.up && decide (x = plainL x) && kindP x) := by
  have e : decide (x = plainL x) = decide (x.length = (plainL x).length ∧ x.down = (plainL x).down ∧ x.sect = (plainL x).sect ∧ x.width = (plainL x).width ∧ x.height = (plainL x).height ∧ x.curve = (plainL x).curve) := by
    refine decide_eq_decide.2 ?_
    rw [link_iff]; simp [plainL]
  rw [e]
  unfold linkR
  simp only [Bool.and_assoc]
  congr 5
  unfold kindL kindP plainL
  by_cases k1 : x.kind = 1
  · simp only [k1, if_true]
    rw [Bool.eq_iff_iff]; simp; grind
  by_cases k2 : x.kind = 2
  · simp only [k2, if_true]
    rw [Bool.eq_iff_iff]; simp
    have := lev0
    grind
  by_cases k3 : x.kind = 3
  · simp only [k3, if_true]
    rw [Bool.eq_iff_iff]; simp
    have := lev0
    grind
  by_cases k4 : x.kind = 4
  · simp only [k4, if_true]
    rw [Bool.eq_iff_iff]; simp; grind
  simp [k1, k2, k3, k4]

end Go.Proofs.YtnfbaeeohepajaaGreat
