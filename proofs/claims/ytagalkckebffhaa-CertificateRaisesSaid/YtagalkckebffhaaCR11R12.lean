/-
  Contracts of functions of the program, over the engine.
  No condition.
-/
import Derived.Test.YtagalkckebffhaaCR8R9R10
namespace Go.Proofs.Ytagalkckebffhaa
open Go.Eng
set_option linter.all false
attribute [local irreducible] DCallsG SWp Fct CallQ XCallQ LCallQ XLCallQ drun xrun

abbrev hRz (O : List (List DV)) (X : List Int) (i b : Int) : LH := [(152, .lst 22 1 O), (160, .blk 27 [.gl 152]), (200, .blk 3 [li i]), (265, inLt X), (322, .blk 3 [li b])]
def rzV (y c b : Int) : Int := if y = -1 then b else if b = -1 ∨ c + y < b then c + y else b
structure ROk (O : List (List DV)) : Prop where
  uses : ∀ U : Nat → Prop, U 265 → DV.usesL U O.flatten
  mp : ∀ r : Nat → Nat, r 265 = 265 → O.map (DV.mpL r) = O
  ren : ∀ a b : Nat, ¬ 265 = a → O.map (DV.renL a b) = O
set_option maxRecDepth 20000 in
set_option maxHeartbeats 4000000 in
theorem raise1_f (O : List (List DV)) (X : List Int) (i : Nat) (a c b : Int) (m : Nat) (hO : i + 1 < O.length) (hOl : O.length ≤ 1048576) (hK : ROk O) (hx : O.getD (i + 1) [] = [.p (.dat 1 ((rowAt O (i + 1)).map inRow))])
    (h1 : (rowAt O (i + 1)).length ≤ 1048576) (h2 : (rowAt O (i + 1)).length % 2 = 0) (h3 : ∀ j k, j < k → k < (rowAt O (i + 1)).length / 2 → (rowAt O (i + 1)).getD (2 * j) default < (rowAt O (i + 1)).getD (2 * k) default)
    (hc : 0 ≤ c ∧ c ≤ 4398046511104000) (hy : -1 ≤ (atR (rowAt O (i + 1)) a).1 ∧ (atR (rowAt O (i + 1)) a).1 ≤ 1152921504606846976) :
    DCallsG Try.prog 60 [] [li a, li c, .ptr 160 0, .ptr 200 0, .ptr 322 0] (hget (hRz O X i b)) m (lb true) (hget (hRz O X i (rzV (atR (rowAt O (i + 1)) a).1 c b))) := by
  have cf := fun m => find_f (rowAt O (i + 1)) a m h1 h2 h3
  have hO3 : (i : Int) + 1 < (O.length : Int) := by omega
  (have := Nonempty.intro hO)
  (have := Nonempty.intro hO3)
  (have := Nonempty.intro hx)
  generalize hA : atR (rowAt O (i + 1)) a = A at *
  obtain ⟨y, ok⟩ := A
  dsimp only at hy cf ⊢
  refine contract (n := 36) (rs := [.tmp 7]) (ts := [4]) Try.func60 rfl (by decide) 323 323 [] [] [] (lb true) (hRz O X i (rzV y c b)) ?hs ?hn ?_
  case hs =>
    refine ⟨by omega, by simp, by (exact SD), ⟨by omega, hK.uses _ (by omega), by (exact SD)⟩, by (exact SD), trivial, by decide, trivial, ⟨.inr ⟨by omega, by (exact SD)⟩, hK.uses _ (.inr ⟨by omega, by (exact SD)⟩), by (exact SD)⟩⟩
  case hn =>
    refine ⟨rfl, ?_⟩
    simp only [hmp, HV.mp, hK.mp _ (show rf [] m 265 = 265 from rfl), rows_mp]
    rfl
  by_cases hy1 : y = -1
  · subst hy1
    rw [show rzV (-1) c b = b from if_pos rfl]
    (repeat' (first | refine swp_seq [0, 1, 2, 3, 4, 7, 8, 32] ?_ | refine st1 ?_ | (show CallQ ..; first | refine cF ?_ | refine cQ (fun hcc => (by first | exact cf _)) ?_ | (refine lP ?_; refine lQ (fun hcc m => (by first | exact cf _)) ?_)) | (show Fct ..; refine fctI (fun hf => ?_)) | (show SWp _ _ _ (.cond _ _ _) _ _ _ _; first | (refine cB (fun hc => ?_) (fun hc => ?_) <;> first | exact False.elim hc | exact absurd hc Bool.false_ne_true | exact absurd hc.symm Bool.false_ne_true | skip) | refine cU ?_ ?_)))
    exact DVS
  (have := Nonempty.intro hy1)
  by_cases hb1 : b = -1
  · subst hb1
    rw [show rzV y c (-1) = c + y by unfold rzV; rw [if_neg hy1, if_pos (.inl rfl)]]
    (repeat' (first | refine swp_seq [0, 1, 2, 3, 4, 7, 8, 32] ?_ | refine st1 ?_ | (show CallQ ..; first | refine cF ?_ | refine cQ (fun hcc => (by first | exact cf _)) ?_ | (refine lP ?_; refine lQ (fun hcc m => (by first | exact cf _)) ?_)) | (show Fct ..; refine fctI (fun hf => ?_)) | (show SWp _ _ _ (.cond _ _ _) _ _ _ _; first | (refine cB (fun hc => ?_) (fun hc => ?_) <;> first | exact False.elim hc | exact absurd hc Bool.false_ne_true | exact absurd hc.symm Bool.false_ne_true | skip) | refine cU ?_ ?_)))
    exact DVS
  (have := Nonempty.intro hb1)
  by_cases hlt : c + y < b
  · (have := Nonempty.intro hlt)
    rw [show rzV y c b = c + y by unfold rzV; rw [if_neg hy1, if_pos (.inr hlt)]]
    (repeat' (first | refine swp_seq [0, 1, 2, 3, 4, 7, 8, 32] ?_ | refine st1 ?_ | (show CallQ ..; first | refine cF ?_ | refine cQ (fun hcc => (by first | exact cf _)) ?_ | (refine lP ?_; refine lQ (fun hcc m => (by first | exact cf _)) ?_)) | (show Fct ..; refine fctI (fun hf => ?_)) | (show SWp _ _ _ (.cond _ _ _) _ _ _ _; first | (refine cB (fun hc => ?_) (fun hc => ?_) <;> first | exact False.elim hc | exact absurd hc Bool.false_ne_true | exact absurd hc.symm Bool.false_ne_true | skip) | refine cU ?_ ?_)))
    exact DVS
  · (have := Nonempty.intro hlt)
    rw [show rzV y c b = b by unfold rzV; rw [if_neg hy1, if_neg (by omega)]]
    (repeat' (first | refine swp_seq [0, 1, 2, 3, 4, 7, 8, 32] ?_ | refine st1 ?_ | (show CallQ ..; first | refine cF ?_ | refine cQ (fun hcc => (by first | exact cf _)) ?_ | (refine lP ?_; refine lQ (fun hcc m => (by first | exact cf _)) ?_)) | (show Fct ..; refine fctI (fun hf => ?_)) | (show SWp _ _ _ (.cond _ _ _) _ _ _ _; first | (refine cB (fun hc => ?_) (fun hc => ?_) <;> first | exact False.elim hc | exact absurd hc Bool.false_ne_true | exact absurd hc.symm Bool.false_ne_true | skip) | refine cU ?_ ?_)))
    exact DVS
set_option maxRecDepth 20000 in
set_option maxHeartbeats 8000000 in
theorem rsteps_f (p : Plan) (O : List (List DV)) (X : List Int) (k : Nat) (v : Int) (m : Nat) (hp : planB p = true) (hki : k < p.inf.length) (hv : 0 ≤ v ∧ v ≤ 1099511627776) (hO : k + 1 < O.length) (hOl : O.length ≤ 1048576) (hK : ROk O) (hx : O.getD (k + 1) [] = [.p (.dat 1 ((rowAt O (k + 1)).map inRow))])
    (h1 : (rowAt O (k + 1)).length ≤ 1048576) (h2 : (rowAt O (k + 1)).length % 2 = 0) (h3 : ∀ i j, i < j → j < (rowAt O (k + 1)).length / 2 → (rowAt O (k + 1)).getD (2 * i) default < (rowAt O (k + 1)).getD (2 * j) default)
    (hy : ∀ a, -1 ≤ (atR (rowAt O (k + 1)) a).1 ∧ (atR (rowAt O (k + 1)) a).1 ≤ 1152921504606846976) :
    DCallsG Try.prog 59 [] [planD p, li k, li v, .clo 60 [.ptr 160 0, .ptr 200 0, .ptr 322 0]] (hget (hRz O X k (-1))) m (lb true) (hget (hRz O X k (raisedV p k v (rowAt O (k + 1))))) := by
  have hin := planB_in hp
  have hr20 := hin.2.2.2.2.1
  have hrz := rz_in hp hki hv (by omega) hy
  (have := Nonempty.intro hki)
  refine contract (n := 61) (rs := [.tmp 8]) (ts := [4]) Try.func59 rfl (by decide) 323 323 [] [] [] (lb true) (hRz O X k (raisedV p k v (rowAt O (k + 1)))) ?hs ?hn ?_
  case hs =>
    refine ⟨by omega, by simp, by (exact SD), ⟨by omega, hK.uses _ (by omega), by (exact SD)⟩, by (exact SD), trivial, by decide, trivial, ⟨.inr ⟨by omega, by (exact SD)⟩, hK.uses _ (.inr ⟨by omega, by (exact SD)⟩), by (exact SD)⟩⟩
  case hn =>
    refine ⟨rfl, ?_⟩
    simp only [hmp, HV.mp, hK.mp _ (show rf [] m 265 = 265 from rfl), rows_mp]
    rfl
  (repeat' (first | refine swp_seq [0, 1, 2, 3, 4, 8, 10, 11, 12, 13, 14, 16, 17, 18, 19, 34, 43, 59] ?_ | refine st1 ?_ | (show Fct ..; refine fctI (fun hf => ?_)) | (show SWp _ _ _ (.cond _ _ _) _ _ _ _; first | (refine cB (fun hc => ?_) (fun hc => ?_) <;> first | exact False.elim hc | exact absurd hc Bool.false_ne_true | exact absurd hc.symm Bool.false_ne_true | skip) | refine cU ?_ ?_)))
  refine loop_swp [1, 2, 3, 4, 16, 17, 18] [152, 160, 200, 265, 322, 323] 324 (fun q A H => ∃ i : Nat, i ≤ p.rel.length ∧ q = p.rel.length - i ∧ A = [(1, li k), (2, li v), (3, .clo 60 [.ptr 160 0, .ptr 200 0, .ptr 322 0]), (4, .ptr 323 0), (16, ints p.rel), (17, li p.rel.length), (18, li i)] ∧ H = hRz O X k ((p.rel.take i).foldl (rzStep p k v (rowAt O (k + 1))) (-1)) ++ [(323, .blk 26 (planC p))]) (by omega) ?_ ?_ ?_
  · rintro q A H ⟨i, g1, g2, rfl, rfl⟩
    exact ⟨by (exact SD), ⟨by omega, hK.uses _ (by omega), by (exact SD)⟩⟩
  · refine ⟨_, 0, by omega, rfl, ?_, ?_⟩
    · exact DVR
    · exact DVR
  rintro q A H ⟨i, g1, g2, rfl, rfl⟩
  have hbin := hrz i g1
  by_cases hi : i < p.rel.length
  · have hi3 : (i : Int) < (p.rel.length : Int) := by omega
    (have := Nonempty.intro hi3)
    (have := Nonempty.intro hi)
    have hcst := cost_in hp hki hv hi
    have hkin := hin.2.2.2.2.2.2.2.1 k hki
    have hrin := hin.2.2.2.2.2.2.2.2.1 i hi
    have hsn := foldl_snoc (rzStep p k v (rowAt O (k + 1))) p.rel (-1) hi
    have cf := fun m => floor_f p.pen (p.rel.getD i default) m hin.2.2.2.2.2.2.1 (by unfold i64ok; omega)
    generalize (p.rel.take i).foldl (rzStep p k v (rowAt O (k + 1))) (-1) = b at *
    unfold rzStep at hsn
    by_cases hpo : v + p.inf.getD k default - p.rel.getD i default < p.res
    · (have := Nonempty.intro hpo)
      have hposs : possB p k v (p.rel.getD i default) = false := by unfold possB leftI; exact decide_eq_false (by omega)
      rw [if_neg (by rw [hposs]; decide)] at hsn
      (repeat' (first | refine swp_seq [0, 1, 2, 3, 4, 8, 10, 11, 12, 13, 14, 16, 17, 18, 19, 34, 43, 59] ?_ | refine st1 ?_ | (show Fct ..; refine fctI (fun hf => ?_)) | (show SWp _ _ _ (.cond _ _ _) _ _ _ _; first | (refine cB (fun hc => ?_) (fun hc => ?_) <;> first | exact False.elim hc | exact absurd hc Bool.false_ne_true | exact absurd hc.symm Bool.false_ne_true | skip) | refine cU ?_ ?_)))
      (refine lN [152, 160, 200, 265, 322, 323] ?_)
      exact ⟨_, by omega, i + 1, by omega, rfl, rfl, by rw [show (p.rel.take (i + 1)).foldl (rzStep p k v (rowAt O (k + 1))) (-1) = b from hsn]; rfl⟩
    · (have := Nonempty.intro hpo)
      have hposs : possB p k v (p.rel.getD i default) = true := by unfold possB leftI; exact decide_eq_true (by omega)
      rw [if_pos hposs] at hsn
      have ch := fun m => raise1_f O X k (aftI p k v (p.rel.getD i default)) (costI p k v (p.rel.getD i default)) b m hO hOl hK hx h1 h2 h3 hcst.2.2.2 (hy _)
      have hsn2 : (p.rel.take (i + 1)).foldl (rzStep p k v (rowAt O (k + 1))) (-1) = rzV (atR (rowAt O (k + 1)) (aftI p k v (p.rel.getD i default))).1 (costI p k v (p.rel.getD i default)) b := hsn
      clear hsn
      have eA : (if p.cap < v + p.inf.getD k default - p.rel.getD i default then p.cap else v + p.inf.getD k default - p.rel.getD i default) = aftI p k v (p.rel.getD i default) := rfl
      have eC : costI p k v (p.rel.getD i default) = floorT p.pen (p.rel.getD i default) + p.wei * (v + p.inf.getD k default - p.rel.getD i default - aftI p k v (p.rel.getD i default)) := rfl
      have eL : leftI p k v (p.rel.getD i default) = v + p.inf.getD k default - p.rel.getD i default := rfl
      rw [eC] at ch hsn2 hcst
      rw [eL] at hcst
      clear eC eL
      generalize floorT p.pen (p.rel.getD i default) = F at *
      (repeat' (first | (show SWp _ _ _ (.seq (.region 10 _ _) _) _ _ _ _; refine (stop_in ?_)) | refine swp_seq [0, 1, 2, 3, 4, 8, 10, 11, 12, 13, 14, 16, 17, 18, 19, 34, 43, 59] ?_ | refine st1 ?_ | (show CallQ ..; first | refine cF ?_ | refine cQ (fun hcc => (by first | exact cf _)) ?_ | (refine lP ?_; refine lQ (fun hcc m => (by first | exact cf _)) ?_)) | (show Fct ..; refine fctI (fun hf => ?_)) | (show SWp _ _ _ (.cond _ _ _) _ _ _ _; first | (refine cB (fun hc => ?_) (fun hc => ?_) <;> first | exact False.elim hc | exact absurd hc Bool.false_ne_true | exact absurd hc.symm Bool.false_ne_true | skip) | refine cU ?_ ?_)))
      refine stop_out ?_
      rw [eA]
      clear eA
      generalize aftI p k v (p.rel.getD i default) = AF at *
      generalize rzV (atR (rowAt O (k + 1)) AF).1 (F + p.wei * (v + p.inf.getD k default - p.rel.getD i default - AF)) b = b2 at *
      (repeat' (first | refine swp_seq [0, 1, 2, 3, 4, 8, 10, 11, 12, 13, 14, 16, 17, 18, 19, 34, 43, 59] ?_ | refine st1 ?_ | (show CallQ ..; first | refine cF ?_ | refine cQ (fun hcc => (by first | exact ch _)) ?_ | (refine lP ?_; refine lQ (fun hcc m => (by first | exact ch _)) ?_)) | (show Fct ..; refine fctI (fun hf => ?_)) | (show SWp _ _ _ (.cond _ _ _) _ _ _ _; first | (refine cB (fun hc => ?_) (fun hc => ?_) <;> first | exact False.elim hc | exact absurd hc Bool.false_ne_true | exact absurd hc.symm Bool.false_ne_true | skip) | refine cU ?_ ?_)))
      (refine lN [152, 160, 200, 265, 322, 323] ?_)
      exact ⟨_, by omega, i + 1, by omega, rfl, rfl, by rw [hsn2]; rfl⟩
  have hi3 : ¬ ((i : Int) < (p.rel.length : Int)) := by omega
  (have := Nonempty.intro hi3)
  rw [List.take_of_length_le (show p.rel.length ≤ i by omega)]
  (repeat' (first | refine swp_seq [0, 1, 2, 3, 4, 8, 10, 11, 12, 13, 14, 16, 17, 18, 19, 34, 43, 59] ?_ | refine st1 ?_ | (show Fct ..; refine fctI (fun hf => ?_)) | (show SWp _ _ _ (.cond _ _ _) _ _ _ _; first | (refine cB (fun hc => ?_) (fun hc => ?_) <;> first | exact False.elim hc | exact absurd hc Bool.false_ne_true | exact absurd hc.symm Bool.false_ne_true | skip) | refine cU ?_ ?_)))
  exact DVS
set_option maxHeartbeats 1000000 in
theorem cloneI_f (l : List Int) (m : Nat) (hl : l.length ≤ 1048576) : DCallsG Try.prog 58 [] [ints l] (hget []) m (.gl m) (hget [(m, inLt l)]) := by
  refine contract (n := 8) (rs := [.tmp 2]) (ts := [22]) Try.func58 rfl (by decide) 0 0 [] [] [24] (.gl 24) [(24, inLt l)] (by (exact SD)) (by (exact SD)) ?_
  cases l with
  | nil =>
    (repeat' (first | refine swp_seq [0, 2, 4] ?_ | (first | refine rF (fun hf => ?_) | refine tN ?_ | refine swp_skip ?_ | refine swp_block ?_ | refine swp_scope ?_ | refine blockK_normal ?_ | refine scopeK_normal ?_ | (refine cB (fun hc => ?_) (fun hc => ?_) <;> first | exact False.elim hc | exact absurd hc Bool.false_ne_true | exact absurd hc.symm Bool.false_ne_true | skip) | refine cU ?_ ?_)))
    · (refine sN 2 3 1 ?_)
      (refine sR 32 24 ?_)
      (repeat' (first | refine swp_seq [0, 2, 4] ?_ | (first | refine rF (fun hf => ?_) | refine tN ?_ | refine swp_skip ?_ | refine swp_ret ?_ | refine swp_exit ?_ | refine swp_block ?_ | refine swp_scope ?_ | refine thenK_ret ?_ | refine thenK_exit ?_ | refine blockK_normal ?_ | refine blockK_ret ?_ | refine blockK_here ?_ | refine bX ?_ | refine scopeK_normal ?_ | refine scopeK_ret ?_ | refine scopeK_exit ?_ | refine loopK_ret ?_ | refine loopK_exit ?_ | refine dF mixed ?_ | (refine cB (fun hc => ?_) (fun hc => ?_) <;> first | exact False.elim hc | exact absurd hc Bool.false_ne_true | exact absurd hc.symm Bool.false_ne_true | skip) | refine cU ?_ ?_)))
      exact DVS
    · (repeat' (first | refine swp_seq [0, 2, 4] ?_ | (first | refine rF (fun hf => ?_) | refine tN ?_ | refine swp_skip ?_ | refine swp_ret ?_ | refine swp_exit ?_ | refine swp_block ?_ | refine swp_scope ?_ | refine thenK_ret ?_ | refine thenK_exit ?_ | refine blockK_normal ?_ | refine blockK_ret ?_ | refine blockK_here ?_ | refine bX ?_ | refine scopeK_normal ?_ | refine scopeK_ret ?_ | refine scopeK_exit ?_ | refine loopK_ret ?_ | refine loopK_exit ?_ | refine dF mixed ?_ | (refine cB (fun hc => ?_) (fun hc => ?_) <;> first | exact False.elim hc | exact absurd hc Bool.false_ne_true | exact absurd hc.symm Bool.false_ne_true | skip) | refine cU ?_ ?_)))
      exact DVS
  | cons b l =>
    (repeat' (first | refine swp_seq [0, 2, 4] ?_ | (first | refine rF (fun hf => ?_) | refine tN ?_ | refine swp_skip ?_ | refine swp_ret ?_ | refine swp_exit ?_ | refine swp_block ?_ | refine swp_scope ?_ | refine thenK_ret ?_ | refine thenK_exit ?_ | refine blockK_normal ?_ | refine blockK_ret ?_ | refine blockK_here ?_ | refine bX ?_ | refine scopeK_normal ?_ | refine scopeK_ret ?_ | refine scopeK_exit ?_ | refine loopK_ret ?_ | refine loopK_exit ?_ | refine dF mixed ?_ | (refine cB (fun hc => ?_) (fun hc => ?_) <;> first | exact False.elim hc | exact absurd hc Bool.false_ne_true | exact absurd hc.symm Bool.false_ne_true | skip) | refine cU ?_ ?_)))
    exact DVS
theorem own_265 (O : List (List DV)) (i : Nat) [h : Nonempty (O.getD i [] = [.gl 265])] : O.getD i [] = [.gl 265] := h.elim id
attribute [push_cast] own_265
theorem prO_mp (c : Nat) (rs : List (List Int)) (r : Nat → Nat) : (prO c rs).map (DV.mpL r) = prO c rs := by
  unfold prO; rw [List.map_append, rows_mp, List.map_replicate]; rfl
theorem prO_ok (c i : Nat) (rs : List (List Int)) : ROk ((prO c rs).set i [.gl 265]) where
  uses U h := set_uses (prO_uses _ _ _) h
  mp r h := by rw [List.map_set, prO_mp]; simp only [DV.mpL, DV.mp, h]
  ren a b h := by rw [List.map_set, prO_ren]; simp only [DV.renL, DV.ren, rnm, if_neg h]
set_option maxRecDepth 20000 in
set_option maxHeartbeats 16000000 in
theorem raise_f (p : Plan) (l : List (List Int)) (m : Nat) (hq : planOk p) (hl : rowsOk l) : DCalls Try.prog 25 [planD p, intss l] (hget []) m (.tup [intss (raiseR p l).1, li (raiseR p l).2]) (hget []) := by
  have cc := fun m => check_f p l m hq hl
  have hl1 := hl.1
  by_cases h0 : givenE p l = 0
  case neg =>
    rw [show raiseR p l = ([], givenE p l) from if_pos h0]
    rw [show checkR p l = (false, 0, givenE p l) from if_pos h0] at cc
    generalize givenE p l = E at *
    (have := Nonempty.intro h0)
    refine pureC (n := 78) (rs := [.tmp 4, .tmp 5]) (ts := [27, 32]) Try.func25 rfl (by decide) [] (by (exact SD)) ?_
    (repeat' (first | refine swp_seq [0, 1, 2, 4, 5, 6, 8, 9, 10, 11, 12, 21, 24, 32, 47, 54, 76] ?_ | refine st1 ?_ | (show CallQ ..; first | refine cF ?_ | refine cQ (fun hcc => (by first | exact cc _)) ?_ | (refine lP ?_; refine lQ (fun hcc m => (by first | exact cc _)) ?_)) | (show Fct ..; refine fctI (fun hf => ?_)) | (show XCallQ ..; first | refine xcF ?_ | refine xQ (fun hcc => (by first | exact cc _)) ?_ | (refine xlP ?_; refine xlQ (fun hcc m => (by first | exact cc _)) ?_)) | (show SWp _ _ _ (.region _ _ true) _ _ _ _; refine xG mixed [] ?_) | (show SWp _ _ _ (.cond _ _ _) _ _ _ _; first | (refine cB (fun hc => ?_) (fun hc => ?_) <;> first | exact False.elim hc | exact absurd hc Bool.false_ne_true | exact absurd hc.symm Bool.false_ne_true | skip) | refine cU ?_ ?_)))
    exact DVR
  have hR : raiseR p l = if failK p l < l.length then ([], 13) else (outsR p l l.length, 0) := if_neg (fun k => k h0)
  rw [hR]
  clear hR
  by_cases h1 : failK p l < l.length
  · have hC : checkR p l = (false, (failK p l : Int), 0) := by unfold checkR; rw [if_neg (fun k => k h0), if_pos h1]
    rw [hC] at cc
    rw [if_pos h1]
    refine pureC (n := 78) (rs := [.tmp 4, .tmp 5]) (ts := [27, 32]) Try.func25 rfl (by decide) [] (by (exact SD)) ?_
    (repeat' (first | refine swp_seq [0, 1, 2, 4, 5, 6, 8, 9, 10, 11, 12, 21, 24, 32, 47, 54, 76] ?_ | refine st1 ?_ | (show CallQ ..; first | refine cF ?_ | refine cQ (fun hcc => (by first | exact cc _)) ?_ | (refine lP ?_; refine lQ (fun hcc m => (by first | exact cc _)) ?_)) | (show Fct ..; refine fctI (fun hf => ?_)) | (show XCallQ ..; first | refine xcF ?_ | refine xQ (fun hcc => (by first | exact cc _)) ?_ | (refine xlP ?_; refine xlQ (fun hcc m => (by first | exact cc _)) ?_)) | (show SWp _ _ _ (.region _ _ true) _ _ _ _; refine xG mixed [] ?_) | (show SWp _ _ _ (.cond _ _ _) _ _ _ _; first | (refine cB (fun hc => ?_) (fun hc => ?_) <;> first | exact False.elim hc | exact absurd hc Bool.false_ne_true | exact absurd hc.symm Bool.false_ne_true | skip) | refine cU ?_ ?_)))
    exact DVR
  rw [check_all h1 h0] at cc
  rw [if_neg h1]
  obtain ⟨hp, hln, hrow⟩ := given_in h0
  have hall := fun k hk => failK_all (k := k) h1 hk
  have hok := outs_ok h0 hall
  have hin := planB_in hp
  refine pureC (n := 78) (rs := [.tmp 4, .tmp 5]) (ts := [27, 32]) Try.func25 rfl (by decide) [152] (by (exact SD)) ?_
  (repeat' (first | refine swp_seq [0, 1, 2, 4, 5, 6, 8, 9, 10, 11, 12, 21, 24, 32, 47, 54, 76] ?_ | refine st1 ?_ | (show CallQ ..; first | refine cF ?_ | refine cQ (fun hcc => (by first | exact cc _)) ?_ | (refine lP ?_; refine lQ (fun hcc m => (by first | exact cc _)) ?_)) | (show Fct ..; refine fctI (fun hf => ?_)) | (show XCallQ ..; first | refine xcF ?_ | refine xQ (fun hcc => (by first | exact cc _)) ?_ | (refine xlP ?_; refine xlQ (fun hcc m => (by first | exact cc _)) ?_)) | (show SWp _ _ _ (.region _ _ true) _ _ _ _; refine xG mixed [] ?_) | (show SWp _ _ _ (.cond _ _ _) _ _ _ _; first | (refine cB (fun hc => ?_) (fun hc => ?_) <;> first | exact False.elim hc | exact absurd hc Bool.false_ne_true | exact absurd hc.symm Bool.false_ne_true | skip) | refine cU ?_ ?_)))
  refine loop_swp [1, 2, 9, 10] [0, 152, 160, 200] 201 (fun q A H => ∃ c : Nat, c ≤ l.length ∧ q = c ∧ A = [(1, intss l), (2, .ptr 0 0), (9, .ptr 160 0), (10, .ptr 200 0)] ∧ H = [(0, .blk 26 (planC p)), (152, .lst 22 1 (prO c (outsR p l (l.length - c)))), (160, .blk 27 [.gl 152]), (200, .blk 3 [li ((c : Int) - 1)])]) (by omega) ?_ ?_ ?_
  · rintro q A H ⟨c, g1, g2, rfl, rfl⟩
    exact ⟨by (exact SD), ⟨by omega, by (exact SD), by omega, prO_uses _ _ _, by (exact SD)⟩⟩
  · refine ⟨_, l.length, Nat.le_refl _, rfl, ?_, ?_⟩
    · exact DVR
    · rw [Nat.sub_self]
      unfold prO
      rw [show rows ilRow (outsR p l 0) = [] from rfl, List.append_nil]
      (((simp only [push_cast, reduceIte, reduceDIte, reduceCtorEq, Nat.reduceLT, Nat.reduceLeDiff, Nat.reduceEqDiff, Nat.reduceAdd, Nat.reduceMul, Nat.reduceBEq, Nat.reducePow, Int.zero_add, Int.reduceAdd, Int.reduceSub, Int.reduceLT, Int.reduceLE, Int.reduceToNat, Int.reduceNeg, Nat.reduceSub, Int.reduceBNe, Int.reduceBEq, Int.reduceTDiv, Int.reduceTMod, Int.reduceMul]); repeat (simp (disch := omega) only [idx_nat, idx_mapT, i64w, rows_getS, rows_get, getD_set_self, famR_get]; try (simp only [push_cast, reduceIte, reduceDIte, reduceCtorEq, Nat.reduceLT, Nat.reduceLeDiff, Nat.reduceEqDiff, Nat.reduceAdd, Nat.reduceMul, Nat.reduceBEq, Nat.reducePow, Int.zero_add, Int.reduceAdd, Int.reduceSub, Int.reduceLT, Int.reduceLE, Int.reduceToNat, Int.reduceNeg, Nat.reduceSub, Int.reduceBNe, Int.reduceBEq, Int.reduceTDiv, Int.reduceTMod, Int.reduceMul]))))
      rfl
  rintro q A H ⟨c, g1, g2, rfl, rfl⟩
  by_cases hc0 : c = 0
  · subst hc0
    have e1 : ((0 : Nat) : Int) - 1 = -1 := by omega
    rw [e1, Nat.sub_zero, show prO 0 (outsR p l l.length) = rows ilRow (outsR p l l.length) from List.nil_append _]
    (repeat' (first | refine swp_seq [0, 1, 2, 4, 5, 6, 8, 9, 10, 11, 12, 21, 24, 32, 47, 54, 76] ?_ | refine st1 ?_ | (show Fct ..; refine fctI (fun hf => ?_)) | (show SWp _ _ _ (.region _ _ true) _ _ _ _; refine xG mixed [] ?_) | (show SWp _ _ _ (.cond _ _ _) _ _ _ _; first | (refine cB (fun hc => ?_) (fun hc => ?_) <;> first | exact False.elim hc | exact absurd hc Bool.false_ne_true | exact absurd hc.symm Bool.false_ne_true | skip) | refine cU ?_ ?_)))
    exact DVR
  obtain ⟨i, rfl⟩ : ∃ i, c = i + 1 := ⟨c - 1, by omega⟩
  have e1 : ((i + 1 : Nat) : Int) - 1 = (i : Int) := by omega
  rw [e1]
  have hil : i < l.length := by omega
  (have := Nonempty.intro hil)
  generalize hO1 : prO (i + 1) (outsR p l (l.length - (i + 1))) = O1
  have hO1l : O1.length = l.length := by rw [← hO1, prO_len, outsR_len]; omega
  have hi3 : (i : Int) < (O1.length : Int) := by omega
  (have := Nonempty.intro hi3)
  have hi0 : (0 : Int) ≤ (i : Int) := by omega
  (have := Nonempty.intro hi0)
  obtain ⟨hr1, hr8⟩ := hrow i hil
  have cl := fun m => cloneI_f (l.getD i default) m (by omega)
  have hrsl : (outsR p l (l.length - (i + 1))).length = l.length - (i + 1) := outsR_len _ _ _
  have hnew : outsR p l (l.length - i) = newRow p l i (outsR p l (l.length - (i + 1))) :: outsR p l (l.length - (i + 1)) := by
    have e2 : l.length - i = (l.length - (i + 1)) + 1 := by omega
    rw [e2, outsR]
    congr 2
    omega
  have hO1n : O1.getD i [] = nilRow := by rw [← hO1]; exact prO_nil _ _
  have hset : O1.set i (DV.gl 265 :: List.drop 1 (O1.getD i [])) = O1.set i [.gl 265] := by rw [hO1n]; rfl
  have hO1s : ∀ r : List Int, O1.set i [.p (.dat 1 (r.map inRow))] = prO i (r :: outsR p l (l.length - (i + 1))) := fun r => by rw [← hO1]; exact prO_set _ _ _
  have hO1f : ∀ o x, O1.map (DV.frzL o x) = O1 := fun o x => by rw [← hO1]; exact prO_frz _ _ _ _
  have hO2f : ∀ r : List Int, hfrzL 265 (.elems 1 (r.map inRow)) [(0, .blk 26 (planC p)), (152, .lst 22 1 (O1.set i [.gl 265])), (160, .blk 27 [.gl 152]), (200, .blk 3 [li i]), (265, inLt r)] = [(0, .blk 26 (planC p)), (152, .lst 22 1 (prO i (r :: outsR p l (l.length - (i + 1))))), (160, .blk 27 [.gl 152]), (200, .blk 3 [li i])] := fun r => by
    rw [← hO1s]
    simp only [hfrzL, HV.frz, List.map_set, hO1f]
    rfl
  have hO2f' : ∀ r : List Int, hfrzL 265 (.elems 1 (r.map inRow)) [(265, inLt r), (0, .blk 26 (planC p)), (152, .lst 22 1 (O1.set i [.gl 265])), (160, .blk 27 [.gl 152]), (200, .blk 3 [li i])] = [(0, .blk 26 (planC p)), (152, .lst 22 1 (prO i (r :: outsR p l (l.length - (i + 1))))), (160, .blk 27 [.gl 152]), (200, .blk 3 [li i])] := fun r => by
    rw [← hO1s]
    simp only [hfrzL, HV.frz, List.map_set, hO1f]
    rfl
  have hO9r : ∀ a b, (prO i (outsR p l (l.length - i))).map (DV.renL a b) = prO i (outsR p l (l.length - i)) := fun a b => prO_ren _ _ _ _
  have hO9u : ∀ U, DV.usesL U (prO i (outsR p l (l.length - i))).flatten := fun U => prO_uses _ _ _
  (repeat' (first | (show SWp _ _ _ (.seq (.seq (.region 11 _ _) _) _) _ _ _ _; refine (stop_in ?_)) | refine swp_seq [0, 1, 2, 4, 5, 6, 8, 9, 10, 11, 12, 21, 24, 32, 47, 54, 76] ?_ | refine st1 ?_ | (show CallQ ..; first | refine cF ?_ | refine cQ (fun hcc => (by first | exact cl _)) ?_ | (refine lP ?_; refine lQ (fun hcc m => (by first | exact cl _)) ?_)) | (show Fct ..; refine fctI (fun hf => ?_)) | (show XCallQ ..; first | refine xcF ?_ | refine xQ (fun hcc => (by first | exact cl _)) ?_ | (refine xlP ?_; refine xlQ (fun hcc m => (by first | exact cl _)) ?_)) | (show SWp _ _ _ (.region _ _ true) _ _ _ _; refine xG mixed [152, 1000006] ?_) | (show SWp _ _ _ (.cond _ _ _) _ _ _ _; first | (refine cB (fun hc => ?_) (fun hc => ?_) <;> first | exact False.elim hc | exact absurd hc Bool.false_ne_true | exact absurd hc.symm Bool.false_ne_true | skip) | refine cU ?_ ?_)))
  refine stop_out ?_
  rw [hset]
  by_cases hlast : (i : Int) = (l.length : Int) - 1
  · (have := Nonempty.intro hlast)
    have hNR : newRow p l i (outsR p l (l.length - (i + 1))) = l.getD i default := by unfold newRow; rw [if_pos (by omega)]
    rw [hNR] at hnew
    (repeat' (first | (show SWp _ _ _ (.seq (.region 18 _ _) _) _ _ _ _; refine (stop_in ?_)) | refine swp_seq [0, 1, 2, 4, 5, 6, 8, 9, 10, 11, 12, 21, 24, 32, 47, 54, 76] ?_ | refine st1 ?_ | (show CallQ ..; first | refine cF ?_ | refine cQ (fun hcc => (by fail)) ?_ | (refine lP ?_; refine lQ (fun hcc m => (by fail)) ?_)) | (show Fct ..; refine fctI (fun hf => ?_)) | (show XCallQ ..; first | refine xcF ?_ | refine xQ (fun hcc => (by fail)) ?_ | (refine xlP ?_; refine xlQ (fun hcc m => (by fail)) ?_)) | (show SWp _ _ _ (.region _ _ true) _ _ _ _; refine xG mixed [] ?_) | (show SWp _ _ _ (.cond _ _ _) _ _ _ _; first | (refine cB (fun hc => ?_) (fun hc => ?_) <;> first | exact False.elim hc | exact absurd hc Bool.false_ne_true | exact absurd hc.symm Bool.false_ne_true | skip) | refine cU ?_ ?_)))
    refine stop_out ?_
    refine sF 265 ?_ (x := .elems 1 ((l.getD i default).map inRow)) (eH := hO2f' (l.getD i default))
    rw [← hnew]
    generalize hO9 : prO i (outsR p l (l.length - i)) = O9 at *
    (repeat' (first | refine swp_seq [0, 1, 2, 4, 5, 6, 8, 9, 10, 11, 12, 21, 24, 32, 47, 54, 76] ?_ | refine st1 ?_ | (show Fct ..; refine fctI (fun hf => ?_)) | (show SWp _ _ _ (.region _ _ true) _ _ _ _; refine xG mixed [] ?_) | (show SWp _ _ _ (.cond _ _ _) _ _ _ _; first | (refine cB (fun hc => ?_) (fun hc => ?_) <;> first | exact False.elim hc | exact absurd hc Bool.false_ne_true | exact absurd hc.symm Bool.false_ne_true | skip) | refine cU ?_ ?_)))
    refine lR (H3 := [(0, .blk 26 (planC p)), (152, .lst 22 1 O9), (160, .blk 27 [.gl 152]), (200, .blk 3 [li ((i : Int) - 1)])]) 337 200 [0, 152, 160, 337] ?qa (hH1 := ?ua) (eH := ?ea)
    case ea =>
      simp only [hkr, rnm, HV.ren, hO9r]
      rfl
    case ua => exact ⟨⟨by omega, by omega⟩, by (exact SD), ⟨by omega, by omega⟩, hO9u _, ⟨by omega, by omega⟩, ⟨⟨by omega, by omega⟩, trivial⟩, ⟨by omega, by omega⟩, by (exact SD), trivial⟩
    exact ⟨_, by omega, i, by omega, rfl, rfl, by rw [hO9]⟩
  · (have := Nonempty.intro hlast)
    have hi1 : i + 1 < l.length := by omega
    obtain ⟨he, hval, hsort⟩ := rowB_in hr1
    have hoki : ((outsR p l (l.length - (i + 1))).getD 0 default).length = (l.getD (i + 1) default).length ∧ (∀ j, j < ((outsR p l (l.length - (i + 1))).getD 0 default).length / 2 → ((outsR p l (l.length - (i + 1))).getD 0 default).getD (2 * j) default = (l.getD (i + 1) default).getD (2 * j) default) ∧ ∀ a, -1 ≤ (atR ((outsR p l (l.length - (i + 1))).getD 0 default) a).1 ∧ (atR ((outsR p l (l.length - (i + 1))).getD 0 default) a).1 ≤ 1152921504606846976 := by
      have e2 : l.length - (i + 1) = (l.length - (i + 2)) + 1 := by omega
      have h200 := hin.2.2.2.1
      obtain ⟨k1, k2, k3⟩ := hok (l.length - (i + 2)) (by omega) _ rfl
      rw [e2]
      rw [show l.length - 1 - (l.length - (i + 2)) = i + 1 by omega] at k1 k2
      refine ⟨k1, k2, fun a => ?_⟩
      have := atR_bnd (B := ((l.length - (i + 2) : Nat) : Int) * 4398046511104000) (by omega) k3 a
      omega
    have hK : ROk (O1.set i [.gl 265]) := by rw [← hO1]; exact prO_ok _ _ _
    have hO2l : (O1.set i [.gl 265]).length = l.length := by rw [List.length_set]; exact hO1l
    have hO2i : (O1.set i [.gl 265]).getD i [] = [.gl 265] := getD_set_eq2 _ _ _ (by omega)
    have hO2x : (O1.set i [.gl 265]).getD (i + 1) [] = [.p (.dat 1 (((outsR p l (l.length - (i + 1))).getD 0 default).map inRow))] := by
      rw [getD_set_ne2 _ _ _ _ (by omega), ← hO1]; exact prO_row _ _ (by omega)
    have hO2u : DV.usesL (fun i => i < 266) (O1.set i [.gl 265]).flatten := hK.uses _ (by omega)
    have hnewF : newRow p l i (outsR p l (l.length - (i + 1))) = partRow (l.getD i default) (newF p i (l.getD i default) ((outsR p l (l.length - (i + 1))).getD 0 default)) ((l.getD i default).length / 2) := by unfold newRow; rw [if_neg (by omega)]
    rw [hnewF] at hnew
    have hxr := rowAt_eq hO2x
    rw [← hxr] at hoki hO2x hnew
    clear hnewF hxr
    generalize hO2 : O1.set i [.gl 265] = O2 at *
    have hi4 : (i : Int) < (O2.length : Int) := by omega
    (have := Nonempty.intro hi4)
    (have := Nonempty.intro hO2i)
    obtain ⟨hr1', hr8'⟩ := hrow (i + 1) hi1
    obtain ⟨he', hval', hsort'⟩ := rowB_in hr1'
    generalize hR0 : rowAt O2 (i + 1) = R0 at *
    have hs0 : ∀ a b, a < b → b < R0.length / 2 → R0.getD (2 * a) default < R0.getD (2 * b) default := fun a b hab hb => by
      rw [hoki.2.1 a (by omega), hoki.2.1 b hb]
      exact hsort' a b hab (by omega)
    (repeat' (first | refine swp_seq [0, 1, 2, 4, 5, 6, 8, 9, 10, 11, 12, 21, 24, 32, 47, 54, 76] ?_ | refine st1 ?_ | (show Fct ..; refine fctI (fun hf => ?_)) | (show SWp _ _ _ (.region _ _ true) _ _ _ _; refine xG mixed [] ?_) | (show SWp _ _ _ (.cond _ _ _) _ _ _ _; first | (refine cB (fun hc => ?_) (fun hc => ?_) <;> first | exact False.elim hc | exact absurd hc Bool.false_ne_true | exact absurd hc.symm Bool.false_ne_true | skip) | refine cU ?_ ?_)))
    refine loop_swp [1, 2, 9, 10, 11] [0, 152, 160, 200, 265] 266 (fun q A H => ∃ j k2 : Nat, k2 = 2 * j ∧ k2 ≤ (l.getD i default).length ∧ q = (l.getD i default).length - k2 ∧ A = [(1, intss l), (2, .ptr 0 0), (9, .ptr 160 0), (10, .ptr 200 0), (11, li k2)] ∧ H = [(0, .blk 26 (planC p)), (152, .lst 22 1 O2), (160, .blk 27 [.gl 152]), (200, .blk 3 [li i]), (265, inLt (partRow (l.getD i default) (newF p i (l.getD i default) R0) j))]) (by omega) ?_ ?_ ?_
    · rintro q A H ⟨j, k2, k1, f1, f2, rfl, rfl⟩
      exact ⟨by (exact SD), ⟨by omega, by (exact SD), by omega, hO2u, by (exact SD)⟩⟩
    · refine ⟨_, 0, 0, rfl, by omega, rfl, ?_, ?_⟩
      · exact DVR
      · rw [partRow_0]
        exact DVR
    rintro q A H ⟨j, k2, k1, f1, f2, rfl, rfl⟩
    have hpl := partRow_len (l.getD i default) (newF p i (l.getD i default) R0) j
    by_cases hj : k2 < (l.getD i default).length
    · have hj3 : (k2 : Int) < ((l.getD i default).length : Int) := by omega
      have hj5 : k2 + 1 < (l.getD i default).length := by omega
      have hXv := partRow_get (l.getD i default) (newF p i (l.getD i default) R0) j (k := k2) (by omega)
      rw [if_neg (by omega)] at hXv
      have hXs := partRow_set (l.getD i default) (newF p i (l.getD i default) R0) j (by omega)
      rw [← k1] at hXs
      generalize partRow (l.getD i default) (newF p i (l.getD i default) R0) j = X at *
      have hx1 : (k2 : Int) < (X.length : Int) := by omega
      have hx2 : k2 < X.length := by omega
      have hx3 : k2 + 1 < X.length := by omega
      (have := Nonempty.intro hx1)
      (have := Nonempty.intro hx2)
      (have := Nonempty.intro hx3)
      have hv0 := (hval j (by omega)).1
      rw [← k1] at hv0
      have hxf : O2.getD (i + 1) [] = [.p (.dat 1 ((rowAt O2 (i + 1)).map inRow))] := by rw [hR0]; exact hO2x
      have cs := fun m => rsteps_f p O2 X i (X.getD k2 default) m hp (by omega) (by rw [hXv]; omega) (by omega) (by omega) hK hxf (by rw [hR0]; omega) (by rw [hR0]; omega) (by rw [hR0]; exact hs0) (by rw [hR0]; exact hoki.2.2)
      rw [hR0] at cs
      have hV : newF p i (l.getD i default) R0 (k2 + 1) = raisedV p i (X.getD k2 default) R0 := by rw [hXv]; rfl
      rw [hV] at hXs
      generalize raisedV p i (X.getD k2 default) R0 = V at *
      (repeat' (first | (show SWp _ _ _ (.region 17 _ _) _ _ _ _; refine (stop_in ?_)) | refine swp_seq [0, 1, 2, 4, 5, 6, 8, 9, 10, 11, 12, 21, 24, 32, 47, 54, 76] ?_ | refine st1 ?_ | (show CallQ ..; first | refine cF ?_ | refine cQ (fun hcc => (by first | exact cs _)) ?_ | (refine lP ?_; refine lQ (fun hcc m => (by first | exact cs _)) ?_)) | (show Fct ..; refine fctI (fun hf => ?_)) | (show XCallQ ..; first | refine xcF ?_ | refine xQ (fun hcc => (by first | exact cs _)) ?_ | (refine xlP ?_; refine xlQ (fun hcc m => (by first | exact cs _)) ?_)) | (show SWp _ _ _ (.region _ _ true) _ _ _ _; refine xG mixed [152, 160, 200, 265, 322] ?_) | (show SWp _ _ _ (.cond _ _ _) _ _ _ _; first | (refine cB (fun hc => ?_) (fun hc => ?_) <;> first | exact False.elim hc | exact absurd hc Bool.false_ne_true | exact absurd hc.symm Bool.false_ne_true | skip) | refine cU ?_ ?_)))
      refine stop_out ?_
      (repeat' (first | refine swp_seq [0, 1, 2, 4, 5, 6, 8, 9, 10, 11, 12, 21, 24, 32, 47, 54, 76] ?_ | refine st1 ?_ | (show CallQ ..; first | refine cF ?_ | refine cQ (fun hcc => (by fail)) ?_ | (refine lP ?_; refine lQ (fun hcc m => (by fail)) ?_)) | (show Fct ..; refine fctI (fun hf => ?_)) | (show XCallQ ..; first | refine xcF ?_ | refine xQ (fun hcc => (by fail)) ?_ | (refine xlP ?_; refine xlQ (fun hcc m => (by fail)) ?_)) | (show SWp _ _ _ (.region _ _ true) _ _ _ _; refine xG mixed [265] ?_) | (show SWp _ _ _ (.cond _ _ _) _ _ _ _; first | (refine cB (fun hc => ?_) (fun hc => ?_) <;> first | exact False.elim hc | exact absurd hc Bool.false_ne_true | exact absurd hc.symm Bool.false_ne_true | skip) | refine cU ?_ ?_)))
      (refine lN [0, 152, 160, 200, 265] ?_)
      exact ⟨_, by omega, j + 1, k2 + 2, by omega, by omega, rfl, rfl, by rw [← hXs]; rfl⟩
    have hj3 : ¬ ((k2 : Int) < ((l.getD i default).length : Int)) := by omega
    have hj2 : j = (l.getD i default).length / 2 := by omega
    rw [hj2] at hpl ⊢
    generalize partRow (l.getD i default) (newF p i (l.getD i default) R0) ((l.getD i default).length / 2) = NR at *
    have hj4 : ¬ ((k2 : Int) < (NR.length : Int)) := by omega
    (have := Nonempty.intro hj4)
    (repeat' (first | (show SWp _ _ _ (.seq (.region 18 _ _) _) _ _ _ _; refine (stop_in ?_)) | refine swp_seq [0, 1, 2, 4, 5, 6, 8, 9, 10, 11, 12, 21, 24, 32, 47, 54, 76] ?_ | refine st1 ?_ | (show CallQ ..; first | refine cF ?_ | refine cQ (fun hcc => (by fail)) ?_ | (refine lP ?_; refine lQ (fun hcc m => (by fail)) ?_)) | (show Fct ..; refine fctI (fun hf => ?_)) | (show XCallQ ..; first | refine xcF ?_ | refine xQ (fun hcc => (by fail)) ?_ | (refine xlP ?_; refine xlQ (fun hcc m => (by fail)) ?_)) | (show SWp _ _ _ (.region _ _ true) _ _ _ _; refine xG mixed [] ?_) | (show SWp _ _ _ (.cond _ _ _) _ _ _ _; first | (refine cB (fun hc => ?_) (fun hc => ?_) <;> first | exact False.elim hc | exact absurd hc Bool.false_ne_true | exact absurd hc.symm Bool.false_ne_true | skip) | refine cU ?_ ?_)))
    refine stop_out ?_
    refine sF 265 ?_ (x := .elems 1 (NR.map inRow)) (eH := hO2f NR)
    rw [← hnew]
    generalize hO9 : prO i (outsR p l (l.length - i)) = O9 at *
    (repeat' (first | refine swp_seq [0, 1, 2, 4, 5, 6, 8, 9, 10, 11, 12, 21, 24, 32, 47, 54, 76] ?_ | refine st1 ?_ | (show Fct ..; refine fctI (fun hf => ?_)) | (show SWp _ _ _ (.region _ _ true) _ _ _ _; refine xG mixed [] ?_) | (show SWp _ _ _ (.cond _ _ _) _ _ _ _; first | (refine cB (fun hc => ?_) (fun hc => ?_) <;> first | exact False.elim hc | exact absurd hc Bool.false_ne_true | exact absurd hc.symm Bool.false_ne_true | skip) | refine cU ?_ ?_)))
    refine lR (H3 := [(0, .blk 26 (planC p)), (152, .lst 22 1 O9), (160, .blk 27 [.gl 152]), (200, .blk 3 [li ((i : Int) - 1)])]) 330 200 [0, 152, 160, 330] ?qb (hH1 := ?ub) (eH := ?eb)
    case eb =>
      simp only [hkr, rnm, HV.ren, hO9r]
      rfl
    case ub => exact ⟨⟨by omega, by omega⟩, by (exact SD), ⟨by omega, by omega⟩, hO9u _, ⟨by omega, by omega⟩, ⟨⟨by omega, by omega⟩, trivial⟩, ⟨by omega, by omega⟩, by (exact SD), trivial⟩
    exact ⟨_, by omega, i, by omega, rfl, rfl, by rw [hO9]⟩

end Go.Proofs.Ytagalkckebffhaa
