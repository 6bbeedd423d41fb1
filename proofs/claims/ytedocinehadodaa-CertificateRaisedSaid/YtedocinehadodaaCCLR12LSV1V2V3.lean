/-
  Contracts of functions of the program, over the engine.
  No condition.
-/
import Derived.Test.YtedocinehadodaaCC0C1
import Derived.Test.YtedocinehadodaaCC24C35R6R7R8R9R10R11
import Derived.Test.YtedocinehadodaaCQ0P11
import Derived.Test.YtedocinehadodaaCS3S4S5
import Derived.Test.YtedocinehadodaaCC2C3C9
namespace Go.Proofs.Ytedocinehadodaa
open Go.Eng
set_option linter.all false
attribute [local irreducible] DCallsG SWp Fct CallQ XCallQ LCallQ XLCallQ drun xrun

set_option maxHeartbeats 1000000 in
theorem cloneI_f (l : List Int) (m : Nat) (hl : l.length ≤ 1048576) : DCallsG Try.prog 24 [] [ints l] (hget []) m (.gl m) (hget [(m, inLt l)]) := by
  refine contract (n := 8) (rs := [.tmp 2]) (ts := [22]) Try.func24 rfl (by decide) 0 0 [] [] [24] (.gl 24) [(24, inLt l)] (by (exact SD)) (by (exact SD)) ?_
  cases l with
  | nil =>
    (repeat' (first | refine swp_seq [0, 2, 4] ?_ | (first | refine rF (fun hf => ?_) | refine tN ?_ | refine swp_skip ?_ | refine swp_block ?_ | refine swp_scope ?_ | refine blockK_normal ?_ | refine scopeK_normal ?_ | (refine cB (fun hc => ?_) (fun hc => ?_) <;> first | exact False.elim hc | exact absurd hc Bool.false_ne_true | exact absurd hc.symm Bool.false_ne_true | skip) | refine cU ?_ ?_)))
    · (refine sN 2 3 1 ?_)
      (refine sR 32 24 ?_)
      (repeat' (first | refine swp_seq [0, 2, 4] ?_ | (first | refine rF (fun hf => ?_) | refine tN ?_ | refine swp_skip ?_ | refine swp_ret ?_ | refine swp_exit ?_ | refine swp_block ?_ | refine swp_scope ?_ | refine thenK_ret ?_ | refine thenK_exit ?_ | refine blockK_normal ?_ | refine blockK_ret ?_ | refine blockK_here ?_ | refine bX ?_ | refine scopeK_normal ?_ | refine scopeK_ret ?_ | refine scopeK_exit ?_ | refine loopK_ret ?_ | refine loopK_exit ?_ | refine dF mixed ?_ | (refine cB (fun hc => ?_) (fun hc => ?_) <;> first | exact False.elim hc | exact absurd hc Bool.false_ne_true | exact absurd hc.symm Bool.false_ne_true | skip) | refine cU ?_ ?_)))
      exact DVS
    · (repeat' (first | refine swp_seq [0, 2, 4] ?_ | (first | refine rF (fun hf => ?_) | refine tN ?_ | refine swp_skip ?_ | refine swp_ret ?_ | refine swp_exit ?_ | refine swp_block ?_ | refine swp_scope ?_ | refine thenK_ret ?_ | refine thenK_exit ?_ | refine blockK_normal ?_ | refine blockK_ret ?_ | refine blockK_here ?_ | refine bX ?_ | refine scopeK_normal ?_ | refine scopeK_ret ?_ | refine scopeK_exit ?_ | refine loopK_ret ?_ | refine loopK_exit ?_ | refine dF mixed ?_ | (refine cB (fun hc => ?_) (fun hc => ?_) <;> first | exact False.elim hc | exact absurd hc Bool.false_ne_true | exact absurd hc.symm Bool.false_ne_true | skip) | refine cU ?_ ?_)))
      exact DVS
  | cons b l =>
    (repeat' (first | refine swp_seq [0, 2, 4] ?_ | (first | refine rF (fun hf => ?_) | refine tN ?_ | refine swp_skip ?_ | refine swp_ret ?_ | refine swp_exit ?_ | refine swp_block ?_ | refine swp_scope ?_ | refine thenK_ret ?_ | refine thenK_exit ?_ | refine blockK_normal ?_ | refine blockK_ret ?_ | refine blockK_here ?_ | refine bX ?_ | refine scopeK_normal ?_ | refine scopeK_ret ?_ | refine scopeK_exit ?_ | refine loopK_ret ?_ | refine loopK_exit ?_ | refine dF mixed ?_ | (refine cB (fun hc => ?_) (fun hc => ?_) <;> first | exact False.elim hc | exact absurd hc Bool.false_ne_true | exact absurd hc.symm Bool.false_ne_true | skip) | refine cU ?_ ?_)))
    exact DVS
theorem own_265 (O : List (List DV)) (i : Nat) [h : Nonempty (O.getD i [] = [.gl 265])] : O.getD i [] = [.gl 265] := h.elim id
attribute [push_cast] own_265
theorem prO_mp (c : Nat) (rs : List (List Int)) (r : Nat → Nat) : (prO c rs).map (DV.mpL r) = prO c rs := by
  unfold prO; rw [List.map_append, rows_mp, List.map_replicate]; rfl
theorem prO_ok (c i : Nat) (rs : List (List Int)) : ROk ((prO c rs).set i [.gl 265]) where
  uses U h := set_uses (prO_uses _ _ _) h
  mp r h := by rw [List.map_set, prO_mp]; simp only [DV.mpL, DV.mp, h]
  ren a b h := by rw [List.map_set, prO_ren]; simp only [DV.renL, DV.ren, rnm, if_neg h]
set_option maxRecDepth 20000 in
set_option maxHeartbeats 16000000 in
theorem raise_f (p : Plan) (l : List (List Int)) (m : Nat) (hq : planOk p) (hl : rowsOk l) : DCalls Try.prog 33 [planD p, intss l] (hget []) m (.tup [intss (raiseR p l).1, li (raiseR p l).2]) (hget []) := by
  have cc := fun m => check_f p l m hq hl
  have hl1 := hl.1
  by_cases h0 : givenE p l = 0
  case neg =>
    rw [show raiseR p l = ([], givenE p l) from if_pos h0]
    rw [show checkR p l = (false, 0, givenE p l) from if_pos h0] at cc
    generalize givenE p l = E at *
    (have := Nonempty.intro h0)
    refine pureC (n := 78) (rs := [.tmp 4, .tmp 5]) (ts := [39, 29]) Try.func33 rfl (by decide) [] (by (exact SD)) ?_
    (repeat' (first | refine swp_seq [0, 1, 2, 4, 5, 6, 8, 9, 10, 11, 12, 21, 24, 32, 47, 54, 76] ?_ | refine st2 ?_ | (show CallQ ..; first | refine cQ (fun hcc => (by first | exact cc _)) ?_ | (refine lP ?_; refine lQ (fun hcc m => (by first | exact cc _)) ?_)) | (show XCallQ ..; first | refine xQ (fun hcc => (by first | exact cc _)) ?_ | (refine xlP ?_; refine xlQ (fun hcc m => (by first | exact cc _)) ?_)) | (show Fct ..; refine fctI (fun hf => ?_)) | (show SWp _ _ _ (.cond _ _ _) _ _ _ _; first | refine cB (fun hc => ?_) (fun hc => ?_) | refine cU ?_ ?_)))
    exact DVR
  have hR : raiseR p l = if failK p l < l.length then ([], 13) else (outsR p l l.length, 0) := if_neg (fun k => k h0)
  rw [hR]
  clear hR
  by_cases h1 : failK p l < l.length
  · have hC : checkR p l = (false, (failK p l : Int), 0) := by unfold checkR; rw [if_neg (fun k => k h0), if_pos h1]
    rw [hC] at cc
    rw [if_pos h1]
    refine pureC (n := 78) (rs := [.tmp 4, .tmp 5]) (ts := [39, 29]) Try.func33 rfl (by decide) [] (by (exact SD)) ?_
    (repeat' (first | refine swp_seq [0, 1, 2, 4, 5, 6, 8, 9, 10, 11, 12, 21, 24, 32, 47, 54, 76] ?_ | refine st2 ?_ | (show CallQ ..; first | refine cQ (fun hcc => (by first | exact cc _)) ?_ | (refine lP ?_; refine lQ (fun hcc m => (by first | exact cc _)) ?_)) | (show XCallQ ..; first | refine xQ (fun hcc => (by first | exact cc _)) ?_ | (refine xlP ?_; refine xlQ (fun hcc m => (by first | exact cc _)) ?_)) | (show Fct ..; refine fctI (fun hf => ?_)) | (show SWp _ _ _ (.cond _ _ _) _ _ _ _; first | refine cB (fun hc => ?_) (fun hc => ?_) | refine cU ?_ ?_)))
    exact DVR
  rw [check_all h1 h0] at cc
  rw [if_neg h1]
  obtain ⟨hp, hln, hrow⟩ := given_in h0
  have hall := fun k hk => failK_all (k := k) h1 hk
  have hok := outs_ok h0 hall
  have hin := planB_in hp
  refine pureC (n := 78) (rs := [.tmp 4, .tmp 5]) (ts := [39, 29]) Try.func33 rfl (by decide) [152] (by (exact SD)) ?_
  (repeat' (first | refine swp_seq [0, 1, 2, 4, 5, 6, 8, 9, 10, 11, 12, 21, 24, 32, 47, 54, 76] ?_ | refine st2 ?_ | (show CallQ ..; first | refine cQ (fun hcc => (by first | exact cc _)) ?_ | (refine lP ?_; refine lQ (fun hcc m => (by first | exact cc _)) ?_)) | (show XCallQ ..; first | refine xQ (fun hcc => (by first | exact cc _)) ?_ | (refine xlP ?_; refine xlQ (fun hcc m => (by first | exact cc _)) ?_)) | (show Fct ..; refine fctI (fun hf => ?_)) | (show SWp _ _ _ (.cond _ _ _) _ _ _ _; first | refine cB (fun hc => ?_) (fun hc => ?_) | refine cU ?_ ?_)))
  refine loop_swp [1, 2, 9, 10] [0, 152, 160, 200] 201 (fun q A H => ∃ c : Nat, c ≤ l.length ∧ q = c ∧ A = [(1, intss l), (2, .ptr 0 0), (9, .ptr 160 0), (10, .ptr 200 0)] ∧ H = [(0, .blk 26 (planC p)), (152, .lst 22 1 (prO c (outsR p l (l.length - c)))), (160, .blk 39 [.gl 152]), (200, .blk 3 [li ((c : Int) - 1)])]) (by omega) ?_ ?_ ?_
  · rintro q A H ⟨c, g1, g2, rfl, rfl⟩
    exact ⟨by (exact SD), ⟨by omega, by (exact SD), by omega, prO_uses _ _ _, by (exact SD)⟩⟩
  · refine ⟨_, l.length, Nat.le_refl _, rfl, ?_, ?_⟩
    · exact DVR
    · rw [Nat.sub_self]
      unfold prO
      rw [show rows ilRow (outsR p l 0) = [] from rfl, List.append_nil]
      (refine DVQ ?_)
      rfl
  rintro q A H ⟨c, g1, g2, rfl, rfl⟩
  by_cases hc0 : c = 0
  · subst hc0
    have e1 : ((0 : Nat) : Int) - 1 = -1 := by omega
    rw [e1, Nat.sub_zero, show prO 0 (outsR p l l.length) = rows ilRow (outsR p l l.length) from List.nil_append _]
    (repeat' (first | refine swp_seq [0, 1, 2, 4, 5, 6, 8, 9, 10, 11, 12, 21, 24, 32, 47, 54, 76] ?_ | refine st2 ?_ | (show Fct ..; refine fctI (fun hf => ?_)) | (show SWp _ _ _ (.cond _ _ _) _ _ _ _; first | refine cB (fun hc => ?_) (fun hc => ?_) | refine cU ?_ ?_)))
    exact DVR
  obtain ⟨i, rfl⟩ : ∃ i, c = i + 1 := ⟨c - 1, by omega⟩
  have e1 : ((i + 1 : Nat) : Int) - 1 = (i : Int) := by omega
  rw [e1]
  have hil : i < l.length := by omega
  (have := Nonempty.intro hil)
  generalize hO1 : prO (i + 1) (outsR p l (l.length - (i + 1))) = O1
  have hO1l : O1.length = l.length := by rw [← hO1, prO_len, outsR_len]; omega
  have hi3 : (i : Int) < (O1.length : Int) := by omega
  (have := Nonempty.intro hi3)
  have hi0 : (0 : Int) ≤ (i : Int) := by omega
  (have := Nonempty.intro hi0)
  obtain ⟨hr1, hr8⟩ := hrow i hil
  have cl := fun m => cloneI_f (l.getD i default) m (by omega)
  have hrsl : (outsR p l (l.length - (i + 1))).length = l.length - (i + 1) := outsR_len _ _ _
  have hnew : outsR p l (l.length - i) = newRow p l i (outsR p l (l.length - (i + 1))) :: outsR p l (l.length - (i + 1)) := by
    have e2 : l.length - i = (l.length - (i + 1)) + 1 := by omega
    rw [e2, outsR]
    congr 2
    omega
  have hO1n : O1.getD i [] = nilRow := by rw [← hO1]; exact prO_nil _ _
  have hset : O1.set i (DV.gl 265 :: List.drop 1 (O1.getD i [])) = O1.set i [.gl 265] := by rw [hO1n]; rfl
  have hO1s : ∀ r : List Int, O1.set i [.p (.dat 1 (r.map inRow))] = prO i (r :: outsR p l (l.length - (i + 1))) := fun r => by rw [← hO1]; exact prO_set _ _ _
  have hO1f : ∀ o x, O1.map (DV.frzL o x) = O1 := fun o x => by rw [← hO1]; exact prO_frz _ _ _ _
  have hO2f : ∀ r : List Int, hfrzL 265 (.elems 1 (r.map inRow)) [(0, .blk 26 (planC p)), (152, .lst 22 1 (O1.set i [.gl 265])), (160, .blk 39 [.gl 152]), (200, .blk 3 [li i]), (265, inLt r)] = [(0, .blk 26 (planC p)), (152, .lst 22 1 (prO i (r :: outsR p l (l.length - (i + 1))))), (160, .blk 39 [.gl 152]), (200, .blk 3 [li i])] := fun r => by
    rw [← hO1s]
    simp only [hfrzL, HV.frz, List.map_set, hO1f]
    rfl
  have hO2f' : ∀ r : List Int, hfrzL 265 (.elems 1 (r.map inRow)) [(265, inLt r), (0, .blk 26 (planC p)), (152, .lst 22 1 (O1.set i [.gl 265])), (160, .blk 39 [.gl 152]), (200, .blk 3 [li i])] = [(0, .blk 26 (planC p)), (152, .lst 22 1 (prO i (r :: outsR p l (l.length - (i + 1))))), (160, .blk 39 [.gl 152]), (200, .blk 3 [li i])] := fun r => by
    rw [← hO1s]
    simp only [hfrzL, HV.frz, List.map_set, hO1f]
    rfl
  have hO9r : ∀ a b, (prO i (outsR p l (l.length - i))).map (DV.renL a b) = prO i (outsR p l (l.length - i)) := fun a b => prO_ren _ _ _ _
  have hO9u : ∀ U, DV.usesL U (prO i (outsR p l (l.length - i))).flatten := fun U => prO_uses _ _ _
  (repeat' (first | (show SWp _ _ _ (.seq (.seq (.region 11 _ _) _) _) _ _ _ _; refine (stop_in ?_)) | refine swp_seq [0, 1, 2, 4, 5, 6, 8, 9, 10, 11, 12, 21, 24, 32, 47, 54, 76] ?_ | (show SWp _ _ _ (.region _ _ true) _ _ _ _; refine xG mixed [152, 1000006] ?_) | refine st2 ?_ | (show CallQ ..; first | refine cQ (fun hcc => (by first | exact cl _)) ?_ | (refine lP ?_; refine lQ (fun hcc m => (by first | exact cl _)) ?_)) | (show XCallQ ..; first | refine xQ (fun hcc => (by first | exact cl _)) ?_ | (refine xlP ?_; refine xlQ (fun hcc m => (by first | exact cl _)) ?_)) | (show Fct ..; refine fctI (fun hf => ?_)) | (show SWp _ _ _ (.cond _ _ _) _ _ _ _; first | refine cB (fun hc => ?_) (fun hc => ?_) | refine cU ?_ ?_)))
  refine stop_out ?_
  rw [hset]
  by_cases hlast : (i : Int) = (l.length : Int) - 1
  · (have := Nonempty.intro hlast)
    have hNR : newRow p l i (outsR p l (l.length - (i + 1))) = l.getD i default := by unfold newRow; rw [if_pos (by omega)]
    rw [hNR] at hnew
    (repeat' (first | (show SWp _ _ _ (.seq (.region 18 _ _) _) _ _ _ _; refine (stop_in ?_)) | refine swp_seq [0, 1, 2, 4, 5, 6, 8, 9, 10, 11, 12, 21, 24, 32, 47, 54, 76] ?_ | (show SWp _ _ _ (.region _ _ true) _ _ _ _; refine xG mixed [] ?_) | refine st2 ?_ | (show CallQ ..; first | refine cQ (fun hcc => (by fail)) ?_ | (refine lP ?_; refine lQ (fun hcc m => (by fail)) ?_)) | (show XCallQ ..; first | refine xQ (fun hcc => (by fail)) ?_ | (refine xlP ?_; refine xlQ (fun hcc m => (by fail)) ?_)) | (show Fct ..; refine fctI (fun hf => ?_)) | (show SWp _ _ _ (.cond _ _ _) _ _ _ _; first | refine cB (fun hc => ?_) (fun hc => ?_) | refine cU ?_ ?_)))
    refine stop_out ?_
    refine sF 265 ?_ (x := .elems 1 ((l.getD i default).map inRow)) (eH := hO2f' (l.getD i default))
    rw [← hnew]
    generalize hO9 : prO i (outsR p l (l.length - i)) = O9 at *
    (repeat' (first | refine swp_seq [0, 1, 2, 4, 5, 6, 8, 9, 10, 11, 12, 21, 24, 32, 47, 54, 76] ?_ | refine st2 ?_ | (show Fct ..; refine fctI (fun hf => ?_)) | (show SWp _ _ _ (.cond _ _ _) _ _ _ _; first | refine cB (fun hc => ?_) (fun hc => ?_) | refine cU ?_ ?_)))
    refine lR (H3 := [(0, .blk 26 (planC p)), (152, .lst 22 1 O9), (160, .blk 39 [.gl 152]), (200, .blk 3 [li ((i : Int) - 1)])]) 337 200 [0, 152, 160, 337] ?qa (hH1 := ?ua) (eH := ?ea)
    case ea =>
      simp only [hkr, rnm, HV.ren, hO9r]
      rfl
    case ua => exact ⟨⟨by omega, by omega⟩, by (exact SD), ⟨by omega, by omega⟩, hO9u _, ⟨by omega, by omega⟩, ⟨⟨by omega, by omega⟩, trivial⟩, ⟨by omega, by omega⟩, by (exact SD), trivial⟩
    exact ⟨_, by omega, i, by omega, rfl, rfl, by rw [hO9]⟩
  · (have := Nonempty.intro hlast)
    have hi1 : i + 1 < l.length := by omega
    obtain ⟨he, hval, hsort⟩ := rowB_in hr1
    have hoki : ((outsR p l (l.length - (i + 1))).getD 0 default).length = (l.getD (i + 1) default).length ∧ (∀ j, j < ((outsR p l (l.length - (i + 1))).getD 0 default).length / 2 → ((outsR p l (l.length - (i + 1))).getD 0 default).getD (2 * j) default = (l.getD (i + 1) default).getD (2 * j) default) ∧ ∀ a, -1 ≤ (atR ((outsR p l (l.length - (i + 1))).getD 0 default) a).1 ∧ (atR ((outsR p l (l.length - (i + 1))).getD 0 default) a).1 ≤ 1152921504606846976 := by
      have e2 : l.length - (i + 1) = (l.length - (i + 2)) + 1 := by omega
      have h200 := hin.2.2.2.1
      obtain ⟨k1, k2, k3⟩ := hok (l.length - (i + 2)) (by omega) _ rfl
      rw [e2]
      rw [show l.length - 1 - (l.length - (i + 2)) = i + 1 by omega] at k1 k2
      refine ⟨k1, k2, fun a => ?_⟩
      have := atR_bnd (B := ((l.length - (i + 2) : Nat) : Int) * 4398046511104000) (by omega) k3 a
      omega
    have hK : ROk (O1.set i [.gl 265]) := by rw [← hO1]; exact prO_ok _ _ _
    have hO2l : (O1.set i [.gl 265]).length = l.length := by rw [List.length_set]; exact hO1l
    have hO2i : (O1.set i [.gl 265]).getD i [] = [.gl 265] := getD_set_eq2 _ _ _ (by omega)
    have hO2x : (O1.set i [.gl 265]).getD (i + 1) [] = [.p (.dat 1 (((outsR p l (l.length - (i + 1))).getD 0 default).map inRow))] := by
      rw [getD_set_ne2 _ _ _ _ (by omega), ← hO1]; exact prO_row _ _ (by omega)
    have hO2u : DV.usesL (fun i => i < 266) (O1.set i [.gl 265]).flatten := hK.uses _ (by omega)
    have hnewF : newRow p l i (outsR p l (l.length - (i + 1))) = partRow (l.getD i default) (newF p i (l.getD i default) ((outsR p l (l.length - (i + 1))).getD 0 default)) ((l.getD i default).length / 2) := by unfold newRow; rw [if_neg (by omega)]
    rw [hnewF] at hnew
    have hxr := rowAt_eq hO2x
    rw [← hxr] at hoki hO2x hnew
    clear hnewF hxr
    generalize hO2 : O1.set i [.gl 265] = O2 at *
    have hi4 : (i : Int) < (O2.length : Int) := by omega
    (have := Nonempty.intro hi4)
    (have := Nonempty.intro hO2i)
    obtain ⟨hr1', hr8'⟩ := hrow (i + 1) hi1
    obtain ⟨he', hval', hsort'⟩ := rowB_in hr1'
    generalize hR0 : rowAt O2 (i + 1) = R0 at *
    have hs0 : ∀ a b, a < b → b < R0.length / 2 → R0.getD (2 * a) default < R0.getD (2 * b) default := fun a b hab hb => by
      rw [hoki.2.1 a (by omega), hoki.2.1 b hb]
      exact hsort' a b hab (by omega)
    (repeat' (first | refine swp_seq [0, 1, 2, 4, 5, 6, 8, 9, 10, 11, 12, 21, 24, 32, 47, 54, 76] ?_ | refine st2 ?_ | (show Fct ..; refine fctI (fun hf => ?_)) | (show SWp _ _ _ (.cond _ _ _) _ _ _ _; first | refine cB (fun hc => ?_) (fun hc => ?_) | refine cU ?_ ?_)))
    refine loop_swp [1, 2, 9, 10, 11] [0, 152, 160, 200, 265] 266 (fun q A H => ∃ j k2 : Nat, k2 = 2 * j ∧ k2 ≤ (l.getD i default).length ∧ q = (l.getD i default).length - k2 ∧ A = [(1, intss l), (2, .ptr 0 0), (9, .ptr 160 0), (10, .ptr 200 0), (11, li k2)] ∧ H = [(0, .blk 26 (planC p)), (152, .lst 22 1 O2), (160, .blk 39 [.gl 152]), (200, .blk 3 [li i]), (265, inLt (partRow (l.getD i default) (newF p i (l.getD i default) R0) j))]) (by omega) ?_ ?_ ?_
    · rintro q A H ⟨j, k2, k1, f1, f2, rfl, rfl⟩
      exact ⟨by (exact SD), ⟨by omega, by (exact SD), by omega, hO2u, by (exact SD)⟩⟩
    · refine ⟨_, 0, 0, rfl, by omega, rfl, ?_, ?_⟩
      · exact DVR
      · rw [partRow_0]
        exact DVR
    rintro q A H ⟨j, k2, k1, f1, f2, rfl, rfl⟩
    have hpl := partRow_len (l.getD i default) (newF p i (l.getD i default) R0) j
    by_cases hj : k2 < (l.getD i default).length
    · have hj3 : (k2 : Int) < ((l.getD i default).length : Int) := by omega
      have hj5 : k2 + 1 < (l.getD i default).length := by omega
      have hXv := partRow_get (l.getD i default) (newF p i (l.getD i default) R0) j (k := k2) (by omega)
      rw [if_neg (by omega)] at hXv
      have hXs := partRow_set (l.getD i default) (newF p i (l.getD i default) R0) j (by omega)
      rw [← k1] at hXs
      generalize partRow (l.getD i default) (newF p i (l.getD i default) R0) j = X at *
      have hx1 : (k2 : Int) < (X.length : Int) := by omega
      have hx2 : k2 < X.length := by omega
      have hx3 : k2 + 1 < X.length := by omega
      (have := Nonempty.intro hx1)
      (have := Nonempty.intro hx2)
      (have := Nonempty.intro hx3)
      have hv0 := (hval j (by omega)).1
      rw [← k1] at hv0
      have hxf : O2.getD (i + 1) [] = [.p (.dat 1 ((rowAt O2 (i + 1)).map inRow))] := by rw [hR0]; exact hO2x
      have cs := fun m => rsteps_f p O2 X i (X.getD k2 default) m hp (by omega) (by rw [hXv]; omega) (by omega) (by omega) hK hxf (by rw [hR0]; omega) (by rw [hR0]; omega) (by rw [hR0]; exact hs0) (by rw [hR0]; exact hoki.2.2)
      rw [hR0] at cs
      have hV : newF p i (l.getD i default) R0 (k2 + 1) = raisedV p i (X.getD k2 default) R0 := by rw [hXv]; rfl
      rw [hV] at hXs
      generalize raisedV p i (X.getD k2 default) R0 = V at *
      (repeat' (first | (show SWp _ _ _ (.region 17 _ _) _ _ _ _; refine (stop_in ?_)) | refine swp_seq [0, 1, 2, 4, 5, 6, 8, 9, 10, 11, 12, 21, 24, 32, 47, 54, 76] ?_ | (show SWp _ _ _ (.region _ _ true) _ _ _ _; refine xG mixed [152, 160, 200, 265, 322] ?_) | refine st2 ?_ | (show CallQ ..; first | refine cQ (fun hcc => (by first | exact cs _)) ?_ | (refine lP ?_; refine lQ (fun hcc m => (by first | exact cs _)) ?_)) | (show XCallQ ..; first | refine xQ (fun hcc => (by first | exact cs _)) ?_ | (refine xlP ?_; refine xlQ (fun hcc m => (by first | exact cs _)) ?_)) | (show Fct ..; refine fctI (fun hf => ?_)) | (show SWp _ _ _ (.cond _ _ _) _ _ _ _; first | refine cB (fun hc => ?_) (fun hc => ?_) | refine cU ?_ ?_)))
      refine stop_out ?_
      (repeat' (first | refine swp_seq [0, 1, 2, 4, 5, 6, 8, 9, 10, 11, 12, 21, 24, 32, 47, 54, 76] ?_ | (show SWp _ _ _ (.region _ _ true) _ _ _ _; refine xG mixed [265] ?_) | refine st2 ?_ | (show Fct ..; refine fctI (fun hf => ?_)) | (show SWp _ _ _ (.cond _ _ _) _ _ _ _; first | refine cB (fun hc => ?_) (fun hc => ?_) | refine cU ?_ ?_)))
      (refine lN [0, 152, 160, 200, 265] ?_)
      exact ⟨_, by omega, j + 1, k2 + 2, by omega, by omega, rfl, rfl, by rw [← hXs]; rfl⟩
    have hj3 : ¬ ((k2 : Int) < ((l.getD i default).length : Int)) := by omega
    have hj2 : j = (l.getD i default).length / 2 := by omega
    rw [hj2] at hpl ⊢
    generalize partRow (l.getD i default) (newF p i (l.getD i default) R0) ((l.getD i default).length / 2) = NR at *
    have hj4 : ¬ ((k2 : Int) < (NR.length : Int)) := by omega
    (have := Nonempty.intro hj4)
    (repeat' (first | (show SWp _ _ _ (.seq (.region 18 _ _) _) _ _ _ _; refine (stop_in ?_)) | refine swp_seq [0, 1, 2, 4, 5, 6, 8, 9, 10, 11, 12, 21, 24, 32, 47, 54, 76] ?_ | (show SWp _ _ _ (.region _ _ true) _ _ _ _; refine xG mixed [] ?_) | refine st2 ?_ | (show CallQ ..; first | refine cQ (fun hcc => (by fail)) ?_ | (refine lP ?_; refine lQ (fun hcc m => (by fail)) ?_)) | (show XCallQ ..; first | refine xQ (fun hcc => (by fail)) ?_ | (refine xlP ?_; refine xlQ (fun hcc m => (by fail)) ?_)) | (show Fct ..; refine fctI (fun hf => ?_)) | (show SWp _ _ _ (.cond _ _ _) _ _ _ _; first | refine cB (fun hc => ?_) (fun hc => ?_) | refine cU ?_ ?_)))
    refine stop_out ?_
    refine sF 265 ?_ (x := .elems 1 (NR.map inRow)) (eH := hO2f NR)
    rw [← hnew]
    generalize hO9 : prO i (outsR p l (l.length - i)) = O9 at *
    (repeat' (first | refine swp_seq [0, 1, 2, 4, 5, 6, 8, 9, 10, 11, 12, 21, 24, 32, 47, 54, 76] ?_ | refine st2 ?_ | (show Fct ..; refine fctI (fun hf => ?_)) | (show SWp _ _ _ (.cond _ _ _) _ _ _ _; first | refine cB (fun hc => ?_) (fun hc => ?_) | refine cU ?_ ?_)))
    refine lR (H3 := [(0, .blk 26 (planC p)), (152, .lst 22 1 O9), (160, .blk 39 [.gl 152]), (200, .blk 3 [li ((i : Int) - 1)])]) 330 200 [0, 152, 160, 330] ?qb (hH1 := ?ub) (eH := ?eb)
    case eb =>
      simp only [hkr, rnm, HV.ren, hO9r]
      rfl
    case ub => exact ⟨⟨by omega, by omega⟩, by (exact SD), ⟨by omega, by omega⟩, hO9u _, ⟨by omega, by omega⟩, ⟨⟨by omega, by omega⟩, trivial⟩, ⟨by omega, by omega⟩, by (exact SD), trivial⟩
    exact ⟨_, by omega, i, by omega, rfl, rfl, by rw [hO9]⟩
def lsI : Option (Nat × Int) → Int
  | none => -1
  | some a => a.2
theorem vO_ls (p : Plan) {t : Nat} (ht : t < p.inf.length) (z : Int) : (vO p (p.inf.length - t) z).getD (-1) = lsI (bestO p t z (vO p (p.inf.length - (t + 1)))) := by
  rw [show p.inf.length - t = (p.inf.length - (t + 1)) + 1 by omega, vO, show p.inf.length - (p.inf.length - (t + 1) + 1) = t by omega]
  cases bestO p t z (vO p (p.inf.length - (t + 1))) <;> rfl
theorem atR_has {l : List Int} {v : Int} {j : Nat} (hj : j < l.length / 2) (h : l.getD (2 * j) default = v) : (atR l v).2 = true := by
  cases hb : (atR l v).2 with
  | true => rfl
  | false =>
    have hn : ∀ i, i < l.length / 2 → ¬ l.getD (2 * i) default = v := by
      have key : ∀ n a, (atFrom l v n a).2 = false → ∀ i, a ≤ i → i < a + n → ¬ l.getD (2 * i) default = v := by
        intro n
        induction n with
        | zero => intro a _ i h1 h2; omega
        | succ n ih =>
          intro a ha i h1 h2
          rw [atFrom] at ha
          by_cases e : l.getD (2 * a) default = v
          · rw [if_pos e] at ha; cases ha
          · rw [if_neg e] at ha
            by_cases e2 : i = a
            · rw [e2]; exact e
            · exact ih (a + 1) ha i (by omega) (by omega)
      exact fun i hi => key _ 0 hb i (by omega) (by omega)
    exact absurd h (hn j hj)
structure exC (p : Plan) (R : List (List Int)) : Prop where
  pl : planB p = true
  len : R.length = p.inf.length + 1
  row : ∀ k, k < R.length → rowB p (R.getD k default) = true ∧ (R.getD k default).length ≤ 8000
  start : (atR (R.getD 0 default) p.start).2 = true
  step : ∀ k, k < p.inf.length → ∀ j, j < (R.getD k default).length / 2 → ∀ i, i < p.rel.length → possB p k ((R.getD k default).getD (2 * j) default) (p.rel.getD i default) = true → (atR (R.getD (k + 1) default) (aftI p k ((R.getD k default).getD (2 * j) default) (p.rel.getD i default))).2 = true
  val : ∀ k, k < R.length → ∀ j, j < (R.getD k default).length / 2 → (R.getD k default).getD (2 * j + 1) default = (vO p (p.inf.length - k) ((R.getD k default).getD (2 * j) default)).getD (-1)
theorem exC.at {p : Plan} {R : List (List Int)} (h : exC p R) {k : Nat} (hk : k < R.length) {a : Int} (ha : (atR (R.getD k default) a).2 = true) : (atR (R.getD k default) a).1 = (vO p (p.inf.length - k) a).getD (-1) := by
  obtain ⟨j, h1, h2, h3⟩ := atR_some ha
  rw [h3, ← h2]
  exact h.val k hk j h1
theorem exC.nn {p : Plan} {R : List (List Int)} (h : exC p R) {k : Nat} (hk : k ≤ p.inf.length) {v c : Int} (hv : p.res ≤ v ∧ v ≤ p.cap) (hc : vO p (p.inf.length - k) v = some c) : 0 ≤ c := (vO_in h.pl _ (by omega) v hv c hc).1
theorem exC.given {p : Plan} {R : List (List Int)} (h : exC p R) : givenE p R = 0 := by
  have hmem : ∀ r, r ∈ R → ∃ k, k < R.length ∧ R.getD k default = r := fun r hr => mem_getD hr
  unfold givenE
  rw [if_neg (by rw [h.pl]; decide), if_neg, if_neg]
  · intro q
    have : shapedB p R = true := by
      unfold shapedB
      simp only [Bool.and_eq_true, decide_eq_true_eq, List.all_eq_true]
      refine ⟨h.len, fun r hr => ?_⟩
      obtain ⟨k, hk, rfl⟩ := hmem r hr
      exact (h.row k hk).1
    rw [this] at q; cases q
  · intro q
    obtain ⟨r, hr, hb⟩ := List.any_eq_true.1 q
    obtain ⟨k, hk, rfl⟩ := hmem r hr
    have := (h.row k hk).2
    unfold bigB at hb
    have := of_decide_eq_true hb
    omega
theorem exC.holds {p : Plan} {R : List (List Int)} (h : exC p R) {k : Nat} (hk : k < R.length) : holdsB p R k = true := by
  have hlen := h.len
  unfold holdsB
  simp only [Bool.and_eq_true, Bool.or_eq_true, Bool.not_eq_true', decide_eq_false_iff_not, List.all_eq_true, List.mem_range]
  refine ⟨?_, fun j hj => ?_⟩
  · by_cases e : k = 0
    · subst e; exact .inr h.start
    · exact .inl e
  · have hval := h.val k hk j hj
    by_cases e : k + 1 = R.length
    · rw [if_pos e, hval, show p.inf.length - k = 0 by omega]; rfl
    · rw [if_neg e, List.all_eq_true]
      intro r hr
      obtain ⟨i, hi, rfl⟩ := mem_getD (d := default) hr
      unfold stB
      cases hpo : possB p k ((R.getD k default).getD (2 * j) default) (p.rel.getD i default)
      · rfl
      · have hs := h.step k (by omega) j hj i hi hpo
        have ha := h.at (by omega : k + 1 < R.length) hs
        rw [Bool.not_true, Bool.false_or]
        unfold relB
        rw [hs, ha, hval, Bool.true_and]
        cases hy : vO p (p.inf.length - (k + 1)) (aftI p k ((R.getD k default).getD (2 * j) default) (p.rel.getD i default)) with
        | none => rfl
        | some y =>
          obtain ⟨j2, c2, h1, h2, _⟩ := bestU_le p.rel.length i y hi hpo hy
          have h1 : bestO p k ((R.getD k default).getD (2 * j) default) (vO p (p.inf.length - (k + 1))) = some (j2, c2) := h1
          rw [vO_ls p (by omega : k < p.inf.length), h1]
          have hz := ((rowB_in (h.row k hk).1).2.1 j hj).1
          have hc0 := h.nn (k := k) (by omega) hz (c := c2) (by rw [show p.inf.length - k = (p.inf.length - (k + 1)) + 1 by omega, vO, show p.inf.length - (p.inf.length - (k + 1) + 1) = k by omega, h1]; rfl)
          show (decide (y = -1) || (!decide (c2 = -1) && decide (c2 ≤ costI p k ((R.getD k default).getD (2 * j) default) (p.rel.getD i default) + y))) = true
          simp only [Bool.or_eq_true, Bool.and_eq_true, Bool.not_eq_true', decide_eq_true_eq, decide_eq_false_iff_not]
          omega
theorem exC.fail {p : Plan} {R : List (List Int)} (h : exC p R) : ¬ failK p R < R.length := by
  intro q
  unfold failK at q
  have := List.findIdx_getElem (xs := List.range R.length) (p := fun k => !holdsB p R k) (w := by rw [List.length_range]; exact q)
  rw [List.getElem_range, h.holds q] at this
  cases this
theorem exC.check {p : Plan} {R : List (List Int)} (h : exC p R) : checkR p R = (true, 0, 0) := by
  unfold checkR
  rw [if_neg (fun q => q h.given), if_neg h.fail]
theorem exC.bound {p : Plan} {R : List (List Int)} (h : exC p R) : boundR p R = match vO p p.inf.length p.start with
    | none => (0, 12)
    | some c => (c, 0) := by
  have hlen := h.len
  have ha := h.at (by omega : 0 < R.length) h.start
  rw [Nat.sub_zero] at ha
  unfold boundR
  rw [if_neg (fun q => q h.given), if_neg h.fail, ha]
  cases hv : vO p p.inf.length p.start with
  | none => rfl
  | some c =>
    have := (vO_in h.pl _ (Nat.le_refl _) p.start (planB_in h.pl).2.2.1 c hv).1
    exact if_neg (by show ¬ c = -1; omega)
theorem rz_ls {p : Plan} {k : Nat} {v : Int} {R : List Int} {f : Int → Option Int} (hR : ∀ i, i < p.rel.length → possB p k v (p.rel.getD i default) = true → (atR R (aftI p k v (p.rel.getD i default))).1 = (f (aftI p k v (p.rel.getD i default))).getD (-1))
    (hf : ∀ i c, i < p.rel.length → possB p k v (p.rel.getD i default) = true → f (aftI p k v (p.rel.getD i default)) = some c → 0 ≤ c) (hc : ∀ i, i < p.rel.length → 0 ≤ costI p k v (p.rel.getD i default)) : ∀ i, i ≤ p.rel.length → (p.rel.take i).foldl (rzStep p k v R) (-1) = lsI (bestU p k v f i)
  | 0, _ => rfl
  | i + 1, hi => by
    rw [foldl_snoc _ _ _ (by omega : i < p.rel.length), rz_ls hR hf hc i (by omega), bestU_next]
    have hs := fun a b => @bestU_some p k v f i a b
    unfold rzStep bestF
    cases hpo : possB p k v (p.rel.getD i default)
    · rfl
    · rw [if_pos rfl, if_pos rfl, hR i (by omega) hpo]
      have hfi := fun c => hf i c (by omega) hpo
      cases hfw : f (aftI p k v (p.rel.getD i default)) with
      | none => exact if_pos rfl
      | some x =>
        have hx := hfi x hfw
        have e1 : ¬ ((some x).getD (-1) : Int) = -1 := by show ¬ x = -1; omega
        rw [if_neg e1]
        cases hb : bestU p k v f i with
        | none => exact if_pos (.inl rfl)
        | some a =>
          obtain ⟨j, b⟩ := a
          obtain ⟨q1, q2, y, q3, q4⟩ := hs j b hb
          have hy := hf j y (by omega) q2 q3
          have hcj := hc j (by omega)
          show (if b = -1 ∨ costI p k v (p.rel.getD i default) + x < b then costI p k v (p.rel.getD i default) + x else b) = lsI (if costI p k v (p.rel.getD i default) + x < b then some (i, costI p k v (p.rel.getD i default) + x) else some (j, b))
          by_cases h : costI p k v (p.rel.getD i default) + x < b
          · rw [if_pos (.inr h), if_pos h]; rfl
          · rw [if_neg (by omega), if_neg h]; rfl
theorem outs_get {p : Plan} {l : List (List Int)} : ∀ j D, j < D → (outsR p l D).getD j default = (outsR p l (D - j)).getD 0 default
  | 0, D, _ => by rw [Nat.sub_zero]
  | j + 1, 0, h => by omega
  | j + 1, D + 1, h => by
    rw [outsR, show D + 1 - (j + 1) = D - j by omega, ← outs_get j D (by omega)]; rfl
theorem outs_head {p : Plan} {l : List (List Int)} (d : Nat) : (outsR p l (d + 1)).getD 0 default = newRow p l (l.length - 1 - d) (outsR p l d) := rfl
theorem outs_at {p : Plan} {l : List (List Int)} {k : Nat} (hk : k < l.length) : (outsR p l l.length).getD k default = newRow p l k (outsR p l (l.length - 1 - k)) := by
  rw [outs_get k l.length hk, show l.length - k = (l.length - 1 - k) + 1 by omega, outs_head, show l.length - 1 - (l.length - 1 - k) = k by omega]
theorem outs_at2 {p : Plan} {l : List (List Int)} {k : Nat} (hk : k + 1 < l.length) : (outsR p l (l.length - 1 - k)).getD 0 default = (outsR p l l.length).getD (k + 1) default := by
  rw [outs_at hk, show l.length - 1 - k = (l.length - 1 - (k + 1)) + 1 by omega, outs_head, show l.length - 1 - (l.length - 1 - (k + 1)) = k + 1 by omega]
theorem atR_vol {a b : List Int} (hl : a.length = b.length) (hv : ∀ j, j < a.length / 2 → a.getD (2 * j) default = b.getD (2 * j) default) (z : Int) : (atR a z).2 = (atR b z).2 := by
  rw [Bool.eq_iff_iff]
  constructor
  · intro h
    obtain ⟨j, h1, h2, _⟩ := atR_some h
    exact atR_has (j := j) (by omega) (by rw [← hv j h1]; exact h2)
  · intro h
    obtain ⟨j, h1, h2, _⟩ := atR_some h
    exact atR_has (j := j) (by omega) (by rw [hv j (by omega)]; exact h2)
section
variable {p : Plan} {l : List (List Int)}
theorem hold_step (hall : ∀ k, k < l.length → holdsB p l k = true) {k : Nat} (hk : k + 1 < l.length) {j : Nat} (hj : j < (l.getD k default).length / 2) {i : Nat} (hi : i < p.rel.length) (hpo : possB p k ((l.getD k default).getD (2 * j) default) (p.rel.getD i default) = true) :
    relB ((l.getD k default).getD (2 * j + 1) default) (atR (l.getD (k + 1) default) (aftI p k ((l.getD k default).getD (2 * j) default) (p.rel.getD i default))) (costI p k ((l.getD k default).getD (2 * j) default) (p.rel.getD i default)) = true := by
  have h1 := hall k (by omega)
  unfold holdsB at h1
  simp only [Bool.and_eq_true, List.all_eq_true, List.mem_range, if_neg (by omega : ¬ k + 1 = l.length)] at h1
  have := h1.2 j hj (p.rel.getD i default) (getD_mem hi)
  unfold stB at this
  rw [hpo] at this
  simpa using this
theorem hold_last (hall : ∀ k, k < l.length → holdsB p l k = true) {k : Nat} (hk : k + 1 = l.length) {j : Nat} (hj : j < (l.getD k default).length / 2) : (l.getD k default).getD (2 * j + 1) default = 0 := by
  have h1 := hall k (by omega)
  unfold holdsB at h1
  simp only [Bool.and_eq_true, List.all_eq_true, List.mem_range, if_pos hk] at h1
  exact of_decide_eq_true (h1.2 j hj)
theorem outs_len (k : Nat) (hk : k < l.length) : ((outsR p l l.length).getD k default).length = (l.getD k default).length := by rw [outs_at hk, newRow_len]
theorem outs_vol {k : Nat} (hk : k < l.length) {j : Nat} (hj : 2 * j < (l.getD k default).length) : ((outsR p l l.length).getD k default).getD (2 * j) default = (l.getD k default).getD (2 * j) default := by rw [outs_at hk]; exact newRow_vol p l k _ hj
theorem outs_val (hg : givenE p l = 0) (hall : ∀ k, k < l.length → holdsB p l k = true) : ∀ d, d < l.length → ∀ j, j < (l.getD (l.length - 1 - d) default).length / 2 → ((outsR p l l.length).getD (l.length - 1 - d) default).getD (2 * j + 1) default = (vO p d ((l.getD (l.length - 1 - d) default).getD (2 * j) default)).getD (-1)
  | 0, hd, j, hj => by
    rw [outs_at (by omega)]
    unfold newRow
    rw [if_pos (by omega), hold_last hall (by omega) hj]; rfl
  | d + 1, hd, j, hj => by
    obtain ⟨hp, hln, hrow⟩ := given_in hg
    have ih := outs_val hg hall d (by omega)
    obtain ⟨k, hk⟩ : ∃ k, l.length - 1 - (d + 1) = k := ⟨_, rfl⟩
    have hk1 : l.length - 1 - d = k + 1 := by omega
    rw [hk1] at ih
    rw [hk] at hj ⊢
    have hkn : k < p.inf.length := by omega
    have hin := planB_in hp
    have hz := ((rowB_in (hrow k (by omega)).1).2.1 j hj).1
    rw [outs_at (by omega)]
    unfold newRow
    rw [if_neg (by omega), partRow_get _ _ _ (by omega), if_pos ⟨by omega, by omega⟩]
    unfold newF
    rw [show 2 * j + 1 - 1 = 2 * j by omega, outs_at2 (by omega)]
    generalize hv : (l.getD k default).getD (2 * j) default = v at *
    unfold raisedV
    have hR : ∀ i, i < p.rel.length → possB p k v (p.rel.getD i default) = true → (atR ((outsR p l l.length).getD (k + 1) default) (aftI p k v (p.rel.getD i default))).1 = (vO p d (aftI p k v (p.rel.getD i default))).getD (-1) := fun i hi hpo => by
      have h2 := hold_step hall (k := k) (by omega) hj hi (by rw [hv]; exact hpo)
      rw [hv] at h2
      unfold relB at h2
      simp only [Bool.and_eq_true] at h2
      have h3 : (atR ((outsR p l l.length).getD (k + 1) default) (aftI p k v (p.rel.getD i default))).2 = true := by
        rw [atR_vol (outs_len (k + 1) (by omega)) (fun j2 hj2 => outs_vol (by omega) (by rw [outs_len (k + 1) (by omega)] at hj2; omega))]
        exact h2.1
      obtain ⟨j2, q1, q2, q3⟩ := atR_some h3
      rw [outs_len (k + 1) (by omega)] at q1
      rw [outs_vol (by omega) (by omega)] at q2
      rw [q3, ← q2]
      exact ih j2 q1
    have := rz_ls (f := vO p d) hR (fun i c hi hpo hc => (vO_in hp d (by omega) _ (aft_in hp hpo) c hc).1) (fun i hi => (cost_in hp hkn (v := v) (by omega) hi).2.2.2.1) p.rel.length (Nat.le_refl _)
    rw [List.take_length] at this
    rw [this]
    have e := vO_ls p hkn v
    rw [show p.inf.length - k = d + 1 by omega, show p.inf.length - (k + 1) = d by omega] at e
    exact e.symm
theorem raise_exC (hg : givenE p l = 0) (hall : ∀ k, k < l.length → holdsB p l k = true) : exC p (outsR p l l.length) := by
  obtain ⟨hp, hln, hrow⟩ := given_in hg
  have hol : (outsR p l l.length).length = l.length := outsR_len p l _
  have hval : ∀ k, k < l.length → ∀ j, j < (l.getD k default).length / 2 → ((outsR p l l.length).getD k default).getD (2 * j + 1) default = (vO p (p.inf.length - k) ((l.getD k default).getD (2 * j) default)).getD (-1) := fun k hk j hj => by
    have := outs_val hg hall (l.length - 1 - k) (by omega) j (by rw [show l.length - 1 - (l.length - 1 - k) = k by omega]; exact hj)
    rwa [show l.length - 1 - (l.length - 1 - k) = k by omega, show l.length - 1 - k = p.inf.length - k by omega] at this
  refine ⟨hp, by omega, fun k hk => ?_, ?_, fun k hk j hj i hi hpo => ?_, fun k hk j hj => ?_⟩
  · rw [hol] at hk
    obtain ⟨hr, h8⟩ := hrow k hk
    obtain ⟨q1, q2, q3⟩ := rowB_in hr
    have hl2 := outs_len (p := p) k hk
    refine ⟨?_, by omega⟩
    unfold rowB
    simp only [Bool.and_eq_true, decide_eq_true_eq, List.all_eq_true, List.mem_range]
    refine ⟨by omega, fun j hj => ?_⟩
    rw [hl2] at hj
    have hv := hval k hk j hj
    have hz := (q2 j hj).1
    unfold rowC
    rw [outs_vol hk (by omega), hv]
    simp only [Bool.and_eq_true, Bool.or_eq_true, decide_eq_true_eq]
    have hin := planB_in hp
    have hb : -1 ≤ (vO p (p.inf.length - k) ((l.getD k default).getD (2 * j) default)).getD (-1) ∧ (vO p (p.inf.length - k) ((l.getD k default).getD (2 * j) default)).getD (-1) ≤ 1152921504606846976 := by
      cases hc : vO p (p.inf.length - k) ((l.getD k default).getD (2 * j) default) with
      | none => exact ⟨by decide, by decide⟩
      | some c =>
        have := vO_in hp _ (by omega) _ hz c hc
        show -1 ≤ c ∧ c ≤ 1152921504606846976
        omega
    refine ⟨⟨⟨⟨hz.1, hz.2⟩, ?_⟩, hb.1⟩, hb.2⟩
    by_cases e : j = 0
    · exact .inl (by omega)
    · refine .inr ?_
      rw [show 2 * j - 2 = 2 * (j - 1) by omega, outs_vol hk (by omega)]
      exact q3 (j - 1) j (by omega) hj
  · rw [atR_vol (outs_len 0 (by omega)) (fun j2 hj2 => outs_vol (by omega) (by rw [outs_len 0 (by omega)] at hj2; omega))]
    have h1 := hall 0 (by omega)
    unfold holdsB at h1
    simp only [Bool.and_eq_true] at h1
    simpa using h1.1
  · rw [outs_len k (by omega)] at hj
    rw [outs_vol (by omega) (by omega)] at hpo ⊢
    have h2 := hold_step hall (by omega) hj hi hpo
    unfold relB at h2
    simp only [Bool.and_eq_true] at h2
    rw [atR_vol (outs_len (k + 1) (by omega)) (fun j2 hj2 => outs_vol (by omega) (by rw [outs_len (k + 1) (by omega)] at hj2; omega))]
    exact h2.1
  · rw [hol] at hk
    rw [outs_len k hk] at hj
    rw [outs_vol hk (by omega)]
    exact hval k hk j hj
end
theorem row_odd {n m : Nat} (h : n % 2 = 0) (hm : m < n) : (∃ j, j < n / 2 ∧ m = 2 * j) ∨ ∃ j, j < n / 2 ∧ m = 2 * j + 1 := by
  rcases Nat.mod_two_eq_zero_or_one m with e | e
  · exact .inl ⟨m / 2, by omega, by omega⟩
  · exact .inr ⟨m / 2, by omega, by omega⟩
theorem exC.again {p : Plan} {R : List (List Int)} (h : exC p R) : outsR p R R.length = R := by
  have hol : (outsR p R R.length).length = R.length := outsR_len p R _
  refine List.ext_getElem hol fun k h1 h2 => ?_
  have e1 : (outsR p R R.length).getD k default = (outsR p R R.length)[k] := by rw [List.getD_eq_getElem?_getD, List.getElem?_eq_getElem h1]; rfl
  have e2 : R.getD k default = R[k] := by rw [List.getD_eq_getElem?_getD, List.getElem?_eq_getElem h2]; rfl
  rw [← e1, ← e2]
  refine ints_ext (outs_len k h2) fun m hm => ?_
  rw [outs_len k h2] at hm
  obtain ⟨q1, _, _⟩ := rowB_in (h.row k h2).1
  rcases row_odd q1 hm with ⟨j, hj, rfl⟩ | ⟨j, hj, rfl⟩
  · exact outs_vol h2 hm
  · have := outs_val h.given (fun k hk => h.holds hk) (R.length - 1 - k) (by omega) j (by rw [show R.length - 1 - (R.length - 1 - k) = k by omega]; exact hj)
    rw [show R.length - 1 - (R.length - 1 - k) = k by omega] at this
    have hlen := h.len
    rw [this, h.val k h2 j hj, show R.length - 1 - k = p.inf.length - k by omega]
theorem exC.raise {p : Plan} {R : List (List Int)} (h : exC p R) : raiseR p R = (R, 0) := by
  unfold raiseR
  rw [if_neg (fun q => q h.given), if_neg h.fail, h.again]
theorem weak_val {p : Plan} {l : List (List Int)} (hg : givenE p l = 0) (hall : ∀ k, k < l.length → holdsB p l k = true) : ∀ d, d < l.length → ∀ j, j < (l.getD (l.length - 1 - d) default).length / 2 → ∀ y, vO p d ((l.getD (l.length - 1 - d) default).getD (2 * j) default) = some y → ¬ (l.getD (l.length - 1 - d) default).getD (2 * j + 1) default = -1 ∧ (l.getD (l.length - 1 - d) default).getD (2 * j + 1) default ≤ y
  | 0, hd, j, hj, y, hy => by
    have h0 := hold_last hall (k := l.length - 1 - 0) (by omega) hj
    have : y = 0 := by simpa [vO, eq_comm] using hy
    rw [h0]; omega
  | d + 1, hd, j, hj, y, hy => by
    obtain ⟨hp, hln, hrow⟩ := given_in hg
    have ih := weak_val hg hall d (by omega)
    obtain ⟨k, hk⟩ : ∃ k, l.length - 1 - (d + 1) = k := ⟨_, rfl⟩
    have hk1 : l.length - 1 - d = k + 1 := by omega
    rw [hk1] at ih
    rw [hk] at hj hy ⊢
    rw [vO, show p.inf.length - (d + 1) = k by omega] at hy
    obtain ⟨⟨i, c⟩, h1, h2⟩ := Option.map_eq_some_iff.1 hy
    have h2 : c = y := h2
    subst h2
    obtain ⟨q1, q2, x, q3, q4⟩ := bestU_some _ h1
    have h3 := hold_step hall (k := k) (by omega) hj q1 q2
    unfold relB at h3
    simp only [Bool.and_eq_true, Bool.or_eq_true, Bool.not_eq_true', decide_eq_true_eq, decide_eq_false_iff_not] at h3
    obtain ⟨h4, h5⟩ := h3
    obtain ⟨j2, r1, r2, r3⟩ := atR_some h4
    have h6 := ih j2 r1 x (by rw [r2]; exact q3)
    rw [r3] at h5
    dsimp only at h5
    omega
theorem raise_weak {p : Plan} {l : List (List Int)} (hg : givenE p l = 0) (hall : ∀ k, k < l.length → holdsB p l k = true) : weakR l (outsR p l l.length) = (true, 0) := by
  obtain ⟨hp, hln, hrow⟩ := given_in hg
  have h200 := (planB_in hp).2.2.2.1
  have hol : (outsR p l l.length).length = l.length := outsR_len p l _
  have hf : ∀ r : List (List Int), r.length ≤ 201 → (∀ k, k < r.length → (r.getD k default).length ≤ 8000) → fullB r 201 = false := fun r h1 h2 => by
    unfold fullB
    simp only [Bool.or_eq_false_iff, decide_eq_false_iff_not, List.any_eq_false]
    refine ⟨by omega, fun x hx => ?_⟩
    obtain ⟨k, hk, rfl⟩ := mem_getD (d := default) hx
    have := h2 k hk
    unfold bigB
    simp only [decide_eq_true_eq]; omega
  have hs : sizesB l (outsR p l l.length) = true := by
    unfold sizesB
    simp only [Bool.and_eq_true, decide_eq_true_eq, List.all_eq_true, List.mem_range]
    exact ⟨hol.symm, fun k hk => (outs_len k hk).symm⟩
  have ho : l.any oddB = false := by
    rw [List.any_eq_false]
    intro r hr
    obtain ⟨k, hk, rfl⟩ := mem_getD (d := default) hr
    have := (rowB_in (hrow k hk).1).1
    unfold oddB
    simp only [decide_eq_true_eq, bne_iff_ne, ne_eq]; omega
  have hm : ((List.range l.length).any fun i => evM (l.getD i default) ((outsR p l l.length).getD i default)) = false := by
    rw [List.any_eq_false]
    intro k hk
    have hk := List.mem_range.1 hk
    have : evM (l.getD k default) ((outsR p l l.length).getD k default) = false := by
      unfold evM
      rw [List.any_eq_false]
      intro j hj
      have hj := List.mem_range.1 hj
      rw [outs_vol hk (by omega)]; simp
    rw [this]; decide
  have hw : ((List.range l.length).all fun i => evW (l.getD i default) ((outsR p l l.length).getD i default)) = true := by
    rw [List.all_eq_true]
    intro k hk
    have hk := List.mem_range.1 hk
    unfold evW
    rw [List.all_eq_true]
    intro j hj
    have hj := List.mem_range.1 hj
    have hv := outs_val hg hall (l.length - 1 - k) (by omega) j (by rw [show l.length - 1 - (l.length - 1 - k) = k by omega]; exact hj)
    have hx := weak_val hg hall (l.length - 1 - k) (by omega) j (by rw [show l.length - 1 - (l.length - 1 - k) = k by omega]; exact hj)
    rw [show l.length - 1 - (l.length - 1 - k) = k by omega] at hv hx
    rw [hv]
    unfold wkP
    simp only [Bool.or_eq_true, Bool.and_eq_true, Bool.not_eq_true', decide_eq_true_eq, decide_eq_false_iff_not]
    cases hy : vO p (l.length - 1 - k) ((l.getD k default).getD (2 * j) default) with
    | none => exact .inl rfl
    | some y => exact .inr (hx y hy)
  unfold weakR
  rw [if_neg (by rw [hf l (by omega) (fun k hk => (hrow k hk).2), hf _ (by omega) (fun k hk => by rw [hol] at hk; rw [outs_len k hk]; exact (hrow k hk).2)]; decide), if_neg (by rw [hs]; decide), if_neg (by rw [ho]; decide), if_neg (by rw [hm]; decide), hw]

end Go.Proofs.Ytedocinehadodaa
