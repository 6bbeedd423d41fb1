/-
  Contracts of functions of the program, over the engine.
  No condition.
-/
import Derived.Test.YtlailhdmgehniaaGreatCQ2Q3
import Derived.Test.YtlailhdmgehniaaGreatCC9C10C13C19C29
import Derived.Test.YtlailhdmgehniaaGreatCQ0P11
namespace Go.Proofs.YtlailhdmgehniaaGreat
open Go.Eng
set_option linter.all false
attribute [local irreducible] DCallsG SWp Fct CallQ XCallQ LCallQ XLCallQ drun xrun

def cRow (p : Plan) (s : Nat) (v : Int) (N j : Nat) : List Int := cstI (vO p (N - j)) (rowI p s v j)
def costX (p : Plan) (s : Nat) (v : Int) (N : Nat) : List (List Int) := (List.range (N + 1)).map (cRow p s v N)
def doneC (p : Plan) (s : Nat) (v : Int) (N d : Nat) : List (List Int) := (List.range (d + 1)).map fun t => cRow p s v N (N - d + t)
theorem doneC_next (p : Plan) (s : Nat) (v : Int) (N d : Nat) (h : d + 1 ≤ N) : doneC p s v N (d + 1) = cRow p s v N (N - (d + 1)) :: doneC p s v N d := by
  unfold doneC
  rw [List.range_succ_eq_map, List.map_cons, List.map_map]
  congr 1
  exact List.map_congr_left fun t _ => by simp only [Function.comp, Nat.succ_eq_add_one]; rw [show N - (d + 1) + (t + 1) = N - d + t by omega]
theorem doneC_head (p : Plan) (s : Nat) (v : Int) (N d : Nat) : ∃ X, doneC p s v N d = cRow p s v N (N - d) :: X := by
  unfold doneC
  rw [List.range_succ_eq_map, List.map_cons]
  exact ⟨_, rfl⟩
theorem doneC_all (p : Plan) (s : Nat) (v : Int) (N : Nat) : doneC p s v N N = costX p s v N := by
  unfold doneC costX
  exact List.map_congr_left fun t _ => by rw [Nat.sub_self, Nat.zero_add]
theorem doneC_len (p : Plan) (s : Nat) (v : Int) (N d : Nat) : (doneC p s v N d).length = d + 1 := by simp [doneC]
theorem oG (b : Nat) (r : List DV) (Z : List (List DV)) : (List.replicate b nilRow ++ r :: Z).getD b [] = r := by
  rw [List.getD_eq_getElem?_getD, List.getElem?_append_right (by simp)]; simp
theorem oS (b : Nat) (r r2 : List DV) (Z : List (List DV)) : (List.replicate b nilRow ++ r :: Z).set b r2 = List.replicate b nilRow ++ r2 :: Z := by
  rw [List.set_append_right _ _ (by simp)]; simp
theorem oN (b : Nat) (r : List DV) (x : List Int) (X : List (List Int)) : (List.replicate b nilRow ++ r :: rows ilRow (x :: X)).getD (b + 1) [] = [.p (.dat 1 (x.map inRow))] := by
  rw [List.getD_eq_getElem?_getD, List.getElem?_append_right (by simp)]; simp [rows, ilRow]
theorem oLast (N : Nat) (r : List DV) : (List.replicate (N + 1) nilRow).set N r = List.replicate N nilRow ++ r :: rows ilRow [] := by
  rw [List.replicate_succ', List.set_append_right _ _ (by simp)]; simp [rows]
theorem oRep (b : Nat) (Z : List (List DV)) : List.replicate (b + 1) nilRow ++ Z = List.replicate b nilRow ++ nilRow :: Z := by
  rw [List.replicate_succ', List.append_assoc]; rfl
theorem oFrz (b o : Nat) (x : List Int) (X : List (List Int)) : (List.replicate b nilRow ++ [DV.gl o] :: rows ilRow X).map (DV.frzL o (.elems 1 (x.map inRow))) = List.replicate b nilRow ++ rows ilRow (x :: X) := by
  rw [List.map_append, List.map_cons, frz_rows, List.map_replicate]
  simp [DV.frzL, DV.frz, rows, ilRow, nilRow]
theorem oFrz0 (b o : Nat) (x : List Int) : (List.replicate b nilRow ++ [[DV.gl o]]).map (DV.frzL o (.elems 1 (x.map inRow))) = List.replicate b nilRow ++ rows ilRow [x] := oFrz b o x []
theorem oRen (b o n : Nat) (X : List (List Int)) : (List.replicate b nilRow ++ [DV.gl o] :: rows ilRow X).map (DV.renL o n) = List.replicate b nilRow ++ [DV.gl n] :: rows ilRow X := by
  rw [List.map_append, List.map_cons, ren_rows, List.map_replicate]
  simp [DV.renL, DV.ren, nilRow, rnm]
theorem oUse (b K : Nat) (X : List (List Int)) (U : Nat → Prop) (h : U K) : DV.usesL U (List.replicate b nilRow ++ [DV.gl K] :: rows ilRow X).flatten := by
  rw [List.flatten_append, List.flatten_cons, nils_flat]
  exact usesL_append (usesL_iff.2 fun d hd => by rw [List.eq_of_mem_replicate hd]; trivial) (usesL_append ⟨h, trivial⟩ (uses_rows ilRow U X))
theorem oUse0 (b : Nat) (X : List (List Int)) (U : Nat → Prop) : DV.usesL U (List.replicate b nilRow ++ rows ilRow X).flatten := by
  rw [List.flatten_append, nils_flat]
  exact usesL_append (usesL_iff.2 fun d hd => by rw [List.eq_of_mem_replicate hd]; trivial) (uses_rows ilRow U X)
theorem rep0 (n : Nat) : List.replicate n [DV.p (.lit (.int .i64 0))] = rows inRow (List.replicate n 0) := by simp [rows, inRow]
theorem vO_cst (p : Plan) {N b : Nat} (hb : b < N) {s : Nat} (hN : s + N = p.inf.length) (z : Int) : (chI p (bestO p (s + b) z (vO p (N - (b + 1))))).2 = (vO p (N - b) z).getD (-1) := by
  rw [show N - b = (N - (b + 1)) + 1 by omega, vO, show p.inf.length - (N - (b + 1) + 1) = s + b by omega]
  cases bestO p (s + b) z (vO p (N - (b + 1))) <;> rfl
theorem nilRow_get : nilRow.getD 0 DV.junk = .p (.lit (.slice none 0 0)) := rfl
theorem nilRow_len : nilRow.length = 1 := rfl
theorem nilRow_drop : List.drop 1 nilRow = [] := rfl
attribute [push_cast] oG oS oN rep0 nilRow_get nilRow_len nilRow_drop oRen
set_option maxRecDepth 20000 in
set_option maxHeartbeats 16000000 in
theorem costs_f (p : Plan) (s : Nat) (v : Int) (N : Nat) (m : Nat) (hp : planB p = true) (hN : s + N = p.inf.length) (hv : p.res ≤ v ∧ v ≤ p.cap) (hf : fewA p s v N = true) :
    DCalls Tryz.prog 33 [planD p, li s, .p (.dat 1 ((rowsN p s v N).map ilRow))] (hget []) m (.p (.dat 1 ((costX p s v N).map ilRow))) (hget []) := by
  have hin := planB_in hp
  have hil := hin.2.2.2.1
  have hrl := rowsN_len p s v N
  have hrl1 : ((rowsN p s v N).length : Int) - 1 = (N : Int) := by omega
  have hNl : N < (rowsN p s v N).length := by omega
  have hgN := rowsN_get p s v N N (Nat.le_refl _)
  have hge := rowsN_get p s v N
  have hfl : ∀ j, j ≤ N → (rowI p s v j).length ≤ 4000 := fun j hj => rowI_len (n := j) (by
    unfold fewA at hf ⊢
    rw [List.all_eq_true] at hf ⊢
    intro x hx
    exact hf x (List.mem_range.2 (by have := List.mem_range.1 hx; omega)))
  have hflN := hfl N (Nat.le_refl _)
  (have := Nonempty.intro hNl)
  generalize hRS : rowsN p s v N = RS at *
  refine pureC (n := 79) (rs := [.tmp 6]) (ts := [29]) Tryz.func33 rfl (by decide) [32] (by (exact SD)) ?_
  (repeat' (first | (show SWp _ _ _ (.region 3 _ _) _ _ _ _; refine (stop_in ?_)) | refine swp_seq [0, 1, 2, 3, 6, 7, 8, 9, 10, 12, 31, 40] ?_ | (show SWp _ _ _ (.region _ _ true) _ _ _ _; refine xG mixed [] ?_) | refine st2 ?_ | (show CallQ ..; first | refine cQ (fun hcc => (by fail)) ?_ | (refine lP ?_; refine lQ (fun hcc m => (by fail)) ?_)) | (show XCallQ ..; first | refine xQ (fun hcc => (by fail)) ?_ | (refine xlP ?_; refine xlQ (fun hcc m => (by fail)) ?_)) | (show Fct ..; refine fctI (fun hf => ?_)) | (show SWp _ _ _ (.cond _ _ _) _ _ _ _; first | refine cB (fun hc => ?_) (fun hc => ?_) | refine cU ?_ ?_)))
  refine stop_out ?_
  rw [hrl1]
  have hg0 : (List.replicate (N + 1) nilRow).getD N [] = nilRow := by
    rw [List.getD_eq_getElem?_getD, List.getElem?_replicate, if_pos (by omega)]; rfl
  have hset : ∀ d, (List.replicate RS.length [DV.p (.lit (.slice none 0 0))]).set N (d :: List.drop 1 ((List.replicate RS.length [DV.p (.lit (.slice none 0 0))]).getD N [])) = List.replicate N nilRow ++ [d] :: rows ilRow [] := fun d => by
    rw [hrl, show ([DV.p (.lit (.slice none 0 0))] : List DV) = nilRow from rfl, hg0]
    exact oLast N [d]
  have hc0 : [List.replicate (RS.getD N default).length (0 : Int)] = doneC p s v N 0 := by
    unfold doneC cRow cstI
    rw [hgN, Nat.sub_zero]
    show _ = [List.map _ _]
    rw [show N + 0 = N from rfl, Nat.sub_self]
    congr 1
    exact (List.map_eq_replicate_iff.2 fun z _ => rfl).symm
  (repeat' (first | (show SWp _ _ _ (.region 4 _ _) _ _ _ _; refine (stop_in ?_)) | refine swp_seq [0, 1, 2, 3, 6, 7, 8, 9, 10, 12, 31, 40] ?_ | (show SWp _ _ _ (.region _ _ true) _ _ _ _; refine xG mixed [] ?_) | refine st2 ?_ | (show CallQ ..; first | refine cQ (fun hcc => (by fail)) ?_ | (refine lP ?_; refine lQ (fun hcc m => (by fail)) ?_)) | (show XCallQ ..; first | refine xQ (fun hcc => (by fail)) ?_ | (refine xlP ?_; refine xlQ (fun hcc m => (by fail)) ?_)) | (show Fct ..; refine fctI (fun hf => ?_)) | (show SWp _ _ _ (.cond _ _ _) _ _ _ _; first | refine cB (fun hc => ?_) (fun hc => ?_) | refine cU ?_ ?_)))
  refine stop_out ?_
  rw [hset]
  refine sF 136 ?_ (x := .elems 1 ((List.replicate (RS.getD N default).length (0 : Int)).map inRow))
  rw [oFrz0, hc0]
  (repeat' (first | refine swp_seq [0, 1, 2, 3, 6, 7, 8, 9, 10, 12, 31, 40] ?_ | refine st2 ?_ | (show Fct ..; refine fctI (fun hf => ?_)) | (show SWp _ _ _ (.cond _ _ _) _ _ _ _; first | refine cB (fun hc => ?_) (fun hc => ?_) | refine cU ?_ ?_)))
  refine loop_swp [1, 2, 3, 7, 9] [0, 32] 33 (fun q A H => ∃ a d : Nat, a + d = N ∧ q = a ∧ A = [(1, li s), (2, .p (.dat 1 (RS.map ilRow))), (3, .ptr 0 0), (7, .gl 32), (9, li ((a : Int) - 1))] ∧ H = [(0, .blk 26 (planC p)), (32, .lst 22 1 (List.replicate a nilRow ++ rows ilRow (doneC p s v N d)))]) (by omega) ?_ ?_ ?_
  · rintro q A H ⟨a, d, g1, g2, rfl, rfl⟩
    exact ⟨by (exact SD), ⟨by omega, by (exact SD), by omega, oUse0 _ _ _, trivial⟩⟩
  · refine ⟨_, N, 0, by omega, rfl, ?_, ?_⟩
    · exact DVR
    · exact DVR
  rintro q A H ⟨a, d, g1, g2, rfl, rfl⟩
  by_cases ha : 1 ≤ a
  · obtain ⟨b, rfl⟩ : ∃ b, a = b + 1 := ⟨a - 1, by omega⟩
    have hb0 : (0 : Int) ≤ (b : Int) := by omega
    have hb1 : ((b + 1 : Nat) : Int) - 1 = (b : Int) := by omega
    have hbl : b < RS.length := by omega
    have hbl2 : b + 1 < RS.length := by omega
    have hsb : s + b < p.inf.length := by omega
    rw [oRep, hb1]
    obtain ⟨X, hX⟩ := doneC_head p s v N d
    have hdx := doneC_next p s v N d (by omega)
    rw [show N - (d + 1) = b by omega] at hdx
    rw [show N - d = b + 1 by omega] at hX
    have hdl := doneC_len p s v N d
    have hvc := vO_cst p (by omega : b < N) hN
    have hgb := hge b (by omega)
    have hgb1 := hge (b + 1) (by omega)
    have hrw : cRow p s v N b = cstI (vO p (N - b)) (RS.getD b default) := by rw [hgb]; rfl
    have hrw1 : cRow p s v N (b + 1) = cstI (vO p (N - (b + 1))) (RS.getD (b + 1) default) := by rw [hgb1]; rfl
    have cch := fun z m (hz : z ∈ rowI p s v b) => choice_f p (s + b) z (RS.getD (b + 1) default) (vO p (N - (b + 1))) m hp hsb (by
        have h5 := rowI_in hp hv b z hz
        have h6 := hin.2.1
        have h7 := hin.1
        omega) (by rw [hgb1]; have := hfl (b + 1) (by omega); omega) (by rw [hgb1]; exact rowI_asc p s v (b + 1)) (fun i hi hpo => by rw [hgb1]; exact row_step hz hi hpo)
        (fun z c hz hc => by
          rw [hgb1] at hz
          have h5 := vO_in hp (N - (b + 1)) (by omega) z (rowI_in hp hv (b + 1) z hz) c hc
          omega)
    rw [← hrw1] at cch
    rw [← hgb] at cch
    rw [hX] at hdx hdl ⊢
    have hfb := hfl b (by omega)
    rw [← hgb] at hfb
    generalize cRow p s v N (b + 1) = CN at *
    generalize cRow p s v N b = CB at *
    generalize vO p (N - b) = f at *
    (have := Nonempty.intro hbl)
    (have := Nonempty.intro hbl2)
    (have := Nonempty.intro hb0)
    (repeat' (first | refine swp_seq [0, 1, 2, 3, 6, 7, 8, 9, 10, 12, 31, 40] ?_ | refine st2 ?_ | (show Fct ..; refine fctI (fun hf => ?_)) | (show SWp _ _ _ (.cond _ _ _) _ _ _ _; first | refine cB (fun hc => ?_) (fun hc => ?_) | refine cU ?_ ?_)))
    refine loop_swp [1, 2, 3, 7, 9, 10] [0, 32, 40] 41 (fun q A H => ∃ j : Nat, j ≤ (RS.getD b default).length ∧ q = (RS.getD b default).length - j ∧ A = [(1, li s), (2, .p (.dat 1 (RS.map ilRow))), (3, .ptr 0 0), (7, .gl 32), (9, li b), (10, li j)] ∧ ((j = 0 ∧ H = [(0, .blk 26 (planC p)), (32, .lst 22 1 (List.replicate b nilRow ++ nilRow :: rows ilRow (CN :: X)))]) ∨ (1 ≤ j ∧ H = [(0, .blk 26 (planC p)), (32, .lst 22 1 (List.replicate b nilRow ++ [.gl 40] :: rows ilRow (CN :: X))), (40, inLt (cstI f ((RS.getD b default).take j)))]))) (by omega) ?_ ?_ ?_
    · rintro q A H ⟨j, k1, k2, rfl, k4⟩
      rcases k4 with ⟨_, rfl⟩ | ⟨_, rfl⟩
      · exact ⟨by (exact SD), ⟨by omega, by (exact SD), by omega, by rw [← oRep]; exact oUse0 _ _ _, trivial⟩⟩
      · exact ⟨by (exact SD), ⟨by omega, by (exact SD), by omega, oUse _ _ _ _ (by omega), by (exact SD)⟩⟩
    · refine ⟨_, 0, by omega, rfl, ?_, .inl ⟨rfl, ?_⟩⟩
      · exact DVR
      · exact DVR
    rintro q A H ⟨j, k1, k2, rfl, k4⟩
    by_cases hj : j < (RS.getD b default).length
    · have hj3 : (j : Int) < ((RS.getD b default).length : Int) := by omega
      have cc := fun m => cch _ m (getD_mem hj)
      have hvz := hvc ((RS.getD b default).getD j default)
      have htk : cstI f ((RS.getD b default).take (j + 1)) = cstI f ((RS.getD b default).take j) ++ [(chI p (bestO p (s + b) ((RS.getD b default).getD j default) (vO p (N - (b + 1))))).2] := by
        rw [take_snoc hj, hvz]; unfold cstI; rw [List.map_append]; rfl
      generalize chI p (bestO p (s + b) ((RS.getD b default).getD j default) (vO p (N - (b + 1)))) = CH at *
      (have := Nonempty.intro hj)
      (have := Nonempty.intro hj3)
      rcases k4 with ⟨h0, rfl⟩ | ⟨h0, rfl⟩
      · rw [h0, show cstI f (List.take 0 (RS.getD b default)) = [] from rfl] at htk
        (repeat' (first | refine swp_seq [0, 1, 2, 3, 6, 7, 8, 9, 10, 12, 31, 40] ?_ | refine st2 ?_ | (show CallQ ..; first | refine cQ (fun hcc => (by first | exact cc _)) ?_ | (refine lP ?_; refine lQ (fun hcc m => (by first | exact cc _)) ?_)) | (show XCallQ ..; first | refine xQ (fun hcc => (by first | exact cc _)) ?_ | (refine xlP ?_; refine xlQ (fun hcc m => (by first | exact cc _)) ?_)) | (show Fct ..; refine fctI (fun hf => ?_)) | (show SWp _ _ _ (.cond _ _ _) _ _ _ _; first | refine cB (fun hc => ?_) (fun hc => ?_) | refine cU ?_ ?_)))
        refine lR (H3 := [(0, .blk 26 (planC p)), (32, .lst 22 1 (List.replicate b nilRow ++ [.gl 40] :: rows ilRow (CN :: X))), (40, inLt [CH.2])]) 377 40 [0, 32, 377] ?qa (hH1 := ?ua) (eH := ?ea)
        case ea =>
          simp only [hkr, rnm, HV.ren, oRen]
          rfl
        case ua => exact ⟨⟨by omega, by omega⟩, by (exact SD), ⟨by omega, by omega⟩, oUse _ _ _ _ ⟨by omega, by omega⟩, ⟨by omega, by omega⟩, by (exact SD), trivial⟩
        exact ⟨_, by omega, j + 1, by omega, rfl, rfl, .inr ⟨by omega, by rw [h0, htk]; rfl⟩⟩
      · have hCl : (cstI f ((RS.getD b default).take j)).length = j := by rw [cstI_len, List.length_take]; omega
        generalize cstI f ((RS.getD b default).take j) = CJ at *
        (repeat' (first | refine swp_seq [0, 1, 2, 3, 6, 7, 8, 9, 10, 12, 31, 40] ?_ | refine st2 ?_ | (show CallQ ..; first | refine cQ (fun hcc => (by first | exact cc _)) ?_ | (refine lP ?_; refine lQ (fun hcc m => (by first | exact cc _)) ?_)) | (show XCallQ ..; first | refine xQ (fun hcc => (by first | exact cc _)) ?_ | (refine xlP ?_; refine xlQ (fun hcc m => (by first | exact cc _)) ?_)) | (show Fct ..; refine fctI (fun hf => ?_)) | (show SWp _ _ _ (.cond _ _ _) _ _ _ _; first | refine cB (fun hc => ?_) (fun hc => ?_) | refine cU ?_ ?_)))
        (refine lN [0, 32, 40] ?_)
        exact ⟨_, by omega, j + 1, by omega, rfl, rfl, .inr ⟨by omega, by rw [htk]⟩⟩
    · obtain rfl : j = (RS.getD b default).length := by omega
      have hj3 : ¬ ((RS.getD b default).length : Int) < ((RS.getD b default).length : Int) := by omega
      have hCB : cstI f ((RS.getD b default).take (RS.getD b default).length) = CB := by rw [List.take_length, hrw]
      (have := Nonempty.intro hj3)
      rcases k4 with ⟨h0, rfl⟩ | ⟨h0, rfl⟩
      · have hCB : CB = [] := by rw [hrw]; exact List.eq_nil_of_length_eq_zero (by rw [cstI_len]; exact h0)
        have e2 : List.replicate b nilRow ++ [DV.p (.dat 1 [])] :: rows ilRow (CN :: X) = List.replicate b nilRow ++ rows ilRow (CB :: CN :: X) := by rw [hCB]; rfl
        refine swp_hkeep [32, 0] (H2 := [(32, .lst 22 1 (List.replicate b nilRow ++ nilRow :: rows ilRow (CN :: X))), (0, .blk 26 (planC p))]) rfl ?_
        refine swp_nilrow 32 1 _ (List.replicate b nilRow) (rows ilRow (CN :: X)) ?_
        rw [e2, ← hdx]
        (repeat' (first | refine swp_seq [0, 1, 2, 3, 6, 7, 8, 9, 10, 12, 31, 40] ?_ | refine st2 ?_ | (show Fct ..; refine fctI (fun hf => ?_)) | (show SWp _ _ _ (.cond _ _ _) _ _ _ _; first | refine cB (fun hc => ?_) (fun hc => ?_) | refine cU ?_ ?_)))
        (refine lN [0, 32] ?_)
        exact ⟨_, by omega, b, d + 1, by omega, rfl, rfl, rfl⟩
      · rw [hCB]
        (repeat' (first | (show SWp _ _ _ (.region 6 _ _) _ _ _ _; refine (stop_in ?_)) | refine swp_seq [0, 1, 2, 3, 6, 7, 8, 9, 10, 12, 31, 40] ?_ | (show SWp _ _ _ (.region _ _ true) _ _ _ _; refine xG mixed [] ?_) | refine st2 ?_ | (show CallQ ..; first | refine cQ (fun hcc => (by fail)) ?_ | (refine lP ?_; refine lQ (fun hcc m => (by fail)) ?_)) | (show XCallQ ..; first | refine xQ (fun hcc => (by fail)) ?_ | (refine xlP ?_; refine xlQ (fun hcc m => (by fail)) ?_)) | (show Fct ..; refine fctI (fun hf => ?_)) | (show SWp _ _ _ (.cond _ _ _) _ _ _ _; first | refine cB (fun hc => ?_) (fun hc => ?_) | refine cU ?_ ?_)))
        refine stop_out ?_
        refine sF 40 ?_ (x := .elems 1 (CB.map inRow))
        rw [oFrz, ← hdx]
        (repeat' (first | refine swp_seq [0, 1, 2, 3, 6, 7, 8, 9, 10, 12, 31, 40] ?_ | refine st2 ?_ | (show Fct ..; refine fctI (fun hf => ?_)) | (show SWp _ _ _ (.cond _ _ _) _ _ _ _; first | refine cB (fun hc => ?_) (fun hc => ?_) | refine cU ?_ ?_)))
        (refine lN [0, 32] ?_)
        exact ⟨_, by omega, b, d + 1, by omega, rfl, rfl, rfl⟩
  · obtain rfl : a = 0 := by omega
    obtain rfl : d = N := by omega
    rw [doneC_all]
    (repeat' (first | refine swp_seq [0, 1, 2, 3, 6, 7, 8, 9, 10, 12, 31, 40] ?_ | refine st2 ?_ | (show Fct ..; refine fctI (fun hf => ?_)) | (show SWp _ _ _ (.cond _ _ _) _ _ _ _; first | refine cB (fun hc => ?_) (fun hc => ?_) | refine cU ?_ ?_)))
    exact DVR
def pairI (f : Int → Option Int) (row : List Int) (i : Nat) : List Int := (row.take i).flatMap fun z => [z, (f z).getD (-1)]
theorem pairI_next (f : Int → Option Int) {row : List Int} {i : Nat} (h : i < row.length) : pairI f row (i + 1) = pairI f row i ++ [row.getD i default, (f (row.getD i default)).getD (-1)] := by
  unfold pairI
  rw [take_snoc h, List.flatMap_append]; simp
theorem pairI_len (f : Int → Option Int) {row : List Int} : ∀ i, i ≤ row.length → (pairI f row i).length = 2 * i
  | 0, _ => by simp [pairI]
  | i + 1, h => by rw [pairI_next f (by omega), List.length_append, pairI_len f i (by omega)]; simp; omega
def lineV (p : Plan) (j : Nat) : List Int := pairI (vO p (p.inf.length - j)) (rowI p 0 p.start j) (rowI p 0 p.start j).length
def valuesR (p : Plan) : List (List Int) × Int :=
  if planB p = false then ([], 1) else if fewA p 0 p.start p.inf.length = false then ([], 6) else ((List.range (p.inf.length + 1)).map (lineV p), 0)
def bestP (p : Plan) (s v : Int) : Int × Int :=
  if planB p = false then (0, 1) else if ¬ ((0 ≤ s ∧ s ≤ (p.inf.length : Int) - 1) ∧ p.res ≤ v ∧ v ≤ p.cap) then (0, 2)
  else if fewA p s.toNat v (p.inf.length - s.toNat) = false then (0, 6)
  else match bestO p s.toNat v (vO p (p.inf.length - (s.toNat + 1))) with
    | none => (0, 12)
    | some a => (p.rel.getD a.1 default, 0)
theorem app_ilp (l : List (List Int)) (r : List Int) : rows ilRow l ++ [[.p (.dat 1 (r.map inRow))]] = rows ilRow (l ++ [r]) := by simp [rows, ilRow]
theorem app_in2 (l : List Int) (v c : Int) : rows inRow l ++ [[.p (.lit (.int .i64 v))], [.p (.lit (.int .i64 c))]] = rows inRow (l ++ [v, c]) := by simp [rows, inRow]
attribute [push_cast] app_in2
set_option maxRecDepth 20000 in
set_option maxHeartbeats 16000000 in
theorem values45_f (p : Plan) (m : Nat) (hq : planOk p) : DCalls Tryz.prog 7 [planD p] (hget []) m (.tup [.p (.dat 1 ((valuesR p).1.map ilRow)), li (valuesR p).2]) (hget []) := by
  cases hp : planB p
  · rw [show valuesR p = ([], 1) by unfold valuesR; rw [if_pos hp]]
    have ct := fun m => tank_no p m hq hp
    refine pureC (n := 71) (rs := [.tmp 2, .tmp 3]) (ts := [29, 30]) Tryz.func7 rfl (by decide) [] (by (exact SD)) ?_
    (repeat' (first | refine swp_seq [0, 1, 2, 3, 4, 5, 6, 7, 8, 9, 10, 11, 13, 14, 15, 22, 31, 35, 36, 37, 38, 42, 43, 44, 45, 58] ?_ | refine st2 ?_ | (show CallQ ..; first | refine cQ (fun hcc => (by first | exact ct _)) ?_ | (refine lP ?_; refine lQ (fun hcc m => (by first | exact ct _)) ?_)) | (show Fct ..; refine fctI (fun hf => ?_)) | (show SWp _ _ _ (.cond _ _ _) _ _ _ _; first | refine cB (fun hc => ?_) (fun hc => ?_) | refine cU ?_ ?_)))
    exact DVR
  unfold valuesR
  rw [if_neg (by rw [hp]; decide)]
  have hin := planB_in hp
  have ct := fun m => tank_f p m hq hp
  have cr := fun m => reach_f p 0 p.start m hp (by omega) hin.2.2.1
  have hrr : reachR p 0 p.start = if fewA p 0 p.start p.inf.length then (rowsN p 0 p.start p.inf.length, true) else ([], false) := rfl
  rw [hrr] at cr
  clear hrr
  cases hf : fewA p 0 p.start p.inf.length
  · rw [if_pos rfl]
    simp only [hf, Bool.false_eq_true, if_false] at cr
    refine pureC (n := 71) (rs := [.tmp 2, .tmp 3]) (ts := [29, 30]) Tryz.func7 rfl (by decide) [] (by (exact SD)) ?_
    (repeat' (first | refine swp_seq [0, 1, 2, 3, 4, 5, 6, 7, 8, 9, 10, 11, 13, 14, 15, 22, 31, 35, 36, 37, 38, 42, 43, 44, 45, 58] ?_ | refine st2 ?_ | (show CallQ ..; first | refine cQ (fun hcc => (by first | exact ct _)) ?_ | (refine lP ?_; refine lQ (fun hcc m => (by first | exact ct _)) ?_)) | (show Fct ..; refine fctI (fun hf => ?_)) | (show SWp _ _ _ (.cond _ _ _) _ _ _ _; first | refine cB (fun hc => ?_) (fun hc => ?_) | refine cU ?_ ?_)))
    (refine cQT [32] (fun hcc => (cr _)) ?_)
    (repeat' (first | refine swp_seq [0, 1, 2, 3, 4, 5, 6, 7, 8, 9, 10, 11, 13, 14, 15, 22, 31, 35, 36, 37, 38, 42, 43, 44, 45, 58] ?_ | refine st2 ?_ | (show Fct ..; refine fctI (fun hf => ?_)) | (show SWp _ _ _ (.cond _ _ _) _ _ _ _; first | refine cB (fun hc => ?_) (fun hc => ?_) | refine cU ?_ ?_)))
    exact DVR
  rw [if_neg (by decide)]
  simp only [hf, if_true] at cr
  have cv := fun m => val_f p 0 p.start p.inf.length m hp (by omega) hin.2.2.1 hf
  have hxl := valsX_len p 0 p.start p.inf.length
  have hxg := fun i => @valsX_get p 0 p.start p.inf.length i
  have hrl := rowsN_len p 0 p.start p.inf.length
  have hrg := rowsN_get p 0 p.start p.inf.length
  have hlk : ∀ j, j ≤ p.inf.length → ∀ z, z ∈ rowI p 0 p.start j → (valsD p 0 (rowsN p 0 p.start p.inf.length) (p.inf.length - j)).lookup z = vO p (p.inf.length - j) z := fun j hj z hz => by
    rw [valsD_look (s := 0) (v := p.start) (N := p.inf.length) (by omega) _ (by omega), show p.inf.length - (p.inf.length - j) = j by omega, if_pos hz]
  have hfl : ∀ j, j ≤ p.inf.length → (rowI p 0 p.start j).length ≤ 4000 := fun j hj => rowI_len (n := j) (by
    unfold fewA at hf ⊢
    rw [List.all_eq_true] at hf ⊢
    intro x hx
    exact hf x (List.mem_range.2 (by have := List.mem_range.1 hx; omega)))
  have hil := hin.2.2.2.1
  generalize rowsN p 0 p.start p.inf.length = RS at *
  generalize valsX p 0 p.start p.inf.length = XS at *
  have hxr : ∀ j, j < p.inf.length + 1 → RS.getD j default = rowI p 0 p.start j := fun j hj => hrg j (by omega)
  have hvx : ∀ j, j < p.inf.length + 1 → ∀ z, z ∈ rowI p 0 p.start j → hasI (XS.getD j default) z = (vO p (p.inf.length - j) z).isSome ∧ valI (XS.getD j default) z = (vO p (p.inf.length - j) z).getD 0 := fun j hj z hz => by
    rw [hasI_eq, valI_eq, hxg j hj, hlk j (by omega) z hz]; exact ⟨rfl, rfl⟩
  clear hxg hlk hrg
  refine pureC (n := 71) (rs := [.tmp 2, .tmp 3]) (ts := [29, 30]) Tryz.func7 rfl (by decide) [248] (by (exact SD)) ?_
  (repeat' (first | refine swp_seq [0, 1, 2, 3, 4, 5, 6, 7, 8, 9, 10, 11, 13, 14, 15, 22, 31, 35, 36, 37, 38, 42, 43, 44, 45, 58] ?_ | refine st2 ?_ | (show CallQ ..; first | refine cQ (fun hcc => (by first | exact ct _)) ?_ | (refine lP ?_; refine lQ (fun hcc m => (by first | exact ct _)) ?_)) | (show Fct ..; refine fctI (fun hf => ?_)) | (show SWp _ _ _ (.cond _ _ _) _ _ _ _; first | refine cB (fun hc => ?_) (fun hc => ?_) | refine cU ?_ ?_)))
  (refine cQT [32] (fun hcc => (cr _)) ?_)
  (repeat' (first | refine swp_seq [0, 1, 2, 3, 4, 5, 6, 7, 8, 9, 10, 11, 13, 14, 15, 22, 31, 35, 36, 37, 38, 42, 43, 44, 45, 58] ?_ | refine st2 ?_ | (show Fct ..; refine fctI (fun hf => ?_)) | (show SWp _ _ _ (.cond _ _ _) _ _ _ _; first | refine cB (fun hc => ?_) (fun hc => ?_) | refine cU ?_ ?_)))
  (refine cQT [32] (fun hcc => (cv _)) ?_)
  (repeat' (first | refine swp_seq [0, 1, 2, 3, 4, 5, 6, 7, 8, 9, 10, 11, 13, 14, 15, 22, 31, 35, 36, 37, 38, 42, 43, 44, 45, 58] ?_ | refine st2 ?_ | (show Fct ..; refine fctI (fun hf => ?_)) | (show SWp _ _ _ (.cond _ _ _) _ _ _ _; first | refine cB (fun hc => ?_) (fun hc => ?_) | refine cU ?_ ?_)))
  (refine sN 8 22 1 ?_)
  refine loop_swp [6, 7, 8, 35, 36, 37] [0, 32, 248] 249 (fun q A H => ∃ (i : Nat), i ≤ p.inf.length + 1 ∧ q = p.inf.length + 1 - i ∧ A = [(6, .p (.dat 1 (RS.map ilRow))), (7, .p (.dat 1 (XS.map valRow))), (8, .gl 248), (35, .p (.dat 1 (RS.map ilRow))), (36, li RS.length), (37, li i)] ∧ H = [(0, .blk 26 (planC p)), (32, .blk 85 (tkC p (ints (p.rel.map (floorT p.pen))))), (248, .lst 22 1 (rows ilRow ((List.range i).map (lineV p))))]) (by omega) ?_ ?_ ?_
  · rintro q A H ⟨i, g1, g2, rfl, rfl⟩
    exact ⟨by (exact SD), by (exact SD)⟩
  · refine ⟨_, 0, by omega, rfl, ?_, ?_⟩
    · exact DVR
    · exact DVR
  rintro q A H ⟨i, g1, g2, rfl, rfl⟩
  by_cases hi : i < p.inf.length + 1
  · have hi2 : i < RS.length := by omega
    have hi3 : (i : Int) < (RS.length : Int) := by omega
    have hi4 : i < XS.length := by omega
    have hxi := hxr i hi
    have hvi := hvx i hi
    have hfi := hfl i (by omega)
    have hln : (List.range (i + 1)).map (lineV p) = (List.range i).map (lineV p) ++ [lineV p i] := by rw [List.range_succ, List.map_append]; rfl
    have hle : lineV p i = pairI (vO p (p.inf.length - i)) (rowI p 0 p.start i) (rowI p 0 p.start i).length := rfl
    have hpn := fun j => @pairI_next (vO p (p.inf.length - i)) (rowI p 0 p.start i) j
    have hpl := fun j => @pairI_len (vO p (p.inf.length - i)) (rowI p 0 p.start i) j
    generalize vO p (p.inf.length - i) = f at *
    generalize hLS : (List.range i).map (lineV p) = LS at *
    have hLl : LS.length = i := by rw [← hLS]; simp
    rw [← hxi] at hle hvi hfi hpn hpl
    (have := Nonempty.intro hi2)
    (have := Nonempty.intro hi3)
    (have := Nonempty.intro hi4)
    (repeat' (first | refine swp_seq [0, 1, 2, 3, 4, 5, 6, 7, 8, 9, 10, 11, 13, 14, 15, 22, 31, 35, 36, 37, 38, 42, 43, 44, 45, 58] ?_ | refine st2 ?_ | (show Fct ..; refine fctI (fun hf => ?_)) | (show SWp _ _ _ (.cond _ _ _) _ _ _ _; first | refine cB (fun hc => ?_) (fun hc => ?_) | refine cU ?_ ?_)))
    (refine sN 11 3 1 ?_)
    generalize RS.getD i default = row at *
    refine loop_swp [6, 7, 8, 9, 11, 35, 36, 37, 42, 43, 44] [0, 32, 248, 329] 330 (fun q A H => ∃ (j : Nat), j ≤ row.length ∧ q = row.length - j ∧ A = [(6, .p (.dat 1 (RS.map ilRow))), (7, .p (.dat 1 (XS.map valRow))), (8, .gl 248), (9, li i), (11, .gl 329), (35, .p (.dat 1 (RS.map ilRow))), (36, li RS.length), (37, li i), (42, ints row), (43, li row.length), (44, li j)] ∧ H = [(0, .blk 26 (planC p)), (32, .blk 85 (tkC p (ints (p.rel.map (floorT p.pen))))), (248, .lst 22 1 (rows ilRow LS)), (329, inLt (pairI f row j))]) (by omega) ?_ ?_ ?_
    · rintro q A H ⟨j, k1, k2, rfl, rfl⟩
      exact ⟨by (exact SD), by (exact SD)⟩
    · refine ⟨_, 0, by omega, rfl, ?_, ?_⟩
      · exact DVR
      · exact DVR
    rintro q A H ⟨j, k1, k2, rfl, rfl⟩
    by_cases hj : j < row.length
    · have hj3 : (j : Int) < (row.length : Int) := by omega
      have hpj := hpn j hj
      have hplj := hpl j (by omega)
      have hvj := hvi (row.getD j default) (getD_mem hj)
      generalize pairI f row j = PJ at *
      (have := Nonempty.intro hj)
      (have := Nonempty.intro hj3)
      cases hfj : f (row.getD j default) with
      | none =>
        rw [hfj] at hvj hpj
        have hh : hasI (XS.getD i default) (row.getD j default) = false := hvj.1
        have hpj : pairI f row (j + 1) = PJ ++ [row.getD j default, -1] := hpj
        (have := Nonempty.intro hh)
        (repeat' (first | refine swp_seq [0, 1, 2, 3, 4, 5, 6, 7, 8, 9, 10, 11, 13, 14, 15, 22, 31, 35, 36, 37, 38, 42, 43, 44, 45, 58] ?_ | refine st2 ?_ | (show Fct ..; refine fctI (fun hf => ?_)) | (show SWp _ _ _ (.cond _ _ _) _ _ _ _; first | refine cB (fun hc => ?_) (fun hc => ?_) | refine cU ?_ ?_)))
        rw [← hpj]
        (refine lN [0, 32, 248, 329] ?_)
        exact ⟨_, by omega, j + 1, by omega, rfl, rfl, rfl⟩
      | some c =>
        rw [hfj] at hvj hpj
        have hh : hasI (XS.getD i default) (row.getD j default) = true := hvj.1
        have hpj : pairI f row (j + 1) = PJ ++ [row.getD j default, valI (XS.getD i default) (row.getD j default)] := by rw [hvj.2]; exact hpj
        (have := Nonempty.intro hh)
        (repeat' (first | refine swp_seq [0, 1, 2, 3, 4, 5, 6, 7, 8, 9, 10, 11, 13, 14, 15, 22, 31, 35, 36, 37, 38, 42, 43, 44, 45, 58] ?_ | refine st2 ?_ | (show Fct ..; refine fctI (fun hf => ?_)) | (show SWp _ _ _ (.cond _ _ _) _ _ _ _; first | refine cB (fun hc => ?_) (fun hc => ?_) | refine cU ?_ ?_)))
        rw [← hpj]
        (refine lN [0, 32, 248, 329] ?_)
        exact ⟨_, by omega, j + 1, by omega, rfl, rfl, rfl⟩
    · obtain rfl : j = row.length := by omega
      have hj3 : ¬ (row.length : Int) < (row.length : Int) := by omega
      (have := Nonempty.intro hj3)
      rw [← hle]
      have hplj := hpl row.length (by omega)
      rw [← hle] at hplj
      generalize lineV p i = LV at *
      (repeat' (first | (show SWp _ _ _ (.region 21 _ _) _ _ _ _; refine (stop_in ?_)) | refine swp_seq [0, 1, 2, 3, 4, 5, 6, 7, 8, 9, 10, 11, 13, 14, 15, 22, 31, 35, 36, 37, 38, 42, 43, 44, 45, 58] ?_ | refine st2 ?_ | (show CallQ ..; first | refine cQ (fun hcc => (by fail)) ?_ | (refine lP ?_; refine lQ (fun hcc m => (by fail)) ?_)) | (show Fct ..; refine fctI (fun hf => ?_)) | (show SWp _ _ _ (.cond _ _ _) _ _ _ _; first | refine cB (fun hc => ?_) (fun hc => ?_) | refine cU ?_ ?_)))
      refine stop_out ?_
      (refine sF 329 ?_)
      (repeat' (first | refine swp_seq [0, 1, 2, 3, 4, 5, 6, 7, 8, 9, 10, 11, 13, 14, 15, 22, 31, 35, 36, 37, 38, 42, 43, 44, 45, 58] ?_ | refine st2 ?_ | (show Fct ..; refine fctI (fun hf => ?_)) | (show SWp _ _ _ (.cond _ _ _) _ _ _ _; first | refine cB (fun hc => ?_) (fun hc => ?_) | refine cU ?_ ?_)))
      rw [app_ilp, ← hln]
      (refine lN [0, 32, 248] ?_)
      exact ⟨_, by omega, i + 1, by omega, rfl, rfl, rfl⟩
  · obtain rfl : i = p.inf.length + 1 := by omega
    have hi3 : ¬ ((p.inf.length : Int) + 1 < (RS.length : Int)) := by omega
    (have := Nonempty.intro hi3)
    (repeat' (first | refine swp_seq [0, 1, 2, 3, 4, 5, 6, 7, 8, 9, 10, 11, 13, 14, 15, 22, 31, 35, 36, 37, 38, 42, 43, 44, 45, 58] ?_ | refine st2 ?_ | (show Fct ..; refine fctI (fun hf => ?_)) | (show SWp _ _ _ (.cond _ _ _) _ _ _ _; first | refine cB (fun hc => ?_) (fun hc => ?_) | refine cU ?_ ?_)))
    exact DVR

end Go.Proofs.YtlailhdmgehniaaGreat
