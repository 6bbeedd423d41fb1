/-
  Contracts of functions of the program, over the engine.
  No condition.
-/
import Derived.Test.YtlailhdmgehniaaCS1S2S3S4
import Derived.Test.YtlailhdmgehniaaCC0C1C2C3
import Derived.Test.YtlailhdmgehniaaCC25C29C30C31C32
namespace Go.Proofs.Ytlailhdmgehniaa
open Go.Eng
set_option linter.all false
attribute [local irreducible] DCallsG SWp Fct CallQ XCallQ LCallQ XLCallQ drun xrun
set_option maxHeartbeats 1000000 in
theorem idxIntC_f (g : FuncId) (t : TypeId) (cs : List PV) (p : Int → Bool) (l : List (Int)) (hl : l.length ≤ 281474976710656) (hg : ∀ x, x ∈ l → ∀ m, DCalls Try.prog g [li x, .ptr 0 0] (hget [(0, .blk t (cs.map .p))]) m (lb (p x)) (hget [(0, .blk t (cs.map .p))])) :
    DCalls Try.prog 53 [ints l, .clo g [.ptr 0 0]] (hget [(0, .blk t (cs.map .p))]) 1 (li (idxI p l)) (hget [(0, .blk t (cs.map .p))]) := by
  refine contract (n := 19) (rs := [.tmp 4]) (ts := [3]) Try.func53 rfl (by decide) 1 1 [] [] [] (li (idxI p l)) [(0, .blk t (cs.map .p))] (by (exact SD)) (by (exact SD)) ?_
  (repeat' (first | refine swp_seq [0, 1, 4, 5, 7, 8, 9, 16] ?_ | refine st2 ?_ | (show Fct ..; refine fctI (fun hf => ?_)) | (show SWp _ _ _ (.cond _ _ _) _ _ _ _; first | refine cB (fun hc => ?_) (fun hc => ?_) | refine cU ?_ ?_)))
  refine loop_swp [0, 1, 7, 8] [0] 1 (fun q A H => ∃ i : Nat, i ≤ l.length ∧ q = l.length - i ∧ (l.take i).any p = false ∧ A = [(0, ints l), (1, .clo g [.ptr 0 0]), (7, li l.length), (8, li i)] ∧ H = [(0, .blk t (cs.map .p))]) (by omega) ?_ ?_ ?_
  · rintro q A H ⟨i, h1, h2, h3, rfl, rfl⟩
    exact ⟨by (exact SD), by (exact SD)⟩
  · refine ⟨_, 0, by omega, rfl, rfl, ?_, ?_⟩
    · exact DVR
    · exact DVR
  · rintro q A H ⟨i, h1, h2, h3, rfl, rfl⟩
    (repeat' (first | refine swp_seq [0, 1, 4, 5, 7, 8, 9, 16] ?_ | refine st2 ?_ | (show CallQ ..; first | refine cQ (fun hcc => (hg _ (getD_mem SC) _)) ?_ | (refine lP ?_; refine lQ (fun hcc m => (hg _ (getD_mem SC) _)) ?_)) | (show Fct ..; refine fctI (fun hf => ?_)) | (show SWp _ _ _ (.cond _ _ _) _ _ _ _; first | refine cB (fun hc => ?_) (fun hc => ?_) | refine cU ?_ ?_)))
    · (refine DVQ ?_)
      rw [idxI_hit h3 (by omega) (by assumption)]
    · (refine lN [0] ?_)
      exact ⟨_, by omega, i + 1, by omega, rfl, any_step h3 (by omega) (by assumption), rfl, rfl⟩
    · (refine DVQ ?_)
      rw [List.take_of_length_le (by omega)] at h3
      rw [idxI_none h3]
theorem conIntC_f (g : FuncId) (t : TypeId) (cs : List PV) (p : Int → Bool) (l : List Int) (hl : l.length ≤ 281474976710656) (hg : ∀ x, x ∈ l → ∀ m, DCalls Try.prog g [li x, .ptr 0 0] (hget [(0, .blk t (cs.map .p))]) m (lb (p x)) (hget [(0, .blk t (cs.map .p))])) :
    DCalls Try.prog 41 [ints l, .clo g [.ptr 0 0]] (hget [(0, .blk t (cs.map .p))]) 1 (lb (l.any p)) (hget [(0, .blk t (cs.map .p))]) := by
  have ci := idxIntC_f g t cs p l hl hg
  refine contract (n := 9) (rs := [.tmp 4]) (ts := [4]) Try.func41 rfl (by decide) 1 1 [] [] [] (lb (l.any p)) [(0, .blk t (cs.map .p))] (by (exact SD)) (by (exact SD)) ?_
  (repeat' (first | refine swp_seq [0, 1, 4] ?_ | refine st2 ?_ | (show Fct ..; refine fctI (fun hf => ?_)) | (show SWp _ _ _ (.cond _ _ _) _ _ _ _; first | refine cB (fun hc => ?_) (fun hc => ?_) | refine cU ?_ ?_)))
  (refine cQT [0] (fun hcc => ci) ?_)
  (repeat' (first | refine swp_seq [0, 1, 4] ?_ | refine st2 ?_ | (show Fct ..; refine fctI (fun hf => ?_)) | (show SWp _ _ _ (.cond _ _ _) _ _ _ _; first | refine cB (fun hc => ?_) (fun hc => ?_) | refine cU ?_ ?_)))
  (refine DVQ ?_)
  refine lbC ?_
  rw [idxI_any]
def eqB (r x : Int) : Bool := decide (r = x)
set_option maxHeartbeats 1000000 in
theorem index_f (l : List Int) (r : Int) (m : Nat) (hl : l.length ≤ 281474976710656) : DCalls Try.prog 44 [ints l, li r] (hget []) m (li (idxI (eqB r) l)) (hget []) := by
  refine pureC (n := 19) (rs := [.tmp 4]) (ts := [3]) Try.func44 rfl (by decide) [] (by (exact SD)) ?_
  (repeat' (first | refine swp_seq [0, 1, 4, 5, 7, 8, 9, 16] ?_ | refine st2 ?_ | (show Fct ..; refine fctI (fun hf => ?_)) | (show SWp _ _ _ (.cond _ _ _) _ _ _ _; first | refine cB (fun hc => ?_) (fun hc => ?_) | refine cU ?_ ?_)))
  refine loop_swp [0, 1, 7, 8] [] 0 (fun q A H => ∃ i : Nat, i ≤ l.length ∧ q = l.length - i ∧ (l.take i).any (eqB r) = false ∧ A = [(0, ints l), (1, li r), (7, li l.length), (8, li i)] ∧ H = []) (by omega) ?_ ?_ ?_
  · rintro q A H ⟨i, h1, h2, h3, rfl, rfl⟩
    exact ⟨by (exact SD), by (exact SD)⟩
  · refine ⟨_, 0, by omega, rfl, rfl, ?_, ?_⟩
    · exact DVR
    · exact DVR
  rintro q A H ⟨i, h1, h2, h3, rfl, rfl⟩
  by_cases hi : i < l.length
  · have hi3 : (i : Int) < (l.length : Int) := by omega
    (have := Nonempty.intro hi3)
    (have := Nonempty.intro hi)
    by_cases hx : r = l.getD i default
    · (have := Nonempty.intro hx)
      rw [idxI_hit h3 hi (decide_eq_true hx)]
      (repeat' (first | refine swp_seq [0, 1, 4, 5, 7, 8, 9, 16] ?_ | refine st2 ?_ | (show Fct ..; refine fctI (fun hf => ?_)) | (show SWp _ _ _ (.cond _ _ _) _ _ _ _; first | refine cB (fun hc => ?_) (fun hc => ?_) | refine cU ?_ ?_)))
      exact DVR
    · (have := Nonempty.intro hx)
      (repeat' (first | refine swp_seq [0, 1, 4, 5, 7, 8, 9, 16] ?_ | refine st2 ?_ | (show Fct ..; refine fctI (fun hf => ?_)) | (show SWp _ _ _ (.cond _ _ _) _ _ _ _; first | refine cB (fun hc => ?_) (fun hc => ?_) | refine cU ?_ ?_)))
      (refine lN [] ?_)
      exact ⟨_, by omega, i + 1, by omega, rfl, any_step h3 hi (decide_eq_false hx), rfl, rfl⟩
  have hi3 : ¬ ((i : Int) < (l.length : Int)) := by omega
  (have := Nonempty.intro hi3)
  rw [List.take_of_length_le (by omega)] at h3
  rw [idxI_none h3]
  (repeat' (first | refine swp_seq [0, 1, 4, 5, 7, 8, 9, 16] ?_ | refine st2 ?_ | (show Fct ..; refine fctI (fun hf => ?_)) | (show SWp _ _ _ (.cond _ _ _) _ _ _ _; first | refine cB (fun hc => ?_) (fun hc => ?_) | refine cU ?_ ?_)))
  exact DVR
theorem contains_f (l : List Int) (r : Int) (m : Nat) (hl : l.length ≤ 281474976710656) : DCalls Try.prog 43 [ints l, li r] (hget []) m (lb (l.any (eqB r))) (hget []) := by
  refine pureC (n := 9) (rs := [.tmp 4]) (ts := [4]) Try.func43 rfl (by decide) [] (by (exact SD)) ?_
  (repeat' (first | refine swp_seq [0, 1, 4] ?_ | refine st2 ?_ | (show CallQ ..; first | refine cQ (fun hcc => (by first | exact index_f _ _ _ hl)) ?_ | (refine lP ?_; refine lQ (fun hcc m => (by first | exact index_f _ _ _ hl)) ?_)) | (show Fct ..; refine fctI (fun hf => ?_)) | (show SWp _ _ _ (.cond _ _ _) _ _ _ _; first | refine cB (fun hc => ?_) (fun hc => ?_) | refine cU ?_ ?_)))
  (refine DVQ ?_)
  refine lbC ?_
  rw [idxI_any]
theorem notIn_f (p : Plan) (r : Int) (m : Nat) (hl : p.rel.length ≤ 281474976710656) : DCalls Try.prog 42 [li r, .ptr 0 0] (hget [(0, .blk 26 ((planP p).map .p))]) m (lb (!p.rel.any (eqB r))) (hget [(0, .blk 26 ((planP p).map .p))]) := by
  have cc := fun m => contains_f p.rel r m hl
  refine contract (n := 9) (rs := [.tmp 3]) (ts := [4]) Try.func42 rfl (by decide) 1 1 [] [] [] (lb (!p.rel.any (eqB r))) [(0, .blk 26 ((planP p).map .p))] (by (exact SD)) (by (exact SD)) ?_
  (repeat' (first | refine swp_seq [0, 1, 3] ?_ | refine st2 ?_ | (show CallQ ..; first | refine cQ (fun hcc => (by first | exact cc _)) ?_ | (refine lP ?_; refine lQ (fun hcc m => (by first | exact cc _)) ?_)) | (show Fct ..; refine fctI (fun hf => ?_)) | (show SWp _ _ _ (.cond _ _ _) _ _ _ _; first | refine cB (fun hc => ?_) (fun hc => ?_) | refine cU ?_ ?_)))
  exact DVR
abbrev tkC (p : Plan) (d : DV) : List DV := [.p (.lit (.int .i64 p.start)), .p (.lit (.int .i64 p.cap)), .p (.lit (.int .i64 p.res)), .p (.dat 1 (p.inf.map inRow)), .p (.dat 1 (p.rel.map inRow)), .p (.dat 2 (p.pen.map knotP)), .p (.lit (.int .i64 p.wei)), d]
theorem planC_snoc (p : Plan) (d : DV) : planC p ++ [d] = tkC p d := rfl
attribute [push_cast] planC_snoc
set_option maxRecDepth 20000 in
set_option maxHeartbeats 8000000 in
theorem tank_f (p : Plan) (m : Nat) (hq : planOk p) (hp : planB p = true) : DCallsG Try.prog 19 [] [planD p] (hget []) m (.tup [.ptr m 0, lb true]) (hget [(m, .blk 73 (tkC p (ints (p.rel.map (floorT p.pen)))))]) := by
  have cv := fun m => pValid_f p m hq
  rw [hp] at cv
  have hin := planB_in hp
  refine contract (n := 41) (rs := [.tmp 2, .tmp 3]) (ts := [47, 4]) Try.func19 rfl (by decide) 0 0 [65] [] [64] (.tup [.ptr 64 0, lb true]) [(64, .blk 73 (tkC p (ints (p.rel.map (floorT p.pen)))))] (by (exact SD)) (by (exact SD)) ?_
  (repeat' (first | refine swp_seq [0, 1, 2, 3, 4, 6, 7, 11, 16, 17, 18, 19] ?_ | refine st2 ?_ | (show CallQ ..; first | refine cQ (fun hcc => (by first | exact cv _)) ?_ | (refine lP ?_; refine lQ (fun hcc m => (by first | exact cv _)) ?_)) | (show Fct ..; refine fctI (fun hf => ?_)) | (show SWp _ _ _ (.cond _ _ _) _ _ _ _; first | refine cB (fun hc => ?_) (fun hc => ?_) | refine cU ?_ ?_)))
  have hr := hin.2.2.2.2.1
  have hlp : ∀ i, i < p.rel.length → (p.rel.take (i + 1)).map (floorT p.pen) = (p.rel.take i).map (floorT p.pen) ++ [floorT p.pen (p.rel.getD i default)] := fun i hi => by
    rw [take_snoc hi, List.map_append]; rfl
  refine loop_swp [1, 4, 16, 17, 18] [0, 64, 65] 66 (fun q A H => ∃ i : Nat, i ≤ p.rel.length ∧ q = p.rel.length - i ∧ A = [(1, .ptr 0 0), (4, .ptr 64 0), (16, ints p.rel), (17, li p.rel.length), (18, li i)] ∧ ((i = 0 ∧ H = [(0, .blk 26 (planC p)), (64, .blk 73 (tkC p nilS))]) ∨ (0 < i ∧ H = [(0, .blk 26 (planC p)), (64, .blk 73 (tkC p (.gl 65))), (65, inLt ((p.rel.take i).map (floorT p.pen)))]))) (by omega) ?_ ?_ ?_
  · rintro q A H ⟨i, g1, g2, rfl, ⟨rfl, rfl⟩ | ⟨g3, rfl⟩⟩
    · exact ⟨by (exact SD), by (exact SD)⟩
    · exact ⟨by (exact SD), by (exact SD)⟩
  · refine ⟨_, 0, by omega, rfl, ?_, .inl ⟨rfl, ?_⟩⟩
    · exact DVR
    · exact DVR
  rintro q A H ⟨i, g1, g2, rfl, ⟨rfl, rfl⟩ | ⟨g3, rfl⟩⟩
  · have hi : 0 < p.rel.length := by omega
    have hi3 : (0 : Int) < (p.rel.length : Int) := by omega
    have hrin := hin.2.2.2.2.2.2.2.2.1 0 hi
    have cf := fun m => floor_f p.pen (p.rel.getD 0 default) m hin.2.2.2.2.2.2.1 (by unfold i64ok; omega)
    (have := Nonempty.intro hi)
    (have := Nonempty.intro hi3)
    have e1 := hlp 0 hi
    rw [List.take_zero, List.map_nil, List.nil_append] at e1
    generalize floorT p.pen (p.rel.getD 0 default) = F at *
    (repeat' (first | refine swp_seq [0, 1, 2, 3, 4, 6, 7, 11, 16, 17, 18, 19] ?_ | refine st2 ?_ | (show CallQ ..; first | refine cQ (fun hcc => (by first | exact cf _)) ?_ | (refine lP ?_; refine lQ (fun hcc m => (by first | exact cf _)) ?_)) | (show Fct ..; refine fctI (fun hf => ?_)) | (show SWp _ _ _ (.cond _ _ _) _ _ _ _; first | refine cB (fun hc => ?_) (fun hc => ?_) | refine cU ?_ ?_)))
    (refine lR 226 65 [0, 64, 226] ?_)
    exact ⟨_, by omega, 1, by omega, rfl, rfl, .inr ⟨by omega, by rw [e1]; rfl⟩⟩
  by_cases hi : i < p.rel.length
  · have hi3 : (i : Int) < (p.rel.length : Int) := by omega
    have hrin := hin.2.2.2.2.2.2.2.2.1 i hi
    have cf := fun m => floor_f p.pen (p.rel.getD i default) m hin.2.2.2.2.2.2.1 (by unfold i64ok; omega)
    (have := Nonempty.intro hi)
    (have := Nonempty.intro hi3)
    have e1 := hlp i hi
    have hlen : ((p.rel.take i).map (floorT p.pen)).length = i := by rw [List.length_map, List.length_take]; omega
    generalize floorT p.pen (p.rel.getD i default) = F at *
    generalize (p.rel.take i).map (floorT p.pen) = L at *
    (repeat' (first | refine swp_seq [0, 1, 2, 3, 4, 6, 7, 11, 16, 17, 18, 19] ?_ | refine st2 ?_ | (show CallQ ..; first | refine cQ (fun hcc => (by first | exact cf _)) ?_ | (refine lP ?_; refine lQ (fun hcc m => (by first | exact cf _)) ?_)) | (show Fct ..; refine fctI (fun hf => ?_)) | (show SWp _ _ _ (.cond _ _ _) _ _ _ _; first | refine cB (fun hc => ?_) (fun hc => ?_) | refine cU ?_ ?_)))
    (refine lN [0, 64, 65] ?_)
    exact ⟨_, by omega, i + 1, by omega, rfl, rfl, .inr ⟨by omega, by rw [e1]⟩⟩
  have hi2 : i = p.rel.length := by omega
  have hi3 : ¬ ((i : Int) < (p.rel.length : Int)) := by omega
  (have := Nonempty.intro hi3)
  rw [hi2, List.take_length] at *
  (repeat' (first | refine swp_seq [0, 1, 2, 3, 4, 6, 7, 11, 16, 17, 18, 19] ?_ | refine st2 ?_ | (show Fct ..; refine fctI (fun hf => ?_)) | (show SWp _ _ _ (.cond _ _ _) _ _ _ _; first | refine cB (fun hc => ?_) (fun hc => ?_) | refine cU ?_ ?_)))
  exact DVR
abbrev tkH (p : Plan) : LH := [(0, .blk 73 (tkC p (ints (p.rel.map (floorT p.pen)))))]
set_option maxRecDepth 20000 in
set_option maxHeartbeats 8000000 in
theorem step_no (p : Plan) (k ri : Nat) (v : Int) (m : Nat) (hp : planB p = true) (hk : k < p.inf.length) (hr : ri < p.rel.length) (hv : 0 ≤ v ∧ v ≤ 1099511627776) (hb : possB p k v (p.rel.getD ri default) = false) :
    DCalls Try.prog 23 [.ptr 0 0, li v, li k, li ri] (hget (tkH p)) m (.tup [li 0, li 0, lb false]) (hget (tkH p)) := by
  have hc := cost_in hp hk hv hr
  have hin := planB_in hp
  have hkin := hin.2.2.2.2.2.2.2.1 k hk
  have hrin := hin.2.2.2.2.2.2.2.2.1 ri hr
  unfold possB leftI at hb
  have hb := of_decide_eq_false hb
  have hb2 : v + p.inf.getD k default - p.rel.getD ri default < p.res := by omega
  (have := Nonempty.intro hb2)
  (have := Nonempty.intro hk)
  (have := Nonempty.intro hr)
  refine contract (n := 65) (rs := [.tmp 8, .tmp 9, .tmp 10]) (ts := [3, 3, 4]) Try.func23 rfl (by decide) 1 1 [] [] [] (.tup [li 0, li 0, lb false]) (tkH p) (by (exact SD)) (by (exact SD)) ?_
  (repeat' (first | refine swp_seq [0, 1, 2, 3, 8, 9, 10, 11, 12, 38] ?_ | refine st2 ?_ | (show Fct ..; refine fctI (fun hf => ?_)) | (show SWp _ _ _ (.cond _ _ _) _ _ _ _; first | refine cB (fun hc => ?_) (fun hc => ?_) | refine cU ?_ ?_)))
  exact DVR
set_option maxRecDepth 20000 in
set_option maxHeartbeats 8000000 in
theorem step_yes (p : Plan) (k ri : Nat) (v : Int) (m : Nat) (hp : planB p = true) (hk : k < p.inf.length) (hr : ri < p.rel.length) (hv : 0 ≤ v ∧ v ≤ 1099511627776) (hb : possB p k v (p.rel.getD ri default) = true) :
    DCalls Try.prog 23 [.ptr 0 0, li v, li k, li ri] (hget (tkH p)) m (.tup [li (aftI p k v (p.rel.getD ri default)), li (costI p k v (p.rel.getD ri default)), lb true]) (hget (tkH p)) := by
  have hcst := cost_in hp hk hv hr
  have hin := planB_in hp
  have hkin := hin.2.2.2.2.2.2.2.1 k hk
  have hrin := hin.2.2.2.2.2.2.2.2.1 ri hr
  have hfl := hin.2.2.2.2.2.2.2.2.2 (p.rel.getD ri default)
  unfold possB leftI at hb
  have hb := of_decide_eq_true hb
  have hb2 : ¬ (v + p.inf.getD k default - p.rel.getD ri default < p.res) := by omega
  (have := Nonempty.intro hb2)
  (have := Nonempty.intro hk)
  (have := Nonempty.intro hr)
  have hpl : (p.rel.map (floorT p.pen)).length = p.rel.length := List.length_map _
  have hpr : (p.rel.map (floorT p.pen)).getD ri default = floorT p.pen (p.rel.getD ri default) := by
    rw [List.getD_eq_getElem?_getD, List.getElem?_map, List.getD_eq_getElem?_getD, List.getElem?_eq_getElem hr]; rfl
  have hr2 : ri < (p.rel.map (floorT p.pen)).length := by omega
  (have := Nonempty.intro hr2)
  unfold tkH
  generalize p.rel.map (floorT p.pen) = pr at *
  refine contract (n := 65) (rs := [.tmp 8, .tmp 9, .tmp 10]) (ts := [3, 3, 4]) Try.func23 rfl (by decide) 1 1 [] [] [] (.tup [li (aftI p k v (p.rel.getD ri default)), li (costI p k v (p.rel.getD ri default)), lb true]) [(0, .blk 73 (tkC p (ints pr)))] (by (exact SD)) (by (exact SD)) ?_
  (repeat' (first | (show SWp _ _ _ (.seq (.region 5 _ _) _) _ _ _ _; refine (stop_in ?_)) | refine swp_seq [0, 1, 2, 3, 8, 9, 10, 11, 12, 38] ?_ | (show SWp _ _ _ (.region _ _ true) _ _ _ _; refine xG mixed [] ?_) | refine st2 ?_ | (show CallQ ..; first | refine cQ (fun hcc => (by fail)) ?_ | (refine lP ?_; refine lQ (fun hcc m => (by fail)) ?_)) | (show XCallQ ..; first | refine xQ (fun hcc => (by fail)) ?_ | (refine xlP ?_; refine xlQ (fun hcc m => (by fail)) ?_)) | (show Fct ..; refine fctI (fun hf => ?_)) | (show SWp _ _ _ (.cond _ _ _) _ _ _ _; first | refine cB (fun hc => ?_) (fun hc => ?_) | refine cU ?_ ?_)))
  refine stop_out ?_
  have eS : (if 0 < v + p.inf.getD k default - p.rel.getD ri default - p.cap then v + p.inf.getD k default - p.rel.getD ri default - p.cap else 0) = v + p.inf.getD k default - p.rel.getD ri default - aftI p k v (p.rel.getD ri default) := by
    unfold aftI leftI; split <;> split <;> omega
  rw [eS]
  have eC : costI p k v (p.rel.getD ri default) = floorT p.pen (p.rel.getD ri default) + p.wei * (v + p.inf.getD k default - p.rel.getD ri default - aftI p k v (p.rel.getD ri default)) := rfl
  have eL : leftI p k v (p.rel.getD ri default) = v + p.inf.getD k default - p.rel.getD ri default := rfl
  rw [eC] at hcst ⊢
  rw [eL] at hcst
  clear eC eL eS
  generalize floorT p.pen (p.rel.getD ri default) = F at *
  generalize aftI p k v (p.rel.getD ri default) = AF at *
  obtain ⟨SP, hSP⟩ : ∃ SP, v + p.inf.getD k default - p.rel.getD ri default - AF = SP := ⟨_, rfl⟩
  rw [hSP] at hcst ⊢
  have eA : v + p.inf.getD k default - p.rel.getD ri default - SP = AF := by omega
  (repeat' (first | refine swp_seq [0, 1, 2, 3, 8, 9, 10, 11, 12, 38] ?_ | refine st2 ?_ | (show Fct ..; refine fctI (fun hf => ?_)) | (show SWp _ _ _ (.cond _ _ _) _ _ _ _; first | refine cB (fun hc => ?_) (fun hc => ?_) | refine cU ?_ ?_)))
  (refine DVQ ?_)
  rw [eA, hpr]
def volsC (p : Plan) (rs : List Int) (n : Nat) : List Int := (List.range n).map fun i => ((pathC p rs (i + 1)).getD (0, 0)).2
def costR (p : Plan) (rs : List Int) : Int × List Int × Int :=
  if planB p = false then (0, [], 1) else if ¬ rs.length = p.inf.length then (0, [], 3) else if (rs.any fun r => !p.rel.any (eqB r)) = true then (0, [], 2)
  else match pathC p rs rs.length with
    | none => (0, [], 27)
    | some a => (a.1, volsC p rs rs.length, 0)
theorem path_none {p : Plan} {rs : List Int} {i : Nat} (h : pathC p rs i = none) : ∀ n, i ≤ n → pathC p rs n = none := by
  intro n
  induction n with
  | zero => intro hi; obtain rfl : i = 0 := by omega
            exact h
  | succ n ih =>
    intro hi
    by_cases e : i = n + 1
    · rw [← e]; exact h
    · rw [pathC, ih (by omega)]
theorem path_next {p : Plan} {rs : List Int} {i : Nat} {s v : Int} (h : pathC p rs i = some (s, v)) : pathC p rs (i + 1) = if possB p i v (rs.getD i default) = true then some (s + costI p i v (rs.getD i default), aftI p i v (rs.getD i default)) else none := by
  rw [pathC, h]
theorem vols_next {p : Plan} {rs : List Int} {i : Nat} {s v : Int} (h : pathC p rs (i + 1) = some (s, v)) : volsC p rs (i + 1) = volsC p rs i ++ [v] := by
  unfold volsC
  rw [List.range_succ, List.map_append, List.map_cons, List.map_nil, h]; rfl
theorem aft_in {p : Plan} (h : planB p = true) {k : Nat} {v r : Int} (hp : possB p k v r = true) : p.res ≤ aftI p k v r ∧ aftI p k v r ≤ p.cap := by
  have h2 := (planB_in h).2.1
  unfold possB at hp
  have hp := of_decide_eq_true hp
  unfold aftI
  split <;> omega
theorem eqB_mem {l : List Int} {r : Int} (h : l.any (eqB r) = true) : ∃ i, i < l.length ∧ l.getD i default = r ∧ idxI (eqB r) l = i := by
  have h1 := idxI_any (eqB r) l
  rw [h] at h1
  have h2 : 0 ≤ idxI (eqB r) l := of_decide_eq_true h1
  unfold idxI at *
  cases hf : l.findIdx? (eqB r) with
  | none => rw [hf] at h2; simp at h2
  | some i =>
    obtain ⟨hi, hb, _⟩ := List.findIdx?_eq_some_iff_getElem.1 hf
    refine ⟨i, hi, ?_, rfl⟩
    have e : l.getD i default = l[i] := by rw [List.getD_eq_getElem?_getD, List.getElem?_eq_getElem hi]; rfl
    rw [e]
    exact (of_decide_eq_true hb).symm
theorem tank_no (p : Plan) (m : Nat) (hq : planOk p) (hp : planB p = false) : DCalls Try.prog 19 [planD p] (hget []) m (.tup [.p (.lit (.pointer none)), lb false]) (hget []) := by
  have cv := fun m => pValid_f p m hq
  rw [hp] at cv
  refine pureC (n := 41) (rs := [.tmp 2, .tmp 3]) (ts := [47, 4]) Try.func19 rfl (by decide) [] (by (exact SD)) ?_
  (repeat' (first | refine swp_seq [0, 1, 2, 3, 4, 6, 7, 11, 16, 17, 18, 19] ?_ | refine st2 ?_ | (show CallQ ..; first | refine cQ (fun hcc => (by first | exact cv _)) ?_ | (refine lP ?_; refine lQ (fun hcc m => (by first | exact cv _)) ?_)) | (show Fct ..; refine fctI (fun hf => ?_)) | (show SWp _ _ _ (.cond _ _ _) _ _ _ _; first | refine cB (fun hc => ?_) (fun hc => ?_) | refine cU ?_ ?_)))
  exact DVR
set_option maxRecDepth 20000 in
set_option maxHeartbeats 16000000 in
theorem cost_f (p : Plan) (rs : List Int) (m : Nat) (hq : planOk p) (hl : rs.length ≤ 281474976710656) : DCalls Try.prog 25 [planD p, ints rs] (hget []) m (.tup [li (costR p rs).1, ints (costR p rs).2.1, li (costR p rs).2.2]) (hget []) := by
  cases hp : planB p
  · rw [show costR p rs = (0, [], 1) by unfold costR; rw [if_pos hp]]
    have ct := fun m => tank_no p m hq hp
    refine pureC (n := 70) (rs := [.tmp 4, .tmp 5, .tmp 6]) (ts := [3, 22, 30]) Try.func25 rfl (by decide) [] (by (exact SD)) ?_
    (repeat' (first | refine swp_seq [0, 1, 2, 4, 5, 6, 7, 8, 9, 10, 11, 12, 13, 14, 15, 16, 22, 25, 32, 38, 39, 40, 41, 58] ?_ | refine st2 ?_ | (show CallQ ..; first | refine cQ (fun hcc => (by first | exact ct _)) ?_ | (refine lP ?_; refine lQ (fun hcc m => (by first | exact ct _)) ?_)) | (show XCallQ ..; first | refine xQ (fun hcc => (by first | exact ct _)) ?_ | (refine xlP ?_; refine xlQ (fun hcc m => (by first | exact ct _)) ?_)) | (show Fct ..; refine fctI (fun hf => ?_)) | (show SWp _ _ _ (.cond _ _ _) _ _ _ _; first | refine cB (fun hc => ?_) (fun hc => ?_) | refine cU ?_ ?_)))
    exact DVR
  unfold costR
  rw [if_neg (by rw [hp]; decide)]
  have hin := planB_in hp
  have ct := fun m => tank_f p m hq hp
  by_cases hn : (rs.length : Int) = (p.inf.length : Int)
  case neg =>
    (have := Nonempty.intro hn)
    rw [if_pos (by omega)]
    refine pureC (n := 70) (rs := [.tmp 4, .tmp 5, .tmp 6]) (ts := [3, 22, 30]) Try.func25 rfl (by decide) [] (by (exact SD)) ?_
    (repeat' (first | refine swp_seq [0, 1, 2, 4, 5, 6, 7, 8, 9, 10, 11, 12, 13, 14, 15, 16, 22, 25, 32, 38, 39, 40, 41, 58] ?_ | refine st2 ?_ | (show CallQ ..; first | refine cQ (fun hcc => (by first | exact ct _)) ?_ | (refine lP ?_; refine lQ (fun hcc m => (by first | exact ct _)) ?_)) | (show XCallQ ..; first | refine xQ (fun hcc => (by first | exact ct _)) ?_ | (refine xlP ?_; refine xlQ (fun hcc m => (by first | exact ct _)) ?_)) | (show Fct ..; refine fctI (fun hf => ?_)) | (show SWp _ _ _ (.cond _ _ _) _ _ _ _; first | refine cB (fun hc => ?_) (fun hc => ?_) | refine cU ?_ ?_)))
    exact DVR
  (have := Nonempty.intro hn)
  rw [if_neg (by omega)]
  have cn := conIntC_f 42 26 (planP p) (fun r => !p.rel.any (eqB r)) rs hl (fun x hx m => notIn_f p x m (by omega))
  rw [planP_map] at cn
  cases hany : (rs.any fun r => !p.rel.any (eqB r)) <;> rw [hany] at cn
  case true =>
    rw [if_pos rfl]
    refine pureC (n := 70) (rs := [.tmp 4, .tmp 5, .tmp 6]) (ts := [3, 22, 30]) Try.func25 rfl (by decide) [] (by (exact SD)) ?_
    (repeat' (first | refine swp_seq [0, 1, 2, 4, 5, 6, 7, 8, 9, 10, 11, 12, 13, 14, 15, 16, 22, 25, 32, 38, 39, 40, 41, 58] ?_ | refine st2 ?_ | (show CallQ ..; first | refine cQ (fun hcc => (by first | exact ct _)) ?_ | (refine lP ?_; refine lQ (fun hcc m => (by first | exact ct _)) ?_)) | (show XCallQ ..; first | refine xQ (fun hcc => (by first | exact ct _)) ?_ | (refine xlP ?_; refine xlQ (fun hcc m => (by first | exact ct _)) ?_)) | (show Fct ..; refine fctI (fun hf => ?_)) | (show SWp _ _ _ (.cond _ _ _) _ _ _ _; first | refine cB (fun hc => ?_) (fun hc => ?_) | refine cU ?_ ?_)))
    (refine cQT [0] (fun hcc => cn) ?_)
    (repeat' (first | refine swp_seq [0, 1, 2, 4, 5, 6, 7, 8, 9, 10, 11, 12, 13, 14, 15, 16, 22, 25, 32, 38, 39, 40, 41, 58] ?_ | refine st2 ?_ | (show Fct ..; refine fctI (fun hf => ?_)) | (show SWp _ _ _ (.cond _ _ _) _ _ _ _; first | refine cB (fun hc => ?_) (fun hc => ?_) | refine cU ?_ ?_)))
    exact DVR
  rw [if_neg (by decide)]
  have hmem : ∀ i, i < rs.length → p.rel.any (eqB (rs.getD i default)) = true := fun i hi => by
    have := (List.any_eq_false.1 hany) _ (getD_mem hi)
    simpa using this
  refine pureC (n := 70) (rs := [.tmp 4, .tmp 5, .tmp 6]) (ts := [3, 22, 30]) Try.func25 rfl (by decide) [264] (by (exact SD)) ?_
  (repeat' (first | refine swp_seq [0, 1, 2, 4, 5, 6, 7, 8, 9, 10, 11, 12, 13, 14, 15, 16, 22, 25, 32, 38, 39, 40, 41, 58] ?_ | refine st2 ?_ | (show CallQ ..; first | refine cQ (fun hcc => (by first | exact ct _)) ?_ | (refine lP ?_; refine lQ (fun hcc m => (by first | exact ct _)) ?_)) | (show XCallQ ..; first | refine xQ (fun hcc => (by first | exact ct _)) ?_ | (refine xlP ?_; refine xlQ (fun hcc m => (by first | exact ct _)) ?_)) | (show Fct ..; refine fctI (fun hf => ?_)) | (show SWp _ _ _ (.cond _ _ _) _ _ _ _; first | refine cB (fun hc => ?_) (fun hc => ?_) | refine cU ?_ ?_)))
  (refine cQT [0] (fun hcc => cn) ?_)
  (repeat' (first | refine swp_seq [0, 1, 2, 4, 5, 6, 7, 8, 9, 10, 11, 12, 13, 14, 15, 16, 22, 25, 32, 38, 39, 40, 41, 58] ?_ | refine st2 ?_ | (show Fct ..; refine fctI (fun hf => ?_)) | (show SWp _ _ _ (.cond _ _ _) _ _ _ _; first | refine cB (fun hc => ?_) (fun hc => ?_) | refine cU ?_ ?_)))
  (refine sN 11 3 1 ?_)
  refine loop_swp [2, 7, 9, 10, 11, 38, 39, 40] [0, 40, 264] 265 (fun q A H => ∃ (i : Nat) (s v : Int), i ≤ rs.length ∧ q = rs.length - i ∧ pathC p rs i = some (s, v) ∧ (p.res ≤ v ∧ v ≤ p.cap) ∧ (0 ≤ s ∧ s ≤ (i : Int) * 4398046511104000) ∧ A = [(2, .ptr 0 0), (7, .ptr 40 0), (9, li s), (10, li v), (11, .gl 264), (38, ints rs), (39, li rs.length), (40, li i)] ∧ H = [(0, .blk 26 (planC p)), (40, .blk 73 (tkC p (ints (p.rel.map (floorT p.pen))))), (264, inLt (volsC p rs i))]) (by omega) ?_ ?_ ?_
  · rintro q A H ⟨i, s, v, g1, g2, g3, g4, g5, rfl, rfl⟩
    exact ⟨by (exact SD), by (exact SD)⟩
  · refine ⟨_, 0, 0, p.start, by omega, rfl, rfl, hin.2.2.1, by omega, ?_, ?_⟩
    · exact DVR
    · exact DVR
  rintro q A H ⟨i, s, v, g1, g2, g3, g4, g5, rfl, rfl⟩
  by_cases hi : i < rs.length
  · have hi3 : (i : Int) < (rs.length : Int) := by omega
    (have := Nonempty.intro hi)
    (have := Nonempty.intro hi3)
    have hvl : (volsC p rs i).length = i := by unfold volsC; rw [List.length_map, List.length_range]
    obtain ⟨ri, hri, hrv, hrx⟩ := eqB_mem (hmem i hi)
    have cx := fun m => index_f p.rel (rs.getD i default) m (by omega)
    rw [hrx] at cx
    have hcst := cost_in hp (show i < p.inf.length by omega) (v := v) (by omega) hri
    have hnx := path_next g3
    cases hpo : possB p i v (rs.getD i default)
    · rw [hpo, if_neg (by decide)] at hnx
      rw [path_none hnx rs.length (by omega)]
      have cs := fun m => step_no p i ri v m hp (by omega) hri (by omega) (by rw [hrv]; exact hpo)
      (repeat' (first | refine swp_seq [0, 1, 2, 4, 5, 6, 7, 8, 9, 10, 11, 12, 13, 14, 15, 16, 22, 25, 32, 38, 39, 40, 41, 58] ?_ | refine st2 ?_ | (show CallQ ..; first | refine cQ (fun hcc => (by first | exact cx _)) ?_ | (refine lP ?_; refine lQ (fun hcc m => (by first | exact cx _)) ?_)) | (show XCallQ ..; first | refine xQ (fun hcc => (by first | exact cx _)) ?_ | (refine xlP ?_; refine xlQ (fun hcc m => (by first | exact cx _)) ?_)) | (show Fct ..; refine fctI (fun hf => ?_)) | (show SWp _ _ _ (.cond _ _ _) _ _ _ _; first | refine cB (fun hc => ?_) (fun hc => ?_) | refine cU ?_ ?_)))
      (refine cQT [40] (fun hcc => (cs _)) ?_)
      (repeat' (first | refine swp_seq [0, 1, 2, 4, 5, 6, 7, 8, 9, 10, 11, 12, 13, 14, 15, 16, 22, 25, 32, 38, 39, 40, 41, 58] ?_ | refine st2 ?_ | (show Fct ..; refine fctI (fun hf => ?_)) | (show SWp _ _ _ (.cond _ _ _) _ _ _ _; first | refine cB (fun hc => ?_) (fun hc => ?_) | refine cU ?_ ?_)))
      exact DVR
    · rw [hpo, if_pos rfl] at hnx
      have hvn := vols_next hnx
      have hai := aft_in hp hpo
      have cs := fun m => step_yes p i ri v m hp (by omega) hri (by omega) (by rw [hrv]; exact hpo)
      rw [hrv] at cs hcst
      generalize aftI p i v (rs.getD i default) = AF at *
      generalize costI p i v (rs.getD i default) = CO at *
      generalize volsC p rs i = VO at *
      (repeat' (first | refine swp_seq [0, 1, 2, 4, 5, 6, 7, 8, 9, 10, 11, 12, 13, 14, 15, 16, 22, 25, 32, 38, 39, 40, 41, 58] ?_ | refine st2 ?_ | (show CallQ ..; first | refine cQ (fun hcc => (by first | exact cx _)) ?_ | (refine lP ?_; refine lQ (fun hcc m => (by first | exact cx _)) ?_)) | (show XCallQ ..; first | refine xQ (fun hcc => (by first | exact cx _)) ?_ | (refine xlP ?_; refine xlQ (fun hcc m => (by first | exact cx _)) ?_)) | (show Fct ..; refine fctI (fun hf => ?_)) | (show SWp _ _ _ (.cond _ _ _) _ _ _ _; first | refine cB (fun hc => ?_) (fun hc => ?_) | refine cU ?_ ?_)))
      (refine cQT [40] (fun hcc => (cs _)) ?_)
      (repeat' (first | refine swp_seq [0, 1, 2, 4, 5, 6, 7, 8, 9, 10, 11, 12, 13, 14, 15, 16, 22, 25, 32, 38, 39, 40, 41, 58] ?_ | refine st2 ?_ | (show Fct ..; refine fctI (fun hf => ?_)) | (show SWp _ _ _ (.cond _ _ _) _ _ _ _; first | refine cB (fun hc => ?_) (fun hc => ?_) | refine cU ?_ ?_)))
      (refine lN [0, 40, 264] ?_)
      exact ⟨_, by omega, i + 1, s + CO, AF, by omega, rfl, hnx, hai, by omega, rfl, by rw [hvn]⟩
  have hi2 : i = rs.length := by omega
  have hi3 : ¬ ((i : Int) < (rs.length : Int)) := by omega
  (have := Nonempty.intro hi3)
  have g9 := g3
  rw [hi2] at g9
  rw [g9]
  (repeat' (first | refine swp_seq [0, 1, 2, 4, 5, 6, 7, 8, 9, 10, 11, 12, 13, 14, 15, 16, 22, 25, 32, 38, 39, 40, 41, 58] ?_ | refine st2 ?_ | (show Fct ..; refine fctI (fun hf => ?_)) | (show SWp _ _ _ (.cond _ _ _) _ _ _ _; first | refine cB (fun hc => ?_) (fun hc => ?_) | refine cU ?_ ?_)))
  (refine DVQ ?_)
  rw [hi2]
def gapR (p : Plan) (l : List (List Int)) (rs : List Int) : Int × Int :=
  if ¬ (boundR p l).2 = 0 then (0, (boundR p l).2) else if ¬ (costR p rs).2.2 = 0 then (0, (costR p rs).2.2) else ((costR p rs).1 - (boundR p l).1, 0)
theorem bound_in {p : Plan} {l : List (List Int)} : 0 ≤ (boundR p l).1 ∧ (boundR p l).1 ≤ 1152921504606846976 := by
  unfold boundR
  split
  · exact ⟨Int.le_refl (0 : Int), (by decide : (0 : Int) ≤ 1152921504606846976)⟩
  split
  · exact ⟨Int.le_refl (0 : Int), (by decide : (0 : Int) ≤ 1152921504606846976)⟩
  split
  · exact ⟨Int.le_refl (0 : Int), (by decide : (0 : Int) ≤ 1152921504606846976)⟩
  next h0 _ h1 =>
  have h0 : givenE p l = 0 := by simpa using h0
  obtain ⟨hp, hln, hrow⟩ := given_in h0
  have := atR_in (hrow 0 (by omega)).1 p.start
  dsimp only
  omega
theorem path_in {p : Plan} (hp : planB p = true) {rs : List Int} (hl : rs.length = p.inf.length) (hm : ∀ i, i < rs.length → p.rel.any (eqB (rs.getD i default)) = true) : ∀ i, i ≤ rs.length → ∀ s v, pathC p rs i = some (s, v) → (p.res ≤ v ∧ v ≤ p.cap) ∧ 0 ≤ s ∧ s ≤ (i : Int) * 4398046511104000 := by
  intro i
  induction i with
  | zero =>
    intro _ s v h
    rw [pathC] at h
    cases h
    exact ⟨(planB_in hp).2.2.1, by omega, by omega⟩
  | succ i ih =>
    intro hi s v h
    obtain ⟨s0, v0, h0, hpo, rfl, rfl⟩ := path_pred h
    obtain ⟨a1, a2, a3⟩ := ih (by omega) s0 v0 h0
    have hin := planB_in hp
    obtain ⟨ri, hri, hrv, _⟩ := eqB_mem (hm i (by omega))
    have hc := cost_in hp (show i < p.inf.length by omega) (v := v0) (by omega) hri
    rw [hrv] at hc
    exact ⟨aft_in hp hpo, by omega, by push_cast; omega⟩
theorem cost_sm {p : Plan} {rs : List Int} : 0 ≤ (costR p rs).1 ∧ (costR p rs).1 ≤ 879609302220800000 := by
  unfold costR
  split
  · exact ⟨Int.le_refl (0 : Int), (by decide : (0 : Int) ≤ 879609302220800000)⟩
  next hp =>
  split
  · exact ⟨Int.le_refl (0 : Int), (by decide : (0 : Int) ≤ 879609302220800000)⟩
  next hl =>
  split
  · exact ⟨Int.le_refl (0 : Int), (by decide : (0 : Int) ≤ 879609302220800000)⟩
  next hany =>
  have hp : planB p = true := by simpa using hp
  have hl : rs.length = p.inf.length := by simpa using hl
  have hany : (rs.any fun r => !p.rel.any (eqB r)) = false := by simpa using hany
  have hmem : ∀ i, i < rs.length → p.rel.any (eqB (rs.getD i default)) = true := fun i hi => by
    have := (List.any_eq_false.1 hany) _ (getD_mem hi)
    simpa using this
  cases h : pathC p rs rs.length with
  | none => exact ⟨Int.le_refl (0 : Int), (by decide : (0 : Int) ≤ 879609302220800000)⟩
  | some a =>
    obtain ⟨s, v⟩ := a
    have := path_in hp hl hmem _ (Nat.le_refl _) s v h
    have h200 := (planB_in hp).2.2.2.1
    dsimp only
    omega
set_option maxHeartbeats 4000000 in
theorem gap_f (p : Plan) (l : List (List Int)) (rs : List Int) (m : Nat) (hq : planOk p) (hl : rowsOk l) (hr : rs.length ≤ 281474976710656) : DCalls Try.prog 11 [planD p, intss l, ints rs] (hget []) m (.tup [li (gapR p l rs).1, li (gapR p l rs).2]) (hget []) := by
  have cb := fun m => bound_f p l m hq hl
  have cc := fun m => cost_f p rs m hq hr
  have hb := bound_in (p := p) (l := l)
  have hs := cost_sm (p := p) (rs := rs)
  unfold gapR
  generalize boundR p l = B at *
  generalize costR p rs = C at *
  obtain ⟨b, e⟩ := B
  obtain ⟨c, vs, f⟩ := C
  dsimp only at *
  by_cases he : e = 0
  · subst he
    rw [if_neg (fun k => k rfl)]
    by_cases hf : f = 0
    · subst hf
      rw [if_neg (fun k => k rfl)]
      refine pureC (n := 34) (rs := [.tmp 6, .tmp 7]) (ts := [3, 30]) Try.func11 rfl (by decide) [] (by (exact SD)) ?_
      (repeat' (first | refine swp_seq [0, 1, 2, 3, 6, 7, 8, 9, 10, 19, 29] ?_ | refine st2 ?_ | (show CallQ ..; first | refine cQ (fun hcc => (by first | exact cb _ | exact cc _)) ?_ | (refine lP ?_; refine lQ (fun hcc m => (by first | exact cb _ | exact cc _)) ?_)) | (show Fct ..; refine fctI (fun hf => ?_)) | (show SWp _ _ _ (.cond _ _ _) _ _ _ _; first | refine cB (fun hc => ?_) (fun hc => ?_) | refine cU ?_ ?_)))
      exact DVR
    · rw [if_pos hf]
      (have := Nonempty.intro hf)
      refine pureC (n := 34) (rs := [.tmp 6, .tmp 7]) (ts := [3, 30]) Try.func11 rfl (by decide) [] (by (exact SD)) ?_
      (repeat' (first | refine swp_seq [0, 1, 2, 3, 6, 7, 8, 9, 10, 19, 29] ?_ | refine st2 ?_ | (show CallQ ..; first | refine cQ (fun hcc => (by first | exact cb _ | exact cc _)) ?_ | (refine lP ?_; refine lQ (fun hcc m => (by first | exact cb _ | exact cc _)) ?_)) | (show Fct ..; refine fctI (fun hf => ?_)) | (show SWp _ _ _ (.cond _ _ _) _ _ _ _; first | refine cB (fun hc => ?_) (fun hc => ?_) | refine cU ?_ ?_)))
      exact DVR
  · rw [if_pos he]
    (have := Nonempty.intro he)
    refine pureC (n := 34) (rs := [.tmp 6, .tmp 7]) (ts := [3, 30]) Try.func11 rfl (by decide) [] (by (exact SD)) ?_
    (repeat' (first | refine swp_seq [0, 1, 2, 3, 6, 7, 8, 9, 10, 19, 29] ?_ | refine st2 ?_ | (show CallQ ..; first | refine cQ (fun hcc => (by first | exact cb _ | exact cc _)) ?_ | (refine lP ?_; refine lQ (fun hcc m => (by first | exact cb _ | exact cc _)) ?_)) | (show Fct ..; refine fctI (fun hf => ?_)) | (show SWp _ _ _ (.cond _ _ _) _ _ _ _; first | refine cB (fun hc => ?_) (fun hc => ?_) | refine cU ?_ ?_)))
    exact DVR
def tmM (a : Int) (n : Nat) : Nat := a.toNat % n
theorem tmM_eq (a : Int) (n : Nat) [h : Nonempty (0 ≤ a)] : a.tmod (n : Int) = (tmM a n : Int) := by
  obtain ⟨z, rfl⟩ : ∃ z : Nat, a = z := ⟨a.toNat, by have := h.elim id; omega⟩
  rw [Int.tmod_eq_emod_of_nonneg (by omega)]; simp [tmM]
attribute [push_cast] tmM_eq
def readyB (p : Plan) : Bool := decide (p.inf.length ≤ 8) && decide (p.rel.length ≤ 5) && decide (p.pen.length ≤ 30) && planB p
set_option maxHeartbeats 1000000 in
theorem ready_f (p : Plan) (m : Nat) (hq : planOk p) : DCalls Try.prog 5 [planD p] (hget []) m (lb (readyB p)) (hget []) := by
  have cv := fun m => rPValid_f p m hq
  have e1 : decide ((p.inf.length : Int) ≤ 8) = decide (p.inf.length ≤ 8) := by rw [decide_eq_decide]; omega
  have e2 : decide ((p.rel.length : Int) ≤ 5) = decide (p.rel.length ≤ 5) := by rw [decide_eq_decide]; omega
  have e3 : decide ((p.pen.length : Int) ≤ 30) = decide (p.pen.length ≤ 30) := by rw [decide_eq_decide]; omega
  unfold readyB
  by_cases h1 : (p.inf.length : Int) ≤ 8
  · by_cases h2 : (p.rel.length : Int) ≤ 5
    · by_cases h3 : (p.pen.length : Int) ≤ 30
      · (have := Nonempty.intro h1)
        (have := Nonempty.intro h2)
        (have := Nonempty.intro h3)
        rw [decide_eq_true (by omega : p.inf.length ≤ 8), decide_eq_true (by omega : p.rel.length ≤ 5), decide_eq_true (by omega : p.pen.length ≤ 30)]
        refine pureC (n := 23) (rs := [.tmp 2]) (ts := [4]) Try.func5 rfl (by decide) [] (by (exact SD)) ?_
        (repeat' (first | refine swp_seq [0, 1, 2] ?_ | refine st2 ?_ | (show CallQ ..; first | refine cQ (fun hcc => (by first | exact cv _)) ?_ | (refine lP ?_; refine lQ (fun hcc m => (by first | exact cv _)) ?_)) | (show Fct ..; refine fctI (fun hf => ?_)) | (show SWp _ _ _ (.cond _ _ _) _ _ _ _; first | refine cB (fun hc => ?_) (fun hc => ?_) | refine cU ?_ ?_)))
        exact DVR
      · (have := Nonempty.intro h1)
        (have := Nonempty.intro h2)
        (have := Nonempty.intro h3)
        rw [decide_eq_false (by omega : ¬ p.pen.length ≤ 30)]
        refine pureC (n := 23) (rs := [.tmp 2]) (ts := [4]) Try.func5 rfl (by decide) [] (by (exact SD)) ?_
        (repeat' (first | refine swp_seq [0, 1, 2] ?_ | refine st2 ?_ | (show CallQ ..; first | refine cQ (fun hcc => (by first | exact cv _)) ?_ | (refine lP ?_; refine lQ (fun hcc m => (by first | exact cv _)) ?_)) | (show Fct ..; refine fctI (fun hf => ?_)) | (show SWp _ _ _ (.cond _ _ _) _ _ _ _; first | refine cB (fun hc => ?_) (fun hc => ?_) | refine cU ?_ ?_)))
        exact DVR
    · (have := Nonempty.intro h1)
      (have := Nonempty.intro h2)
      rw [decide_eq_false (by omega : ¬ p.rel.length ≤ 5)]
      refine pureC (n := 23) (rs := [.tmp 2]) (ts := [4]) Try.func5 rfl (by decide) [] (by (exact SD)) ?_
      (repeat' (first | refine swp_seq [0, 1, 2] ?_ | refine st2 ?_ | (show CallQ ..; first | refine cQ (fun hcc => (by first | exact cv _)) ?_ | (refine lP ?_; refine lQ (fun hcc m => (by first | exact cv _)) ?_)) | (show Fct ..; refine fctI (fun hf => ?_)) | (show SWp _ _ _ (.cond _ _ _) _ _ _ _; first | refine cB (fun hc => ?_) (fun hc => ?_) | refine cU ?_ ?_)))
      exact DVR
  · (have := Nonempty.intro h1)
    rw [decide_eq_false (by omega : ¬ p.inf.length ≤ 8)]
    refine pureC (n := 23) (rs := [.tmp 2]) (ts := [4]) Try.func5 rfl (by decide) [] (by (exact SD)) ?_
    (repeat' (first | refine swp_seq [0, 1, 2] ?_ | refine st2 ?_ | (show CallQ ..; first | refine cQ (fun hcc => (by first | exact cv _)) ?_ | (refine lP ?_; refine lQ (fun hcc m => (by first | exact cv _)) ?_)) | (show Fct ..; refine fctI (fun hf => ?_)) | (show SWp _ _ _ (.cond _ _ _) _ _ _ _; first | refine cB (fun hc => ?_) (fun hc => ?_) | refine cU ?_ ?_)))
    exact DVR
def pickS (p : Plan) (a : List UInt8) (k : Nat) (v : Int) : Int :=
  if 0 < a.length then (p.rel.filter (possB p k v)).getD (tmM ((a.getD (tmM k a.length) default).toNat : Int) (p.rel.filter (possB p k v)).length) default else (p.rel.filter (possB p k v)).getD 0 default
def goS (p : Plan) (a : List UInt8) : Nat → Option (List Int × Int)
  | 0 => some ([], p.start)
  | k + 1 => match goS p a k with
    | none => none
    | some (out, v) => if (p.rel.filter (possB p k v)).length = 0 then none else some (out ++ [pickS p a k v], aftI p k v (pickS p a k v))
def schedR (p : Plan) (a : List UInt8) : List Int × Bool := match goS p a p.inf.length with
  | none => ([], false)
  | some (out, _) => (out, true)
theorem goS_none {p : Plan} {a : List UInt8} {i : Nat} (h : goS p a i = none) : ∀ n, i ≤ n → goS p a n = none := by
  intro n
  induction n with
  | zero => intro hi; obtain rfl : i = 0 := by omega
            exact h
  | succ n ih =>
    intro hi
    by_cases e : i = n + 1
    · rw [← e]; exact h
    · rw [goS, ih (by omega)]
theorem goS_next {p : Plan} {a : List UInt8} {i : Nat} {out : List Int} {v : Int} (h : goS p a i = some (out, v)) : goS p a (i + 1) = if (p.rel.filter (possB p i v)).length = 0 then none else some (out ++ [pickS p a i v], aftI p i v (pickS p a i v)) := by
  rw [goS, h]
theorem filt_snoc {p : Plan} {k i : Nat} {v : Int} (hi : i < p.rel.length) : (p.rel.take (i + 1)).filter (possB p k v) = (p.rel.take i).filter (possB p k v) ++ if possB p k v (p.rel.getD i default) = true then [p.rel.getD i default] else [] := by
  rw [take_snoc hi, List.filter_append, List.filter_cons, List.filter_nil]
theorem pick_mem {p : Plan} {a : List UInt8} {k : Nat} {v : Int} (h : ¬ (p.rel.filter (possB p k v)).length = 0) : pickS p a k v ∈ p.rel.filter (possB p k v) := by
  unfold pickS
  split
  · exact getD_mem (Nat.mod_lt _ (by omega))
  · exact getD_mem (by omega)

end Go.Proofs.Ytlailhdmgehniaa
