/-
  Contracts of functions of the program, over the engine.
  No condition.
-/
import Derived.Test.YtlailhdmgehniaaCW2W3W4W5W6
import Derived.Test.YtlailhdmgehniaaCC33C34C35KSC36K1K2
import Derived.Test.YtlailhdmgehniaaCC25C29C30C31C32
namespace Go.Proofs.Ytlailhdmgehniaa
open Go.Eng
set_option linter.all false
attribute [local irreducible] DCallsG SWp Fct CallQ XCallQ LCallQ XLCallQ drun xrun

theorem planB_in {p : Plan} (h : planB p = true) : (1 ≤ p.cap ∧ p.cap ≤ 1099511627776) ∧ (0 ≤ p.res ∧ p.res ≤ p.cap) ∧ (p.res ≤ p.start ∧ p.start ≤ p.cap) ∧ p.inf.length ≤ 200 ∧ (1 ≤ p.rel.length ∧ p.rel.length ≤ 20) ∧ (0 ≤ p.wei ∧ p.wei ≤ 1000) ∧ tabB p.pen = true ∧
    (∀ i, i < p.inf.length → 0 ≤ p.inf.getD i default ∧ p.inf.getD i default ≤ 1099511627776) ∧ (∀ i, i < p.rel.length → 0 ≤ p.rel.getD i default ∧ p.rel.getD i default ≤ 1099511627776) ∧ ∀ x, 0 ≤ floorT p.pen x ∧ floorT p.pen x ≤ 1099511627776 := by
  unfold planB headB at h
  simp only [Bool.and_eq_true, decide_eq_true_eq, List.all_eq_true, List.mem_range] at h
  obtain ⟨⟨⟨⟨⟨⟨⟨⟨⟨h1, h2⟩, h3⟩, h4⟩, h5⟩, h6⟩, h7⟩, h8⟩, h9⟩, h10⟩ := h
  refine ⟨h1, h2, h3, h4, h5, h6, h7, fun i hi => ?_, fun i hi => ?_, fun x => ?_⟩
  · have := h8 i hi
    unfold volP at this
    simpa using this
  · have := h9 i hi
    unfold relR volP at this
    simp only [Bool.and_eq_true, decide_eq_true_eq] at this
    exact this.1
  · have := floorT_in (x := x) h7
    omega
theorem rowB_in {p : Plan} {r : List Int} (h : rowB p r = true) : r.length % 2 = 0 ∧ (∀ j, j < r.length / 2 → (p.res ≤ r.getD (2 * j) default ∧ r.getD (2 * j) default ≤ p.cap) ∧ (-1 ≤ r.getD (2 * j + 1) default ∧ r.getD (2 * j + 1) default ≤ 1152921504606846976)) ∧ ∀ i j, i < j → j < r.length / 2 → r.getD (2 * i) default < r.getD (2 * j) default := by
  unfold rowB at h
  simp only [Bool.and_eq_true, decide_eq_true_eq, List.all_eq_true, List.mem_range] at h
  obtain ⟨h1, h2⟩ := h
  have h3 : ∀ j, j < r.length / 2 → (p.res ≤ r.getD (2 * j) default ∧ r.getD (2 * j) default ≤ p.cap) ∧ (-1 ≤ r.getD (2 * j + 1) default ∧ r.getD (2 * j + 1) default ≤ 1152921504606846976) ∧ (j = 0 ∨ r.getD (2 * j - 2) default < r.getD (2 * j) default) := fun j hj => by
    have := h2 j hj
    unfold rowC at this
    simp only [Bool.and_eq_true, Bool.or_eq_true, decide_eq_true_eq] at this
    omega
  refine ⟨h1, fun j hj => ⟨(h3 j hj).1, (h3 j hj).2.1⟩, fun i j => ?_⟩
  induction j with
  | zero => intro hij; omega
  | succ j ih =>
    intro hij hj
    have h4 := (h3 (j + 1) hj).2.2
    have e : 2 * (j + 1) - 2 = 2 * j := by omega
    rw [e] at h4
    by_cases e2 : i = j
    · subst e2; omega
    · have := ih (by omega) (by omega)
      omega
def leftI (p : Plan) (k : Nat) (v r : Int) : Int := v + p.inf.getD k default - r
def possB (p : Plan) (k : Nat) (v r : Int) : Bool := decide (p.res ≤ leftI p k v r)
def aftI (p : Plan) (k : Nat) (v r : Int) : Int := if p.cap < leftI p k v r then p.cap else leftI p k v r
def costI (p : Plan) (k : Nat) (v r : Int) : Int := floorT p.pen r + p.wei * (leftI p k v r - aftI p k v r)
def relB (x : Int) (a : Int × Bool) (c : Int) : Bool := a.2 && (decide (a.1 = -1) || (!decide (x = -1) && decide (x ≤ c + a.1)))
def stB (p : Plan) (k : Nat) (v x : Int) (R : List Int) (r : Int) : Bool := !possB p k v r || relB x (atR R (aftI p k v r)) (costI p k v r)
theorem cost_in {p : Plan} (h : planB p = true) {k : Nat} (hk : k < p.inf.length) {v : Int} (hv : 0 ≤ v ∧ v ≤ 1099511627776) {i : Nat} (hi : i < p.rel.length) :
    (-1099511627776 ≤ leftI p k v (p.rel.getD i default) ∧ leftI p k v (p.rel.getD i default) ≤ 2199023255552) ∧ (0 ≤ leftI p k v (p.rel.getD i default) - aftI p k v (p.rel.getD i default) ∧ leftI p k v (p.rel.getD i default) - aftI p k v (p.rel.getD i default) ≤ 2199023255552) ∧
    (0 ≤ p.wei * (leftI p k v (p.rel.getD i default) - aftI p k v (p.rel.getD i default)) ∧ p.wei * (leftI p k v (p.rel.getD i default) - aftI p k v (p.rel.getD i default)) ≤ 2199023255552000) ∧ (0 ≤ costI p k v (p.rel.getD i default) ∧ costI p k v (p.rel.getD i default) ≤ 4398046511104000) := by
  obtain ⟨h1, h2, h3, h4, h5, h6, h7, h8, h9, h10⟩ := planB_in h
  have a := h8 k hk
  have b := h9 i hi
  have c := h10 (p.rel.getD i default)
  have hl : -1099511627776 ≤ leftI p k v (p.rel.getD i default) ∧ leftI p k v (p.rel.getD i default) ≤ 2199023255552 := by unfold leftI; omega
  unfold costI
  generalize p.rel.getD i default = r at *
  have hs : 0 ≤ leftI p k v r - aftI p k v r ∧ leftI p k v r - aftI p k v r ≤ 2199023255552 := by unfold aftI; split <;> omega
  generalize leftI p k v r - aftI p k v r = s at *
  have m1 : 0 ≤ p.wei * s := Int.mul_nonneg h6.1 hs.1
  have m2 : p.wei * s ≤ 1000 * 2199023255552 := Int.mul_le_mul h6.2 hs.2 hs.1 (by omega)
  exact ⟨hl, hs, ⟨m1, by omega⟩, by omega, by omega⟩
abbrev hJ (v : List (List Int)) (i x : Int) : LH := [(0, .blk 29 [intss v]), (1, .blk 3 [li i]), (2, .blk 3 [li x])]
abbrev hG : DV := .clo 37 [.ptr 0 0, .ptr 1 0, .ptr 2 0]
set_option maxRecDepth 20000 in
set_option maxHeartbeats 4000000 in
theorem holds1_f (l : List (List Int)) (k : Nat) (x a c : Int) (m : Nat) (hl : l.length ≤ 281474976710656) (hk : k + 1 < l.length) (h1 : (l.getD (k + 1) default).length ≤ 1048576) (h2 : (l.getD (k + 1) default).length % 2 = 0) (h3 : ∀ i j, i < j → j < (l.getD (k + 1) default).length / 2 → (l.getD (k + 1) default).getD (2 * i) default < (l.getD (k + 1) default).getD (2 * j) default)
    (hc : 0 ≤ c ∧ c ≤ 4398046511104000) (hy : -1 ≤ (atR (l.getD (k + 1) default) a).1 ∧ (atR (l.getD (k + 1) default) a).1 ≤ 1152921504606846976) :
    DCalls Try.prog 37 [li a, li c, .ptr 0 0, .ptr 1 0, .ptr 2 0] (hget (hJ l k x)) m (lb (relB x (atR (l.getD (k + 1) default) a) c)) (hget (hJ l k x)) := by
  have cf := fun m => find_f (l.getD (k + 1) default) a m h1 h2 h3
  (have := Nonempty.intro hk)
  generalize hA : atR (l.getD (k + 1) default) a = A at *
  obtain ⟨y, ok⟩ := A
  refine contract (n := 36) (rs := [.tmp 7]) (ts := [4]) Try.func37 rfl (by decide) 3 3 [] [] [] (lb (relB x (y, ok) c)) (hJ l k x) (by (exact SD)) (by (exact SD)) ?_
  (repeat' (first | refine swp_seq [0, 1, 2, 3, 4, 7, 8, 9] ?_ | refine st2 ?_ | (show CallQ ..; first | refine cQ (fun hcc => (by first | exact cf _)) ?_ | (refine lP ?_; refine lQ (fun hcc m => (by first | exact cf _)) ?_)) | (show Fct ..; refine fctI (fun hf => ?_)) | (show SWp _ _ _ (.cond _ _ _) _ _ _ _; first | refine cB (fun hc => ?_) (fun hc => ?_) | refine cU ?_ ?_)))
  (refine DVQ ?_)
  refine lbC ?_
  unfold relB
  have e1 : (y == -1) = decide (y = -1) := by rw [Bool.eq_iff_iff]; simp
  have e2 : (x != -1) = !decide (x = -1) := by rw [Bool.eq_iff_iff]; simp
  rw [e1, e2]
set_option maxRecDepth 20000 in
set_option maxHeartbeats 8000000 in
theorem steps_f (p : Plan) (l : List (List Int)) (k : Nat) (v x : Int) (m : Nat) (hp : planB p = true) (hq : planOk p) (hl : l.length ≤ 281474976710656) (hk : k + 1 < l.length) (hki : k < p.inf.length) (hv : 0 ≤ v ∧ v ≤ 1099511627776)
    (h1 : (l.getD (k + 1) default).length ≤ 1048576) (h2 : (l.getD (k + 1) default).length % 2 = 0) (h3 : ∀ i j, i < j → j < (l.getD (k + 1) default).length / 2 → (l.getD (k + 1) default).getD (2 * i) default < (l.getD (k + 1) default).getD (2 * j) default)
    (hy : ∀ a, -1 ≤ (atR (l.getD (k + 1) default) a).1 ∧ (atR (l.getD (k + 1) default) a).1 ≤ 1152921504606846976) :
    DCalls Try.prog 36 [planD p, li k, li v, hG] (hget (hJ l k x)) m (lb (p.rel.all (stB p k v x (l.getD (k + 1) default)))) (hget (hJ l k x)) := by
  have hin := planB_in hp
  have hr20 := hin.2.2.2.2.1
  (have := Nonempty.intro hki)
  refine contract (n := 61) (rs := [.tmp 8]) (ts := [4]) Try.func36 rfl (by decide) 3 3 [] [] [] (lb (p.rel.all (stB p k v x (l.getD (k + 1) default)))) (hJ l k x) (by (exact SD)) (by (exact SD)) ?_
  (repeat' (first | refine swp_seq [0, 1, 2, 3, 4, 8, 10, 11, 12, 13, 14, 16, 17, 18, 19, 34, 43, 59] ?_ | refine st2 ?_ | (show Fct ..; refine fctI (fun hf => ?_)) | (show SWp _ _ _ (.cond _ _ _) _ _ _ _; first | refine cB (fun hc => ?_) (fun hc => ?_) | refine cU ?_ ?_)))
  refine loop_swp [1, 2, 3, 4, 16, 17, 18] [0, 1, 2, 3] 4 (fun q A H => ∃ i : Nat, i ≤ p.rel.length ∧ q = p.rel.length - i ∧ (∀ j, j < i → stB p k v x (l.getD (k + 1) default) (p.rel.getD j default) = true) ∧ A = [(1, li k), (2, li v), (3, hG), (4, .ptr 3 0), (16, ints p.rel), (17, li p.rel.length), (18, li i)] ∧ H = hJ l k x ++ [(3, .blk 26 (planC p))]) (by omega) ?_ ?_ ?_
  · rintro q A H ⟨i, g1, g2, g3, rfl, rfl⟩
    exact ⟨by (exact SD), by (exact SD)⟩
  · refine ⟨_, 0, by omega, rfl, by omega, ?_, ?_⟩
    · exact DVR
    · exact DVR
  rintro q A H ⟨i, g1, g2, g3, rfl, rfl⟩
  by_cases hi : i < p.rel.length
  · have hi3 : (i : Int) < (p.rel.length : Int) := by omega
    (have := Nonempty.intro hi3)
    (have := Nonempty.intro hi)
    have hc := cost_in hp hki hv hi
    have hkin := hin.2.2.2.2.2.2.2.1 k hki
    have hrin := hin.2.2.2.2.2.2.2.2.1 i hi
    have hri : i64ok (p.rel.getD i default) := by unfold i64ok; omega
    have cf := fun m => floor_f p.pen (p.rel.getD i default) m hin.2.2.2.2.2.2.1 hri
    by_cases hpo : v + p.inf.getD k default - p.rel.getD i default < p.res
    · (have := Nonempty.intro hpo)
      (repeat' (first | refine swp_seq [0, 1, 2, 3, 4, 8, 10, 11, 12, 13, 14, 16, 17, 18, 19, 34, 43, 59] ?_ | refine st2 ?_ | (show Fct ..; refine fctI (fun hf => ?_)) | (show SWp _ _ _ (.cond _ _ _) _ _ _ _; first | refine cB (fun hc => ?_) (fun hc => ?_) | refine cU ?_ ?_)))
      (refine lN [0, 1, 2, 3] ?_)
      exact ⟨_, by omega, i + 1, by omega, rfl, fun j hj => by
        by_cases e : j = i
        · rw [e]; unfold stB possB leftI; rw [decide_eq_false (by omega)]; rfl
        · exact g3 j (by omega), rfl, rfl⟩
    · (have := Nonempty.intro hpo)
      have ch := fun m => holds1_f l k x (aftI p k v (p.rel.getD i default)) (costI p k v (p.rel.getD i default)) m hl hk h1 h2 h3 hc.2.2.2 (hy _)
      have hst : stB p k v x (l.getD (k + 1) default) (p.rel.getD i default) = relB x (atR (l.getD (k + 1) default) (aftI p k v (p.rel.getD i default))) (costI p k v (p.rel.getD i default)) := by
        unfold stB possB leftI; rw [decide_eq_true (by omega)]; rfl
      have eA : (if p.cap < v + p.inf.getD k default - p.rel.getD i default then p.cap else v + p.inf.getD k default - p.rel.getD i default) = aftI p k v (p.rel.getD i default) := rfl
      have eC : costI p k v (p.rel.getD i default) = floorT p.pen (p.rel.getD i default) + p.wei * (v + p.inf.getD k default - p.rel.getD i default - aftI p k v (p.rel.getD i default)) := rfl
      have eL : leftI p k v (p.rel.getD i default) = v + p.inf.getD k default - p.rel.getD i default := rfl
      rw [eC] at ch hst hc
      rw [eL] at hc
      clear eC eL
      generalize floorT p.pen (p.rel.getD i default) = F at *
      (repeat' (first | (show SWp _ _ _ (.seq (.region 10 _ _) _) _ _ _ _; refine (stop_in ?_)) | refine swp_seq [0, 1, 2, 3, 4, 8, 10, 11, 12, 13, 14, 16, 17, 18, 19, 34, 43, 59] ?_ | refine st2 ?_ | (show CallQ ..; first | refine cQ (fun hcc => (by first | exact cf _)) ?_ | (refine lP ?_; refine lQ (fun hcc m => (by first | exact cf _)) ?_)) | (show Fct ..; refine fctI (fun hf => ?_)) | (show SWp _ _ _ (.cond _ _ _) _ _ _ _; first | refine cB (fun hc => ?_) (fun hc => ?_) | refine cU ?_ ?_)))
      refine stop_out ?_
      rw [eA]
      clear eA
      generalize aftI p k v (p.rel.getD i default) = AF at *
      generalize hCC : F + p.wei * (v + p.inf.getD k default - p.rel.getD i default - AF) = CC at *
      cases hb : relB x (atR (l.getD (k + 1) default) AF) CC <;> simp only [hb] at ch hst
      · have hall : p.rel.all (stB p k v x (l.getD (k + 1) default)) = false := List.all_eq_false.2 ⟨_, getD_mem hi, by rw [hst]; decide⟩
        rw [hall]
        subst hCC
        (repeat' (first | refine swp_seq [0, 1, 2, 3, 4, 8, 10, 11, 12, 13, 14, 16, 17, 18, 19, 34, 43, 59] ?_ | refine st2 ?_ | (show CallQ ..; first | refine cQ (fun hcc => (by first | exact ch _)) ?_ | (refine lP ?_; refine lQ (fun hcc m => (by first | exact ch _)) ?_)) | (show Fct ..; refine fctI (fun hf => ?_)) | (show SWp _ _ _ (.cond _ _ _) _ _ _ _; first | refine cB (fun hc => ?_) (fun hc => ?_) | refine cU ?_ ?_)))
        exact DVR
      · subst hCC
        (repeat' (first | refine swp_seq [0, 1, 2, 3, 4, 8, 10, 11, 12, 13, 14, 16, 17, 18, 19, 34, 43, 59] ?_ | refine st2 ?_ | (show CallQ ..; first | refine cQ (fun hcc => (by first | exact ch _)) ?_ | (refine lP ?_; refine lQ (fun hcc m => (by first | exact ch _)) ?_)) | (show Fct ..; refine fctI (fun hf => ?_)) | (show SWp _ _ _ (.cond _ _ _) _ _ _ _; first | refine cB (fun hc => ?_) (fun hc => ?_) | refine cU ?_ ?_)))
        (refine lN [0, 1, 2, 3] ?_)
        exact ⟨_, by omega, i + 1, by omega, rfl, fun j hj => by
          by_cases e : j = i
          · rw [e]; exact hst
          · exact g3 j (by omega), rfl, rfl⟩
  have hi3 : ¬ ((i : Int) < (p.rel.length : Int)) := by omega
  (have := Nonempty.intro hi3)
  have hall : p.rel.all (stB p k v x (l.getD (k + 1) default)) = true := List.all_eq_true.2 fun r hr => by
    obtain ⟨j, hj, rfl⟩ := List.mem_iff_getElem.1 hr
    have := g3 j (by omega)
    have e : p.rel.getD j default = p.rel[j] := by rw [List.getD_eq_getElem?_getD, List.getElem?_eq_getElem hj]; rfl
    rwa [e] at this
  rw [hall]
  (repeat' (first | refine swp_seq [0, 1, 2, 3, 4, 8, 10, 11, 12, 13, 14, 16, 17, 18, 19, 34, 43, 59] ?_ | refine st2 ?_ | (show Fct ..; refine fctI (fun hf => ?_)) | (show SWp _ _ _ (.cond _ _ _) _ _ _ _; first | refine cB (fun hc => ?_) (fun hc => ?_) | refine cU ?_ ?_)))
  exact DVR
def holdsB (p : Plan) (l : List (List Int)) (k : Nat) : Bool :=
  (!decide (k = 0) || (atR (l.getD k default) p.start).2) && (List.range ((l.getD k default).length / 2)).all fun j =>
    if k + 1 = l.length then decide ((l.getD k default).getD (2 * j + 1) default = 0) else p.rel.all (stB p k ((l.getD k default).getD (2 * j) default) ((l.getD k default).getD (2 * j + 1) default) (l.getD (k + 1) default))
def failK (p : Plan) (l : List (List Int)) : Nat := (List.range l.length).findIdx fun k => !holdsB p l k
def checkR (p : Plan) (l : List (List Int)) : Bool × Int × Int :=
  if ¬ givenE p l = 0 then (false, 0, givenE p l) else if failK p l < l.length then (false, (failK p l : Int), 0) else (true, 0, 0)
def boundR (p : Plan) (l : List (List Int)) : Int × Int :=
  if ¬ givenE p l = 0 then (0, givenE p l) else if failK p l < l.length then (0, 13) else if (atR (l.getD 0 default) p.start).1 = -1 then (0, 12) else ((atR (l.getD 0 default) p.start).1, 0)
def pathC (p : Plan) (rs : List Int) : Nat → Option (Int × Int)
  | 0 => some (0, p.start)
  | i + 1 => match pathC p rs i with
    | none => none
    | some (s, v) => if possB p i v (rs.getD i default) = true then some (s + costI p i v (rs.getD i default), aftI p i v (rs.getD i default)) else none
theorem failK_all {p : Plan} {l : List (List Int)} (h : ¬ failK p l < l.length) {k : Nat} (hk : k < l.length) : holdsB p l k = true := by
  have h1 : failK p l = (List.range l.length).length := by
    have := List.findIdx_le_length (xs := List.range l.length) (p := fun k => !holdsB p l k)
    unfold failK at *
    simp only [List.length_range] at *
    omega
  have h2 := List.findIdx_eq_length.1 h1 k (List.mem_range.2 hk)
  simpa using h2
theorem atR_some {l : List Int} {v : Int} (h : (atR l v).2 = true) : ∃ j, j < l.length / 2 ∧ l.getD (2 * j) default = v ∧ atR l v = (l.getD (2 * j + 1) default, true) := by
  by_cases hx : ∃ j, j < l.length / 2 ∧ l.getD (2 * j) default = v
  · have key : ∀ n, (∃ j, j < n ∧ j < l.length / 2 ∧ l.getD (2 * j) default = v) → ∃ j, j < l.length / 2 ∧ l.getD (2 * j) default = v ∧ ∀ i, i < j → ¬ l.getD (2 * i) default = v := by
      intro n
      induction n with
      | zero => rintro ⟨j, hj, _⟩; omega
      | succ n ih =>
        rintro ⟨j, hj, h1, h2⟩
        by_cases hy : ∃ i, i < n ∧ i < l.length / 2 ∧ l.getD (2 * i) default = v
        · exact ih hy
        · refine ⟨j, h1, h2, fun i hi he => hy ⟨i, by omega, by omega, he⟩⟩
    obtain ⟨j, h1, h2⟩ := hx
    obtain ⟨j, h1, h2, h3⟩ := key (j + 1) ⟨j, by omega, h1, h2⟩
    exact ⟨j, h1, h2, atR_hit h1 h3 h2⟩
  · rw [atR_none fun i hi he => hx ⟨i, hi, he⟩] at h
    cases h
theorem stepsB_at {p : Plan} {l : List (List Int)} {k : Nat} (h : holdsB p l k = true) (hk : ¬ k + 1 = l.length) {v : Int} (hv : (atR (l.getD k default) v).2 = true) {r : Int} (hr : r ∈ p.rel) (hp : possB p k v r = true) :
    relB (atR (l.getD k default) v).1 (atR (l.getD (k + 1) default) (aftI p k v r)) (costI p k v r) = true := by
  obtain ⟨j, h1, h2, h3⟩ := atR_some hv
  unfold holdsB at h
  simp only [Bool.and_eq_true, List.all_eq_true, List.mem_range, if_neg hk] at h
  have h4 := h.2 j h1 r hr
  unfold stB at h4
  rw [h2, hp] at h4
  rw [h3]
  simpa using h4
theorem last_at {p : Plan} {l : List (List Int)} {k : Nat} (h : holdsB p l k = true) (hk : k + 1 = l.length) {v : Int} (hv : (atR (l.getD k default) v).2 = true) : (atR (l.getD k default) v).1 = 0 := by
  obtain ⟨j, h1, h2, h3⟩ := atR_some hv
  unfold holdsB at h
  simp only [Bool.and_eq_true, List.all_eq_true, List.mem_range, if_pos hk] at h
  rw [h3]
  simpa using h.2 j h1
theorem path_pred {p : Plan} {rs : List Int} {i : Nat} {s v : Int} (h : pathC p rs (i + 1) = some (s, v)) : ∃ s0 v0, pathC p rs i = some (s0, v0) ∧ possB p i v0 (rs.getD i default) = true ∧ s = s0 + costI p i v0 (rs.getD i default) ∧ v = aftI p i v0 (rs.getD i default) := by
  rw [pathC] at h
  cases h0 : pathC p rs i with
  | none => rw [h0] at h; cases h
  | some a =>
    obtain ⟨s0, v0⟩ := a
    rw [h0] at h
    dsimp only at h
    split at h
    · next hp =>
      cases h
      exact ⟨s0, v0, rfl, hp, rfl, rfl⟩
    · cases h
theorem path_at {p : Plan} {rs : List Int} {n : Nat} {s v : Int} (h : pathC p rs n = some (s, v)) : ∀ {i : Nat}, i ≤ n → ∃ s0 v0, pathC p rs i = some (s0, v0) := by
  induction n generalizing s v with
  | zero => intro i hi; obtain rfl : i = 0 := by omega
            exact ⟨s, v, h⟩
  | succ n ih =>
    intro i hi
    by_cases e : i = n + 1
    · subst e; exact ⟨s, v, h⟩
    · obtain ⟨s0, v0, h0, _⟩ := path_pred h
      exact ih h0 (by omega)
theorem bound_le {p : Plan} {l : List (List Int)} (hall : ∀ k, k < l.length → holdsB p l k = true) (hl : l.length = p.inf.length + 1) {rs : List Int} (hrs : ∀ i, i < p.inf.length → rs.getD i default ∈ p.rel) {s v : Int} (hp : pathC p rs p.inf.length = some (s, v)) :
    ¬ (atR (l.getD 0 default) p.start).1 = -1 ∧ (atR (l.getD 0 default) p.start).1 ≤ s := by
  have fwd : ∀ i, i ≤ p.inf.length → ∀ s0 v0, pathC p rs i = some (s0, v0) → (atR (l.getD i default) v0).2 = true := by
    intro i
    induction i with
    | zero =>
      intro _ s0 v0 h0
      rw [pathC] at h0
      cases h0
      have := hall 0 (by omega)
      unfold holdsB at this
      simp only [Bool.and_eq_true] at this
      simpa using this.1
    | succ i ih =>
      intro hi s1 v1 h1
      obtain ⟨s0, v0, h0, hpos, _, rfl⟩ := path_pred h1
      have := stepsB_at (hall i (by omega)) (by omega) (ih (by omega) s0 v0 h0) (hrs i (by omega)) hpos
      unfold relB at this
      simp only [Bool.and_eq_true] at this
      exact this.1
  have bwd : ∀ d i, i + d = p.inf.length → ∀ s0 v0, pathC p rs i = some (s0, v0) → ¬ (atR (l.getD i default) v0).1 = -1 ∧ (atR (l.getD i default) v0).1 ≤ s - s0 := by
    intro d
    induction d with
    | zero =>
      intro i hi s0 v0 h0
      obtain rfl : i = p.inf.length := by omega
      rw [hp] at h0
      cases h0
      have := last_at (hall _ (by omega)) (by omega) (fwd _ (Nat.le_refl _) _ _ hp)
      omega
    | succ d ih =>
      intro i hi s0 v0 h0
      obtain ⟨s1, v1, h1⟩ := path_at hp (show i + 1 ≤ p.inf.length by omega)
      have h2 := ih (i + 1) (by omega) s1 v1 h1
      obtain ⟨s0', v0', h0', hpos, e1, e2⟩ := path_pred h1
      rw [h0] at h0'
      cases h0'
      have h3 := stepsB_at (hall i (by omega)) (by omega) (fwd i (by omega) s0 v0 h0) (hrs i (by omega)) hpos
      rw [← e2] at h3
      unfold relB at h3
      simp only [Bool.and_eq_true, Bool.or_eq_true, Bool.not_eq_true', decide_eq_true_eq, decide_eq_false_iff_not] at h3
      rcases h3.2 with q | q
      · exact absurd q h2.1
      · exact ⟨q.1, by omega⟩
  have := bwd p.inf.length 0 (by omega) 0 p.start rfl
  omega
theorem given_in {p : Plan} {l : List (List Int)} (h : givenE p l = 0) : planB p = true ∧ l.length = p.inf.length + 1 ∧ (∀ i, i < l.length → rowB p (l.getD i default) = true ∧ (l.getD i default).length ≤ 8000) := by
  unfold givenE at h
  split at h
  · cases h
  next h1 =>
  split at h
  · cases h
  next h2 =>
  split at h
  · cases h
  next h3 =>
  have h1 : planB p = true := by simpa using h1
  have h3 : shapedB p l = true := by simpa using h3
  unfold shapedB at h3
  simp only [Bool.and_eq_true, decide_eq_true_eq, List.all_eq_true] at h3
  refine ⟨h1, h3.1, fun i hi => ⟨h3.2 _ (getD_mem hi), ?_⟩⟩
  have h2 : l.any bigB = false := by simpa using h2
  rw [List.any_eq_false] at h2
  have := h2 _ (getD_mem hi)
  unfold bigB at this
  simpa using this
theorem atR_in {p : Plan} {r : List Int} (h : rowB p r = true) (a : Int) : -1 ≤ (atR r a).1 ∧ (atR r a).1 ≤ 1152921504606846976 := by
  cases hb : (atR r a).2 with
  | true =>
    obtain ⟨j, h1, h2, h3⟩ := atR_some hb
    rw [h3]
    exact ((rowB_in h).2.1 j h1).2
  | false =>
    have key : ∀ n j, (atFrom r a n j).2 = false → (atFrom r a n j).1 = 0 := by
      intro n
      induction n with
      | zero => intro j _; rfl
      | succ n ih =>
        intro j hj
        rw [atFrom] at hj ⊢
        split at hj
        · cases hj
        · next q => rw [if_neg q]; exact ih _ hj
    have : (atR r a).1 = 0 := key _ _ hb
    omega
def pairB (p : Plan) (l : List (List Int)) (k j : Nat) : Bool := if k + 1 = l.length then decide ((l.getD k default).getD (2 * j + 1) default = 0) else p.rel.all (stB p k ((l.getD k default).getD (2 * j) default) ((l.getD k default).getD (2 * j + 1) default) (l.getD (k + 1) default))
set_option maxRecDepth 20000 in
set_option maxHeartbeats 8000000 in
theorem holds_f (p : Plan) (l : List (List Int)) (k : Nat) (m : Nat) (hq : planOk p) (hl : rowsOk l) (hg : givenE p l = 0) (hk : k < l.length) : DCalls Try.prog 18 [planD p, intss l, li k] (hget []) m (lb (holdsB p l k)) (hget []) := by
  obtain ⟨hp, hln, hrow⟩ := given_in hg
  have hin := planB_in hp
  obtain ⟨hrk, hr8⟩ := hrow k hk
  obtain ⟨he, hval, hsort⟩ := rowB_in hrk
  have hl1 := hl.1
  have cf := fun m => find_f (l.getD k default) p.start m (by omega) he hsort
  (have := Nonempty.intro hk)
  have hP : ∀ j, pairB p l k j = if k + 1 = l.length then decide ((l.getD k default).getD (2 * j + 1) default = 0) else p.rel.all (stB p k ((l.getD k default).getD (2 * j) default) ((l.getD k default).getD (2 * j + 1) default) (l.getD (k + 1) default)) := fun _ => rfl
  have hB : holdsB p l k = ((!decide (k = 0) || (atR (l.getD k default) p.start).2) && (List.range ((l.getD k default).length / 2)).all (pairB p l k)) := rfl
  rw [hB]
  clear hB
  generalize atR (l.getD k default) p.start = A at *
  obtain ⟨y, ok⟩ := A
  by_cases h0 : (k : Int) = 0 ∧ ok = false
  · obtain ⟨h0, rfl⟩ := h0
    rw [decide_eq_true (by omega : k = 0)]
    (have := Nonempty.intro h0)
    refine pureC (n := 58) (rs := [.tmp 6]) (ts := [4]) Try.func18 rfl (by decide) [] (by (exact SD)) ?_
    (repeat' (first | refine swp_seq [0, 1, 2, 3, 4, 5, 6, 7, 9, 10, 11, 12, 29, 38, 46, 48, 57] ?_ | refine st2 ?_ | (show CallQ ..; first | refine cQ (fun hcc => (by first | exact cf _)) ?_ | (refine lP ?_; refine lQ (fun hcc m => (by first | exact cf _)) ?_)) | (show XCallQ ..; first | refine xQ (fun hcc => (by first | exact cf _)) ?_ | (refine xlP ?_; refine xlQ (fun hcc m => (by first | exact cf _)) ?_)) | (show Fct ..; refine fctI (fun hf => ?_)) | (show SWp _ _ _ (.cond _ _ _) _ _ _ _; first | refine cB (fun hc => ?_) (fun hc => ?_) | refine cU ?_ ?_)))
    exact DVR
  have hh : (!decide (k = 0) || ok) = true := by
    by_cases e : k = 0
    · subst e
      have : ok = true := by
        cases ok
        · exact absurd ⟨rfl, rfl⟩ h0
        · rfl
      rw [this]; simp
    · rw [decide_eq_false e]; rfl
  rw [hh, Bool.true_and]
  refine pureC (n := 58) (rs := [.tmp 6]) (ts := [4]) Try.func18 rfl (by decide) [] (by (exact SD)) ?_
  (repeat' (first | (show SWp _ _ _ (.seq (.seq (.region 2 _ _) _) _) _ _ _ _; refine (stop_in ?_)) | refine swp_seq [0, 1, 2, 3, 4, 5, 6, 7, 9, 10, 11, 12, 29, 38, 46, 48, 57] ?_ | (show SWp _ _ _ (.region _ _ true) _ _ _ _; refine xG mixed [] ?_) | refine st2 ?_ | (show CallQ ..; first | refine cQ (fun hcc => (by fail)) ?_ | (refine lP ?_; refine lQ (fun hcc m => (by fail)) ?_)) | (show XCallQ ..; first | refine xQ (fun hcc => (by fail)) ?_ | (refine xlP ?_; refine xlQ (fun hcc m => (by fail)) ?_)) | (show Fct ..; refine fctI (fun hf => ?_)) | (show SWp _ _ _ (.cond _ _ _) _ _ _ _; first | refine cB (fun hc => ?_) (fun hc => ?_) | refine cU ?_ ?_)))
  refine stop_out ?_
  refine swp_mid [3, 4, 5, 7] [0, 8, 16] 17 (fun A H => A = [(3, .ptr 0 0), (4, .ptr 8 0), (5, .ptr 16 0), (7, ints (l.getD k default))] ∧ H = [(0, .blk 26 (planC p)), (8, .blk 29 [intss l]), (16, .blk 3 [li k])]) (by omega) ?_ ?_ ?_
  · rintro A H ⟨rfl, rfl⟩
    exact ⟨by (exact SD), by (exact SD)⟩
  · (repeat' (first | refine swp_seq [0, 1, 2, 3, 4, 5, 6, 7, 9, 10, 11, 12, 29, 38, 46, 48, 57] ?_ | refine st2 ?_ | (show CallQ ..; first | refine cQ (fun hcc => (by first | exact cf _)) ?_ | (refine lP ?_; refine lQ (fun hcc m => (by first | exact cf _)) ?_)) | (show XCallQ ..; first | refine xQ (fun hcc => (by first | exact cf _)) ?_ | (refine xlP ?_; refine xlQ (fun hcc m => (by first | exact cf _)) ?_)) | (show Fct ..; refine fctI (fun hf => ?_)) | (show SWp _ _ _ (.cond _ _ _) _ _ _ _; first | refine cB (fun hc => ?_) (fun hc => ?_) | refine cU ?_ ?_)))
    · exact absurd hc h0
    · exact midK_normal (A2 := [(3, .ptr 0 0), (4, .ptr 8 0), (5, .ptr 16 0), (7, ints (l.getD k default))]) (H2 := [(0, .blk 26 (planC p)), (8, .blk 29 [intss l]), (16, .blk 3 [li k])]) (by exact DVR) (by exact DVR) ⟨rfl, rfl⟩
  rintro A H ⟨rfl, rfl⟩
  (repeat' (first | refine swp_seq [0, 1, 2, 3, 4, 5, 6, 7, 9, 10, 11, 12, 29, 38, 46, 48, 57] ?_ | refine st2 ?_ | (show Fct ..; refine fctI (fun hf => ?_)) | (show SWp _ _ _ (.cond _ _ _) _ _ _ _; first | refine cB (fun hc => ?_) (fun hc => ?_) | refine cU ?_ ?_)))
  generalize hLB : ((k : Int) == (l.length : Int) - 1) = LB
  refine loop_swp [3, 4, 5, 7, 10, 11] [0, 8, 16] 17 (fun q A H => ∃ j k2 : Nat, k2 = 2 * j ∧ k2 ≤ (l.getD k default).length ∧ q = (l.getD k default).length - k2 ∧ (∀ i, i < j → pairB p l k i = true) ∧ A = [(3, .ptr 0 0), (4, .ptr 8 0), (5, .ptr 16 0), (7, ints (l.getD k default)), (10, lb LB), (11, li k2)] ∧ H = [(0, .blk 26 (planC p)), (8, .blk 29 [intss l]), (16, .blk 3 [li k])]) (by omega) ?_ ?_ ?_
  · rintro q A H ⟨j, k2, hk2, g1, g2, g3, rfl, rfl⟩
    exact ⟨by (exact SD), by (exact SD)⟩
  · refine ⟨_, 0, 0, rfl, by omega, rfl, by omega, ?_, ?_⟩
    · exact DVR
    · exact DVR
  rintro q A H ⟨j, k2, hk2, g1, g2, g3, rfl, rfl⟩
  by_cases hj : k2 < (l.getD k default).length
  · have hj3 : (k2 : Int) < ((l.getD k default).length : Int) := by omega
    (have := Nonempty.intro hj3)
    (have := Nonempty.intro hj)
    have hj5 : k2 + 1 < (l.getD k default).length := by omega
    (have := Nonempty.intro hj5)
    have hjl : j < (l.getD k default).length / 2 := by omega
    cases LB
    case true =>
      have hlast : (k : Int) = (l.length : Int) - 1 := by simpa using hLB
      have hlk : k + 1 = l.length := by omega
      have hPj : pairB p l k j = decide ((l.getD k default).getD (k2 + 1) default = 0) := by rw [hP, if_pos hlk, hk2]
      by_cases hx : (l.getD k default).getD (k2 + 1) default = 0
      · (have := Nonempty.intro hx)
        (repeat' (first | refine swp_seq [0, 1, 2, 3, 4, 5, 6, 7, 9, 10, 11, 12, 29, 38, 46, 48, 57] ?_ | refine st2 ?_ | (show Fct ..; refine fctI (fun hf => ?_)) | (show SWp _ _ _ (.cond _ _ _) _ _ _ _; first | refine cB (fun hc => ?_) (fun hc => ?_) | refine cU ?_ ?_)))
        (refine lN [0, 8, 16] ?_)
        exact ⟨_, by omega, j + 1, k2 + 2, by omega, by omega, rfl, fun i hi => by
          by_cases e : i = j
          · rw [e, hPj]; exact decide_eq_true hx
          · exact g3 i (by omega), rfl, rfl⟩
      · (have := Nonempty.intro hx)
        rw [rall_false (f := pairB p l k) hjl (by rw [hPj]; exact decide_eq_false hx)]
        (repeat' (first | refine swp_seq [0, 1, 2, 3, 4, 5, 6, 7, 9, 10, 11, 12, 29, 38, 46, 48, 57] ?_ | refine st2 ?_ | (show Fct ..; refine fctI (fun hf => ?_)) | (show SWp _ _ _ (.cond _ _ _) _ _ _ _; first | refine cB (fun hc => ?_) (fun hc => ?_) | refine cU ?_ ?_)))
        exact DVR
    case false =>
      have hlast : ¬ (k : Int) = (l.length : Int) - 1 := by simpa using hLB
      have hk1 : k + 1 < l.length := by omega
      obtain ⟨hr2, hr28⟩ := hrow (k + 1) hk1
      obtain ⟨he2, hval2, hsort2⟩ := rowB_in hr2
      have hv0 := hval j hjl
      rw [← hk2] at hv0
      have hPj : pairB p l k j = p.rel.all (stB p k ((l.getD k default).getD k2 default) ((l.getD k default).getD (k2 + 1) default) (l.getD (k + 1) default)) := by rw [hP, if_neg (by omega), hk2]
      have cs := fun m => steps_f p l k ((l.getD k default).getD k2 default) ((l.getD k default).getD (k2 + 1) default) m hp hq hl1 hk1 (by omega) (by omega) (by omega) he2 hsort2 (atR_in hr2)
      (repeat' (first | refine swp_seq [0, 1, 2, 3, 4, 5, 6, 7, 9, 10, 11, 12, 29, 38, 46, 48, 57] ?_ | (show SWp _ _ _ (.region _ _ true) _ _ _ _; refine xG mixed [8, 16, 89] ?_) | refine st2 ?_ | (show Fct ..; refine fctI (fun hf => ?_)) | (show SWp _ _ _ (.cond _ _ _) _ _ _ _; first | refine cB (fun hc => ?_) (fun hc => ?_) | refine cU ?_ ?_)))
      cases hb : p.rel.all (stB p k ((l.getD k default).getD k2 default) ((l.getD k default).getD (k2 + 1) default) (l.getD (k + 1) default)) <;> simp only [hb] at cs hPj
      · rw [rall_false (f := pairB p l k) hjl hPj]
        (refine xQT [8, 16, 89] (fun hcc => (cs _)) ?_)
        (repeat' (first | refine swp_seq [0, 1, 2, 3, 4, 5, 6, 7, 9, 10, 11, 12, 29, 38, 46, 48, 57] ?_ | (show SWp _ _ _ (.region _ _ true) _ _ _ _; refine xG mixed [8, 16, 89] ?_) | refine st2 ?_ | (show Fct ..; refine fctI (fun hf => ?_)) | (show SWp _ _ _ (.cond _ _ _) _ _ _ _; first | refine cB (fun hc => ?_) (fun hc => ?_) | refine cU ?_ ?_)))
        exact DVR
      · (refine xQT [8, 16, 89] (fun hcc => (cs _)) ?_)
        (repeat' (first | refine swp_seq [0, 1, 2, 3, 4, 5, 6, 7, 9, 10, 11, 12, 29, 38, 46, 48, 57] ?_ | (show SWp _ _ _ (.region _ _ true) _ _ _ _; refine xG mixed [8, 16, 89] ?_) | refine st2 ?_ | (show Fct ..; refine fctI (fun hf => ?_)) | (show SWp _ _ _ (.cond _ _ _) _ _ _ _; first | refine cB (fun hc => ?_) (fun hc => ?_) | refine cU ?_ ?_)))
        (refine lN [0, 8, 16] ?_)
        exact ⟨_, by omega, j + 1, k2 + 2, by omega, by omega, rfl, fun i hi => by
          by_cases e : i = j
          · rw [e, hPj]
          · exact g3 i (by omega), rfl, rfl⟩
  have hj3 : ¬ ((k2 : Int) < ((l.getD k default).length : Int)) := by omega
  (have := Nonempty.intro hj3)
  rw [rall_true (f := pairB p l k) fun i hi => g3 i (by omega)]
  (repeat' (first | refine swp_seq [0, 1, 2, 3, 4, 5, 6, 7, 9, 10, 11, 12, 29, 38, 46, 48, 57] ?_ | refine st2 ?_ | (show Fct ..; refine fctI (fun hf => ?_)) | (show SWp _ _ _ (.cond _ _ _) _ _ _ _; first | refine cB (fun hc => ?_) (fun hc => ?_) | refine cU ?_ ?_)))
  exact DVR
theorem failK_eq {p : Plan} {l : List (List Int)} {i : Nat} (hi : i < l.length) (h1 : ∀ j, j < i → holdsB p l j = true) (h2 : holdsB p l i = false) : failK p l = i := by
  unfold failK
  rw [List.findIdx_eq (by rw [List.length_range]; exact hi)]
  refine ⟨by simp [h2], fun j hj => ?_⟩
  simp [h1 j hj]
theorem failK_none {p : Plan} {l : List (List Int)} (h1 : ∀ j, j < l.length → holdsB p l j = true) : ¬ failK p l < l.length := fun h => by
  have h2 : (List.range l.length).findIdx (fun k => !holdsB p l k) < (List.range l.length).length := by rw [List.length_range]; exact h
  obtain ⟨x, hx, hb⟩ := List.findIdx_lt_length.1 h2
  rw [h1 x (List.mem_range.1 hx)] at hb
  cases hb
set_option maxRecDepth 20000 in
set_option maxHeartbeats 8000000 in
theorem check_f (p : Plan) (l : List (List Int)) (m : Nat) (hq : planOk p) (hl : rowsOk l) : DCalls Try.prog 7 [planD p, intss l] (hget []) m (.tup [lb (checkR p l).1, li (checkR p l).2.1, li (checkR p l).2.2]) (hget []) := by
  have cg := fun m => given_f p l m hq hl
  have hl1 := hl.1
  by_cases h0 : givenE p l = 0
  case neg =>
    rw [show checkR p l = (false, 0, givenE p l) from if_pos h0]
    generalize givenE p l = E at *
    (have := Nonempty.intro h0)
    refine pureC (n := 27) (rs := [.tmp 4, .tmp 5, .tmp 6]) (ts := [4, 3, 30]) Try.func7 rfl (by decide) [] (by (exact SD)) ?_
    (repeat' (first | refine swp_seq [0, 1, 2, 4, 5, 6, 7, 8, 13, 16, 17, 18, 24] ?_ | refine st2 ?_ | (show CallQ ..; first | refine cQ (fun hcc => (by first | exact cg _)) ?_ | (refine lP ?_; refine lQ (fun hcc m => (by first | exact cg _)) ?_)) | (show Fct ..; refine fctI (fun hf => ?_)) | (show SWp _ _ _ (.cond _ _ _) _ _ _ _; first | refine cB (fun hc => ?_) (fun hc => ?_) | refine cU ?_ ?_)))
    exact DVR
  have ch := fun i m hi => holds_f p l i m hq hl h0 hi
  have hC : checkR p l = if failK p l < l.length then (false, (failK p l : Int), 0) else (true, 0, 0) := if_neg (fun k => k h0)
  rw [hC]
  clear hC
  rw [h0] at cg
  refine pureC (n := 27) (rs := [.tmp 4, .tmp 5, .tmp 6]) (ts := [4, 3, 30]) Try.func7 rfl (by decide) [] (by (exact SD)) ?_
  (repeat' (first | refine swp_seq [0, 1, 2, 4, 5, 6, 7, 8, 13, 16, 17, 18, 24] ?_ | refine st2 ?_ | (show CallQ ..; first | refine cQ (fun hcc => (by first | exact cg _)) ?_ | (refine lP ?_; refine lQ (fun hcc m => (by first | exact cg _)) ?_)) | (show Fct ..; refine fctI (fun hf => ?_)) | (show SWp _ _ _ (.cond _ _ _) _ _ _ _; first | refine cB (fun hc => ?_) (fun hc => ?_) | refine cU ?_ ?_)))
  refine loop_swp [1, 2, 16, 17] [0] 1 (fun q A H => ∃ i : Nat, i ≤ l.length ∧ q = l.length - i ∧ (∀ j, j < i → holdsB p l j = true) ∧ A = [(1, intss l), (2, .ptr 0 0), (16, li l.length), (17, li i)] ∧ H = [(0, .blk 26 (planC p))]) (by omega) ?_ ?_ ?_
  · rintro q A H ⟨i, g1, g2, g3, rfl, rfl⟩
    exact ⟨by (exact SD), by (exact SD)⟩
  · refine ⟨_, 0, by omega, rfl, by omega, ?_, ?_⟩
    · exact DVR
    · exact DVR
  rintro q A H ⟨i, g1, g2, g3, rfl, rfl⟩
  by_cases hi : i < l.length
  · have hi3 : (i : Int) < (l.length : Int) := by omega
    (have := Nonempty.intro hi3)
    (have := Nonempty.intro hi)
    have chi := fun m => ch i m hi
    cases hb : holdsB p l i <;> simp only [hb] at chi
    · have e := failK_eq hi g3 hb
      rw [if_pos (by omega), e]
      (repeat' (first | refine swp_seq [0, 1, 2, 4, 5, 6, 7, 8, 13, 16, 17, 18, 24] ?_ | refine st2 ?_ | (show CallQ ..; first | refine cQ (fun hcc => (by first | exact chi _)) ?_ | (refine lP ?_; refine lQ (fun hcc m => (by first | exact chi _)) ?_)) | (show Fct ..; refine fctI (fun hf => ?_)) | (show SWp _ _ _ (.cond _ _ _) _ _ _ _; first | refine cB (fun hc => ?_) (fun hc => ?_) | refine cU ?_ ?_)))
      exact DVR
    · (repeat' (first | refine swp_seq [0, 1, 2, 4, 5, 6, 7, 8, 13, 16, 17, 18, 24] ?_ | refine st2 ?_ | (show CallQ ..; first | refine cQ (fun hcc => (by first | exact chi _)) ?_ | (refine lP ?_; refine lQ (fun hcc m => (by first | exact chi _)) ?_)) | (show Fct ..; refine fctI (fun hf => ?_)) | (show SWp _ _ _ (.cond _ _ _) _ _ _ _; first | refine cB (fun hc => ?_) (fun hc => ?_) | refine cU ?_ ?_)))
      (refine lN [0] ?_)
      exact ⟨_, by omega, i + 1, by omega, rfl, fun j hj => by
        by_cases e : j = i
        · rw [e, hb]
        · exact g3 j (by omega), rfl, rfl⟩
  have hi3 : ¬ ((i : Int) < (l.length : Int)) := by omega
  (have := Nonempty.intro hi3)
  rw [if_neg (failK_none fun j hj => g3 j (by omega))]
  (repeat' (first | refine swp_seq [0, 1, 2, 4, 5, 6, 7, 8, 13, 16, 17, 18, 24] ?_ | refine st2 ?_ | (show Fct ..; refine fctI (fun hf => ?_)) | (show SWp _ _ _ (.cond _ _ _) _ _ _ _; first | refine cB (fun hc => ?_) (fun hc => ?_) | refine cU ?_ ?_)))
  exact DVR
set_option maxRecDepth 20000 in
set_option maxHeartbeats 8000000 in
theorem bound_f (p : Plan) (l : List (List Int)) (m : Nat) (hq : planOk p) (hl : rowsOk l) : DCalls Try.prog 9 [planD p, intss l] (hget []) m (.tup [li (boundR p l).1, li (boundR p l).2]) (hget []) := by
  have cc := fun m => check_f p l m hq hl
  have hl1 := hl.1
  by_cases h0 : givenE p l = 0
  case neg =>
    rw [show boundR p l = (0, givenE p l) from if_pos h0]
    rw [show checkR p l = (false, 0, givenE p l) from if_pos h0] at cc
    generalize givenE p l = E at *
    (have := Nonempty.intro h0)
    refine pureC (n := 35) (rs := [.tmp 4, .tmp 5]) (ts := [3, 30]) Try.func9 rfl (by decide) [] (by (exact SD)) ?_
    (repeat' (first | refine swp_seq [0, 1, 2, 4, 5, 6, 8, 9, 19, 22, 33] ?_ | refine st2 ?_ | (show CallQ ..; first | refine cQ (fun hcc => (by first | exact cc _)) ?_ | (refine lP ?_; refine lQ (fun hcc m => (by first | exact cc _)) ?_)) | (show XCallQ ..; first | refine xQ (fun hcc => (by first | exact cc _)) ?_ | (refine xlP ?_; refine xlQ (fun hcc m => (by first | exact cc _)) ?_)) | (show Fct ..; refine fctI (fun hf => ?_)) | (show SWp _ _ _ (.cond _ _ _) _ _ _ _; first | refine cB (fun hc => ?_) (fun hc => ?_) | refine cU ?_ ?_)))
    exact DVR
  have hC : checkR p l = if failK p l < l.length then (false, (failK p l : Int), 0) else (true, 0, 0) := if_neg (fun k => k h0)
  have hB : boundR p l = if failK p l < l.length then (0, 13) else if (atR (l.getD 0 default) p.start).1 = -1 then (0, 12) else ((atR (l.getD 0 default) p.start).1, 0) := if_neg (fun k => k h0)
  rw [hB]
  rw [hC] at cc
  clear hC hB
  by_cases h1 : failK p l < l.length
  · rw [if_pos h1] at cc ⊢
    refine pureC (n := 35) (rs := [.tmp 4, .tmp 5]) (ts := [3, 30]) Try.func9 rfl (by decide) [] (by (exact SD)) ?_
    (repeat' (first | refine swp_seq [0, 1, 2, 4, 5, 6, 8, 9, 19, 22, 33] ?_ | refine st2 ?_ | (show CallQ ..; first | refine cQ (fun hcc => (by first | exact cc _)) ?_ | (refine lP ?_; refine lQ (fun hcc m => (by first | exact cc _)) ?_)) | (show XCallQ ..; first | refine xQ (fun hcc => (by first | exact cc _)) ?_ | (refine xlP ?_; refine xlQ (fun hcc m => (by first | exact cc _)) ?_)) | (show Fct ..; refine fctI (fun hf => ?_)) | (show SWp _ _ _ (.cond _ _ _) _ _ _ _; first | refine cB (fun hc => ?_) (fun hc => ?_) | refine cU ?_ ?_)))
    exact DVR
  rw [if_neg h1] at cc ⊢
  obtain ⟨hp, hln, hrow⟩ := given_in h0
  have hl0 : 0 < l.length := by omega
  have hl03 : (0 : Int) < (l.length : Int) := by omega
  obtain ⟨hrk, hr8⟩ := hrow 0 hl0
  obtain ⟨he, hval, hsort⟩ := rowB_in hrk
  have cf := fun m => find_f (l.getD 0 default) p.start m (by omega) he hsort
  (have := Nonempty.intro hl0)
  (have := Nonempty.intro hl03)
  generalize atR (l.getD 0 default) p.start = A at *
  obtain ⟨y, ok⟩ := A
  by_cases hy : y = -1
  · subst hy
    rw [if_pos rfl]
    refine pureC (n := 35) (rs := [.tmp 4, .tmp 5]) (ts := [3, 30]) Try.func9 rfl (by decide) [] (by (exact SD)) ?_
    (repeat' (first | refine swp_seq [0, 1, 2, 4, 5, 6, 8, 9, 19, 22, 33] ?_ | refine st2 ?_ | (show CallQ ..; first | refine cQ (fun hcc => (by first | exact cc _ | exact cf _)) ?_ | (refine lP ?_; refine lQ (fun hcc m => (by first | exact cc _ | exact cf _)) ?_)) | (show XCallQ ..; first | refine xQ (fun hcc => (by first | exact cc _ | exact cf _)) ?_ | (refine xlP ?_; refine xlQ (fun hcc m => (by first | exact cc _ | exact cf _)) ?_)) | (show Fct ..; refine fctI (fun hf => ?_)) | (show SWp _ _ _ (.cond _ _ _) _ _ _ _; first | refine cB (fun hc => ?_) (fun hc => ?_) | refine cU ?_ ?_)))
    exact DVR
  · (have := Nonempty.intro hy)
    rw [if_neg hy]
    refine pureC (n := 35) (rs := [.tmp 4, .tmp 5]) (ts := [3, 30]) Try.func9 rfl (by decide) [] (by (exact SD)) ?_
    (repeat' (first | refine swp_seq [0, 1, 2, 4, 5, 6, 8, 9, 19, 22, 33] ?_ | refine st2 ?_ | (show CallQ ..; first | refine cQ (fun hcc => (by first | exact cc _ | exact cf _)) ?_ | (refine lP ?_; refine lQ (fun hcc m => (by first | exact cc _ | exact cf _)) ?_)) | (show XCallQ ..; first | refine xQ (fun hcc => (by first | exact cc _ | exact cf _)) ?_ | (refine xlP ?_; refine xlQ (fun hcc m => (by first | exact cc _ | exact cf _)) ?_)) | (show Fct ..; refine fctI (fun hf => ?_)) | (show SWp _ _ _ (.cond _ _ _) _ _ _ _; first | refine cB (fun hc => ?_) (fun hc => ?_) | refine cU ?_ ?_)))
    exact DVR

end Go.Proofs.Ytlailhdmgehniaa
