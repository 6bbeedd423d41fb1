/-
  Contracts of functions of the program, over the engine.
  No condition.
-/
import Derived.Test.YtlailhdmgehniaaGreatCS6S7S8S9
import Derived.Test.YtlailhdmgehniaaGreatCP3P4
namespace Go.Proofs.YtlailhdmgehniaaGreat
open Go.Eng
set_option linter.all false
attribute [local irreducible] DCallsG SWp Fct CallQ XCallQ LCallQ XLCallQ drun xrun

def mapE (l : List (Int × Int)) : PV := .map (l.map fun e => .int .i64 e.1) (l.map fun e => .lit (.int .i64 e.2))
def intE (l : List (Int × Int)) : List (Value × DV) := l.map fun e => (.int .i64 e.1, li e.2)
def valI (l : List (Int × Int)) (k : Int) : Int := (l.lookup k).getD 0
def hasI (l : List (Int × Int)) (k : Int) : Bool := (l.lookup k).isSome
theorem mapE_of (l : List (Int × Int)) (h : Nat → Option HV) : mapOf (.p (mapE l)) h = some (intE l) := by
  unfold mapOf
  unfold mapE pmap intE
  simp only [List.map_map]
  congr 1
  induction l with
  | nil => rfl
  | cons e l ih => simp only [List.map_cons, List.zip_cons_cons, ih]; rfl
theorem intE_find (k : Int) : ∀ l : List (Int × Int), mfind (intE l) (.int .i64 k) = (l.lookup k).map li
  | [] => rfl
  | e :: l => by
    have ih := intE_find k l
    have e0 : intE (e :: l) = (.int .i64 e.1, li e.2) :: intE l := rfl
    rw [e0, mfind, List.lookup_cons]
    by_cases h : k = e.1
    · rw [if_pos (show vkey (.int .i64 k) (.int .i64 e.1) = true by simp [vkey, h])]
      simp [h]
    · rw [if_neg (show ¬ vkey (.int .i64 k) (.int .i64 e.1) = true by simp [vkey, h]), ih]
      have h2 : (k == e.1) = false := by simpa using h
      rw [h2]
theorem intE_val (l : List (Int × Int)) (k : Int) : (mfind (intE l) (.int .i64 k)).getD (.p (.lit (.int .i64 0))) = li (valI l k) := by
  rw [intE_find]; unfold valI
  cases l.lookup k <;> rfl
theorem intE_has (l : List (Int × Int)) (k : Int) : (mfind (intE l) (.int .i64 k)).isSome = hasI l k := by
  rw [intE_find]; unfold hasI
  cases l.lookup k <;> rfl
theorem intE_ok (l : List (Int × Int)) : keysOk (.int .i64) (intE l) = True :=
  propext ⟨fun _ => trivial, fun _ e he => by
    obtain ⟨z, _, rfl⟩ := List.mem_map.1 he
    rfl⟩
theorem hasI_f (l : List (Int × Int)) (k : Int) [h : Nonempty (hasI l k = false)] : hasI l k = false := h.elim id
theorem hasI_t (l : List (Int × Int)) (k : Int) [h : Nonempty (hasI l k = true)] : hasI l k = true := h.elim id
theorem mapE_pm (l : List (Int × Int)) : pmap (mapE l) = some (intE l) := mapE_of l (fun _ => none)
attribute [push_cast] mapE_pm
attribute [push_cast] intE_val intE_has intE_ok hasI_f hasI_t
attribute [irreducible] mapE intE valI hasI
def bestS (p : Plan) (k : Nat) (v : Int) (l : List (Int × Int)) (stx : Int × Int × Bool) (i : Nat) : Int × Int × Bool :=
  if possB p k v (p.rel.getD i default) && hasI l (aftI p k v (p.rel.getD i default)) && (!stx.2.2 || decide (costI p k v (p.rel.getD i default) + valI l (aftI p k v (p.rel.getD i default)) < stx.2.1)) then
    ((i : Int), costI p k v (p.rel.getD i default) + valI l (aftI p k v (p.rel.getD i default)), true) else stx
def bestN (p : Plan) (k : Nat) (v : Int) (l : List (Int × Int)) (i : Nat) : Int × Int × Bool := (List.range i).foldl (bestS p k v l) (0, 0, false)
def bestI (p : Plan) (k : Nat) (v : Int) (l : List (Int × Int)) : Int × Int × Bool := bestN p k v l p.rel.length
theorem bestN_next (p : Plan) (k : Nat) (v : Int) (l : List (Int × Int)) (i : Nat) : bestN p k v l (i + 1) = bestS p k v l (bestN p k v l i) i := by
  unfold bestN; rw [List.range_succ, List.foldl_append]; rfl
set_option maxRecDepth 20000 in
set_option maxHeartbeats 8000000 in
theorem best_f (p : Plan) (k : Nat) (v : Int) (l : List (Int × Int)) (m : Nat) (hp : planB p = true) (hk : k < p.inf.length) (hv : 0 ≤ v ∧ v ≤ 1099511627776) (hl : ∀ z, 0 ≤ valI l z ∧ valI l z ≤ 900000000000000000) :
    DCalls Tryz.prog 29 [.ptr 0 0, li k, li v, .p (mapE l)] (hget (tkH p)) m (.tup [li (bestI p k v l).1, li (bestI p k v l).2.1, lb (bestI p k v l).2.2]) (hget (tkH p)) := by
  have hin := planB_in hp
  have hrl := hin.2.2.2.2.1
  refine contract (n := 65) (rs := [.tmp 8, .tmp 9, .tmp 10]) (ts := [3, 3, 4]) Tryz.func29 rfl (by decide) 1 1 [] [] [] (.tup [li (bestI p k v l).1, li (bestI p k v l).2.1, lb (bestI p k v l).2.2]) (tkH p) (by (exact SD)) (by (exact SD)) ?_
  (repeat' (first | refine swp_seq [0, 1, 2, 3, 8, 9, 10, 11, 12, 13, 14, 15, 16, 17, 18, 24, 25, 26, 38, 56] ?_ | refine st2 ?_ | (show Fct ..; refine fctI (fun hf => ?_)) | (show SWp _ _ _ (.cond _ _ _) _ _ _ _; first | refine cB (fun hc => ?_) (fun hc => ?_) | refine cU ?_ ?_)))
  refine loop_swp [0, 1, 2, 3, 11, 12, 13, 24, 25] [0] 1 (fun q A H => ∃ i : Nat, i ≤ p.rel.length ∧ q = p.rel.length - i ∧ A = [(0, .ptr 0 0), (1, li k), (2, li v), (3, .p (mapE l)), (11, li (bestN p k v l i).1), (12, li (bestN p k v l i).2.1), (13, lb (bestN p k v l i).2.2), (24, li p.rel.length), (25, li i)] ∧ H = tkH p) (by omega) ?_ ?_ ?_
  · rintro q A H ⟨i, h1, h2, rfl, rfl⟩
    exact ⟨by (exact SD), by (exact SD)⟩
  · refine ⟨_, 0, by omega, rfl, ?_, ?_⟩
    · exact DVR
    · exact DVR
  rintro q A H ⟨i, h1, h2, rfl, rfl⟩
  by_cases hi : i < p.rel.length
  · have hi3 : (i : Int) < (p.rel.length : Int) := by omega
    have hnx := bestN_next p k v l i
    have hcst := cost_in hp hk hv hi
    (have := Nonempty.intro hi)
    (have := Nonempty.intro hi3)
    cases hpo : possB p k v (p.rel.getD i default)
    · have cs := fun m => step_no p k i v m hp hk hi hv hpo
      have e : bestN p k v l (i + 1) = bestN p k v l i := by rw [hnx]; unfold bestS; rw [hpo]; rfl
      (repeat' (first | refine swp_seq [0, 1, 2, 3, 8, 9, 10, 11, 12, 13, 14, 15, 16, 17, 18, 24, 25, 26, 38, 56] ?_ | refine st2 ?_ | (show Fct ..; refine fctI (fun hf => ?_)) | (show SWp _ _ _ (.cond _ _ _) _ _ _ _; first | refine cB (fun hc => ?_) (fun hc => ?_) | refine cU ?_ ?_)))
      (refine cQT [0] (fun hcc => (cs _)) ?_)
      (repeat' (first | refine swp_seq [0, 1, 2, 3, 8, 9, 10, 11, 12, 13, 14, 15, 16, 17, 18, 24, 25, 26, 38, 56] ?_ | refine st2 ?_ | (show Fct ..; refine fctI (fun hf => ?_)) | (show SWp _ _ _ (.cond _ _ _) _ _ _ _; first | refine cB (fun hc => ?_) (fun hc => ?_) | refine cU ?_ ?_)))
      rw [← e]
      (refine lN [0] ?_)
      exact ⟨_, by omega, i + 1, by omega, rfl, rfl, rfl⟩
    · have cs := fun m => step_yes p k i v m hp hk hi hv hpo
      have hlv := hl (aftI p k v (p.rel.getD i default))
      unfold bestS at hnx
      rw [hpo, Bool.true_and] at hnx
      generalize aftI p k v (p.rel.getD i default) = w at *
      generalize costI p k v (p.rel.getD i default) = c at *
      have hcc := hcst.2.2.2
      clear hcst
      obtain ⟨stx, hstx⟩ : ∃ stx, bestN p k v l i = stx := ⟨_, rfl⟩
      rw [hstx] at hnx ⊢
      obtain ⟨R, L, Fd⟩ := stx
      clear hstx
      have hc0 : 0 ≤ c ∧ c ≤ 4398046511104000 := hcc
      cases hh : hasI l w
      · rw [hh] at hnx
        have e : bestN p k v l (i + 1) = (R, L, Fd) := hnx
        (have := Nonempty.intro hh)
        (repeat' (first | refine swp_seq [0, 1, 2, 3, 8, 9, 10, 11, 12, 13, 14, 15, 16, 17, 18, 24, 25, 26, 38, 56] ?_ | refine st2 ?_ | (show Fct ..; refine fctI (fun hf => ?_)) | (show SWp _ _ _ (.cond _ _ _) _ _ _ _; first | refine cB (fun hc => ?_) (fun hc => ?_) | refine cU ?_ ?_)))
        (refine cQT [0] (fun hcc => (cs _)) ?_)
        (repeat' (first | refine swp_seq [0, 1, 2, 3, 8, 9, 10, 11, 12, 13, 14, 15, 16, 17, 18, 24, 25, 26, 38, 56] ?_ | refine st2 ?_ | (show Fct ..; refine fctI (fun hf => ?_)) | (show SWp _ _ _ (.cond _ _ _) _ _ _ _; first | refine cB (fun hc => ?_) (fun hc => ?_) | refine cU ?_ ?_)))
        (refine lN [0] ?_)
        exact ⟨_, by omega, i + 1, by omega, rfl, by rw [e]; rfl, rfl⟩
      · rw [hh, Bool.true_and] at hnx
        (have := Nonempty.intro hh)
        cases Fd
        · have e : bestN p k v l (i + 1) = ((i : Int), c + valI l w, true) := hnx
          (repeat' (first | refine swp_seq [0, 1, 2, 3, 8, 9, 10, 11, 12, 13, 14, 15, 16, 17, 18, 24, 25, 26, 38, 56] ?_ | refine st2 ?_ | (show Fct ..; refine fctI (fun hf => ?_)) | (show SWp _ _ _ (.cond _ _ _) _ _ _ _; first | refine cB (fun hc => ?_) (fun hc => ?_) | refine cU ?_ ?_)))
          (refine cQT [0] (fun hcc => (cs _)) ?_)
          (repeat' (first | refine swp_seq [0, 1, 2, 3, 8, 9, 10, 11, 12, 13, 14, 15, 16, 17, 18, 24, 25, 26, 38, 56] ?_ | refine st2 ?_ | (show Fct ..; refine fctI (fun hf => ?_)) | (show SWp _ _ _ (.cond _ _ _) _ _ _ _; first | refine cB (fun hc => ?_) (fun hc => ?_) | refine cU ?_ ?_)))
          (refine lN [0] ?_)
          exact ⟨_, by omega, i + 1, by omega, rfl, by rw [e]; rfl, rfl⟩
        · by_cases hlt : c + valI l w < L
          · have e : bestN p k v l (i + 1) = ((i : Int), c + valI l w, true) := by rw [hnx]; simp [hlt]
            (have := Nonempty.intro hlt)
            (repeat' (first | refine swp_seq [0, 1, 2, 3, 8, 9, 10, 11, 12, 13, 14, 15, 16, 17, 18, 24, 25, 26, 38, 56] ?_ | refine st2 ?_ | (show Fct ..; refine fctI (fun hf => ?_)) | (show SWp _ _ _ (.cond _ _ _) _ _ _ _; first | refine cB (fun hc => ?_) (fun hc => ?_) | refine cU ?_ ?_)))
            (refine cQT [0] (fun hcc => (cs _)) ?_)
            (repeat' (first | refine swp_seq [0, 1, 2, 3, 8, 9, 10, 11, 12, 13, 14, 15, 16, 17, 18, 24, 25, 26, 38, 56] ?_ | refine st2 ?_ | (show Fct ..; refine fctI (fun hf => ?_)) | (show SWp _ _ _ (.cond _ _ _) _ _ _ _; first | refine cB (fun hc => ?_) (fun hc => ?_) | refine cU ?_ ?_)))
            (refine lN [0] ?_)
            exact ⟨_, by omega, i + 1, by omega, rfl, by rw [e]; rfl, rfl⟩
          · have e : bestN p k v l (i + 1) = (R, L, true) := by rw [hnx]; simp [hlt]
            (have := Nonempty.intro hlt)
            (repeat' (first | refine swp_seq [0, 1, 2, 3, 8, 9, 10, 11, 12, 13, 14, 15, 16, 17, 18, 24, 25, 26, 38, 56] ?_ | refine st2 ?_ | (show Fct ..; refine fctI (fun hf => ?_)) | (show SWp _ _ _ (.cond _ _ _) _ _ _ _; first | refine cB (fun hc => ?_) (fun hc => ?_) | refine cU ?_ ?_)))
            (refine cQT [0] (fun hcc => (cs _)) ?_)
            (repeat' (first | refine swp_seq [0, 1, 2, 3, 8, 9, 10, 11, 12, 13, 14, 15, 16, 17, 18, 24, 25, 26, 38, 56] ?_ | refine st2 ?_ | (show Fct ..; refine fctI (fun hf => ?_)) | (show SWp _ _ _ (.cond _ _ _) _ _ _ _; first | refine cB (fun hc => ?_) (fun hc => ?_) | refine cU ?_ ?_)))
            (refine lN [0] ?_)
            exact ⟨_, by omega, i + 1, by omega, rfl, by rw [e]; rfl, rfl⟩
  obtain rfl : i = p.rel.length := by omega
  have hi3 : ¬ ((p.rel.length : Int) < (p.rel.length : Int)) := by omega
  (have := Nonempty.intro hi3)
  (repeat' (first | refine swp_seq [0, 1, 2, 3, 8, 9, 10, 11, 12, 13, 14, 15, 16, 17, 18, 24, 25, 26, 38, 56] ?_ | refine st2 ?_ | (show Fct ..; refine fctI (fun hf => ?_)) | (show SWp _ _ _ (.cond _ _ _) _ _ _ _; first | refine cB (fun hc => ?_) (fun hc => ?_) | refine cU ?_ ?_)))
  exact DVR
def stepsN (p : Plan) (k : Nat) (v : Int) (s : List Int) (i : Nat) : List Int := (List.range i).foldl (fun s i => if possB p k v (p.rel.getD i default) then insI s (aftI p k v (p.rel.getD i default)) else s) s
def nextN (p : Plan) (k : Nat) (row : List Int) (i : Nat) : List Int := (List.range i).foldl (fun s j => stepsN p k (row.getD j default) s p.rel.length) []
def nextI (p : Plan) (k : Nat) (row : List Int) : List Int := nextN p k row row.length
def rowsN (p : Plan) (s : Nat) (v : Int) : Nat → List (List Int)
  | 0 => [[v]]
  | n + 1 => rowsN p s v n ++ [srtI (nextI p (s + n) ((rowsN p s v n).getD n default))]
theorem rowsN_len (p : Plan) (s : Nat) (v : Int) : ∀ n, (rowsN p s v n).length = n + 1
  | 0 => rfl
  | n + 1 => by rw [rowsN, List.length_append, rowsN_len p s v n]; rfl
def rowI (p : Plan) (s : Nat) (v : Int) (n : Nat) : List Int := (rowsN p s v n).getD n default
theorem rowsN_next (p : Plan) (s : Nat) (v : Int) (n : Nat) : rowsN p s v (n + 1) = rowsN p s v n ++ [srtI (nextI p (s + n) (rowI p s v n))] := rfl
theorem rowI_next (p : Plan) (s : Nat) (v : Int) (n : Nat) : rowI p s v (n + 1) = srtI (nextI p (s + n) (rowI p s v n)) := by
  unfold rowI
  rw [rowsN, List.getD_eq_getElem?_getD, List.getElem?_append_right (by rw [rowsN_len]; omega), rowsN_len]
  simp
def fewB45 (p : Plan) (s : Nat) (v : Int) (n : Nat) : Bool := decide ((nextI p (s + n) (rowI p s v n)).length ≤ 4000)
def fewA (p : Plan) (s : Nat) (v : Int) (n : Nat) : Bool := (List.range n).all (fewB45 p s v)
def reachR (p : Plan) (s : Nat) (v : Int) : List (List Int) × Bool := if fewA p s v (p.inf.length - s) then (rowsN p s v (p.inf.length - s), true) else ([], false)
theorem stepsN_next (p : Plan) (k : Nat) (v : Int) (s : List Int) (i : Nat) : stepsN p k v s (i + 1) = if possB p k v (p.rel.getD i default) then insI (stepsN p k v s i) (aftI p k v (p.rel.getD i default)) else stepsN p k v s i := by
  unfold stepsN; rw [List.range_succ, List.foldl_append]; rfl
theorem nextN_next (p : Plan) (k : Nat) (row : List Int) (i : Nat) : nextN p k row (i + 1) = stepsN p k (row.getD i default) (nextN p k row i) p.rel.length := by
  unfold nextN; rw [List.range_succ, List.foldl_append]; rfl
theorem insI_mem {s : List Int} {w z : Int} : z ∈ insI s w ↔ z ∈ s ∨ z = w := by
  unfold insI
  split
  · next h => exact ⟨.inl, fun k => k.elim id fun e => e ▸ h⟩
  · simp
theorem insI_len (s : List Int) (w : Int) : (insI s w).length ≤ s.length + 1 := by
  unfold insI; split
  · omega
  · simp
theorem stepsN_len (p : Plan) (k : Nat) (v : Int) (s : List Int) : ∀ i, (stepsN p k v s i).length ≤ s.length + i
  | 0 => Nat.le_refl _
  | i + 1 => by
    rw [stepsN_next]
    have ih := stepsN_len p k v s i
    split
    · have := insI_len (stepsN p k v s i) (aftI p k v (p.rel.getD i default)); omega
    · omega
theorem nextN_len (p : Plan) (k : Nat) (row : List Int) : ∀ i, (nextN p k row i).length ≤ i * p.rel.length
  | 0 => by simp [nextN]
  | i + 1 => by
    rw [nextN_next]
    have ih := nextN_len p k row i
    have := stepsN_len p k (row.getD i default) (nextN p k row i) p.rel.length
    rw [Nat.add_mul]; omega
def inCap (p : Plan) (l : List Int) : Prop := ∀ z, z ∈ l → p.res ≤ z ∧ z ≤ p.cap
theorem stepsN_in {p : Plan} {k : Nat} {v : Int} {s : List Int} (hp : planB p = true) (hs : inCap p s) : ∀ i, inCap p (stepsN p k v s i)
  | 0 => hs
  | i + 1 => by
    rw [stepsN_next]
    have ih := stepsN_in (k := k) (v := v) hp hs i
    split
    · next h =>
      intro z hz
      rcases insI_mem.1 hz with hz | rfl
      · exact ih z hz
      · exact aft_in hp h
    · exact ih
theorem nextN_in {p : Plan} {k : Nat} {row : List Int} (hp : planB p = true) : ∀ i, inCap p (nextN p k row i)
  | 0 => fun z hz => by simp [nextN] at hz
  | i + 1 => by rw [nextN_next]; exact stepsN_in hp (nextN_in hp i) _
theorem srtI_mem {l : List Int} {z : Int} : z ∈ srtI l ↔ z ∈ l := (List.mergeSort_perm l _).mem_iff
theorem srtI_len (l : List Int) : (srtI l).length = l.length := (List.mergeSort_perm l _).length_eq
theorem rowI_in {p : Plan} {s : Nat} {v : Int} (hp : planB p = true) (hv : p.res ≤ v ∧ v ≤ p.cap) : ∀ n, inCap p (rowI p s v n)
  | 0 => fun z hz => by
    have : z = v := by simpa [rowI, rowsN] using hz
    exact this ▸ hv
  | n + 1 => by
    rw [rowI_next]
    exact fun z hz => nextN_in hp _ z (srtI_mem.1 hz)
theorem rowI_len {p : Plan} {s : Nat} {v : Int} {n : Nat} (h : fewA p s v n = true) : (rowI p s v n).length ≤ 4000 := by
  cases n with
  | zero => simp [rowI, rowsN]
  | succ n =>
    rw [rowI_next, srtI_len]
    unfold fewA at h
    rw [List.all_eq_true] at h
    have := h n (List.mem_range.2 (by omega))
    unfold fewB45 at this
    simpa using this
theorem fewA_next {p : Plan} {s : Nat} {v : Int} {n : Nat} (h : fewA p s v n = true) (h2 : fewB45 p s v n = true) : fewA p s v (n + 1) = true := by
  unfold fewA at h ⊢
  rw [List.range_succ, List.all_append, h]
  simp [h2]
theorem fewA_no {p : Plan} {s : Nat} {v : Int} {n N : Nat} (hn : n < N) (h2 : fewB45 p s v n = false) : fewA p s v N = false := rall_false hn h2
theorem frz_app (RS : List (List Int)) (X : List Int) (o : Nat) : (rows ilRow RS ++ [[DV.gl o]]).map (DV.frzL o (.elems 1 (X.map inRow))) = rows ilRow (RS ++ [X]) := by
  rw [List.map_append, frz_rows]
  simp [DV.frzL, DV.frz, rows, ilRow]
set_option maxRecDepth 20000 in
set_option maxHeartbeats 16000000 in
theorem reach_f (p : Plan) (s : Nat) (v : Int) (m : Nat) (hp : planB p = true) (hs : s ≤ p.inf.length) (hv : p.res ≤ v ∧ v ≤ p.cap) :
    DCalls Tryz.prog 26 [.ptr 0 0, li s, li v] (hget (tkH p)) m (.tup [.p (.dat 1 ((reachR p s v).1.map ilRow)), lb (reachR p s v).2]) (hget (tkH p)) := by
  have hin := planB_in hp
  have hrl := hin.2.2.2.2.1
  have hil := hin.2.2.2.1
  obtain ⟨N, hN⟩ : ∃ N, p.inf.length - s = N := ⟨_, rfl⟩
  unfold reachR
  rw [hN]
  refine contract (n := 76) (rs := [.tmp 6, .tmp 7]) (ts := [29, 4]) Tryz.func26 rfl (by decide) 1 1 [33] [] [] (.tup [.p (.dat 1 ((if fewA p s v N then (rowsN p s v N, true) else ([], false)).1.map ilRow)), lb (if fewA p s v N then (rowsN p s v N, true) else ([], false)).2]) (tkH p) (by (exact SD)) (by (exact SD)) ?_
  (repeat' (first | refine swp_seq [0, 1, 2, 6, 7, 8, 9, 10, 12, 13, 14, 16, 28, 37, 38, 39, 40, 48, 49, 50, 61, 68] ?_ | refine st2 ?_ | (show Fct ..; refine fctI (fun hf => ?_)) | (show SWp _ _ _ (.cond _ _ _) _ _ _ _; first | refine cB (fun hc => ?_) (fun hc => ?_) | refine cU ?_ ?_)))
  (refine sF 25 ?_)
  refine loop_swp [0, 8, 9] [0, 33] 34 (fun q A H => ∃ j : Nat, j ≤ N ∧ q = N - j ∧ fewA p s v j = true ∧ A = [(0, .ptr 0 0), (8, .gl 33), (9, li ((s + j : Nat) : Int))] ∧ H = [(0, .blk 85 (tkC p (ints (p.rel.map (floorT p.pen))))), (33, .lst 22 1 (rows ilRow (rowsN p s v j)))]) (by omega) ?_ ?_ ?_
  · rintro q A H ⟨j, h1, h2, h3, rfl, rfl⟩
    exact ⟨by (exact SD), by (exact SD)⟩
  · refine ⟨_, 0, by omega, rfl, rfl, ?_, ?_⟩
    · exact DVR
    · exact DVR
  rintro q A H ⟨j, h1, h2, h3, rfl, rfl⟩
  have hrlen := rowsN_len p s v j
  by_cases hj : j < N
  · have hj2 : (s : Int) + (j : Int) < (p.inf.length : Int) := by omega
    have hsj : s + j < p.inf.length := by omega
    have hrow : (rowsN p s v j).getD ((rowsN p s v j).length - 1) default = rowI p s v j := by
      rw [show (rowsN p s v j).length - 1 = j by omega]; rfl
    have hri := rowI_in (s := s) hp hv j
    have hrl2 := rowI_len h3
    have hnx := rowsN_next p s v j
    have hfw := fun (h : fewB45 p s v j = true) => fewA_next h3 h
    have hfn := fun (h : fewB45 p s v j = false) => fewA_no hj h
    unfold fewB45 at hfw hfn
    generalize rowI p s v j = row at *
    generalize rowsN p s v j = RS at *
    (have := Nonempty.intro hj2)
    (repeat' (first | refine swp_seq [0, 1, 2, 6, 7, 8, 9, 10, 12, 13, 14, 16, 28, 37, 38, 39, 40, 48, 49, 50, 61, 68] ?_ | refine st2 ?_ | (show Fct ..; refine fctI (fun hf => ?_)) | (show SWp _ _ _ (.cond _ _ _) _ _ _ _; first | refine cB (fun hc => ?_) (fun hc => ?_) | refine cU ?_ ?_)))
    rw [hrow]
    refine loop_swp [0, 8, 9, 10, 37, 38, 39] [0, 33, 98] 99 (fun q A H => ∃ i : Nat, i ≤ row.length ∧ q = row.length - i ∧ A = [(0, .ptr 0 0), (8, .gl 33), (9, li ((s + j : Nat) : Int)), (10, .mref 98), (37, ints row), (38, li row.length), (39, li i)] ∧ H = [(0, .blk 85 (tkC p (ints (p.rel.map (floorT p.pen))))), (33, .lst 22 1 (rows ilRow RS)), (98, .map (setE (nextN p (s + j) row i)))]) (by omega) ?_ ?_ ?_
    · rintro q A H ⟨i, g1, g2, rfl, rfl⟩
      exact ⟨by (exact SD), by (exact SD)⟩
    · refine ⟨_, 0, by omega, rfl, ?_, ?_⟩
      · exact DVR
      · rw [show nextN p (s + j) row 0 = [] from rfl, setE_nil]
        exact DVR
    rintro q A H ⟨i, g1, g2, rfl, rfl⟩
    by_cases hi : i < row.length
    · have hi3 : (i : Int) < (row.length : Int) := by omega
      have hnn := nextN_next p (s + j) row i
      have hvi : 0 ≤ row.getD i default ∧ row.getD i default ≤ 1099511627776 := by
        have h5 := hri _ (getD_mem hi)
        have h6 := hin.2.1
        have h7 := hin.1
        omega
      (have := Nonempty.intro hi)
      (have := Nonempty.intro hi3)
      (repeat' (first | refine swp_seq [0, 1, 2, 6, 7, 8, 9, 10, 12, 13, 14, 16, 28, 37, 38, 39, 40, 48, 49, 50, 61, 68] ?_ | refine st2 ?_ | (show Fct ..; refine fctI (fun hf => ?_)) | (show SWp _ _ _ (.cond _ _ _) _ _ _ _; first | refine cB (fun hc => ?_) (fun hc => ?_) | refine cU ?_ ?_)))
      refine loop_swp [0, 8, 9, 10, 12, 37, 38, 39, 48, 49] [0, 33, 98] 99 (fun q A H => ∃ r : Nat, r ≤ p.rel.length ∧ q = p.rel.length - r ∧ A = [(0, .ptr 0 0), (8, .gl 33), (9, li ((s + j : Nat) : Int)), (10, .mref 98), (12, li (row.getD i default)), (37, ints row), (38, li row.length), (39, li i), (48, li p.rel.length), (49, li r)] ∧ H = [(0, .blk 85 (tkC p (ints (p.rel.map (floorT p.pen))))), (33, .lst 22 1 (rows ilRow RS)), (98, .map (setE (stepsN p (s + j) (row.getD i default) (nextN p (s + j) row i) r)))]) (by omega) ?_ ?_ ?_
      · rintro q A H ⟨r, k1, k2, rfl, rfl⟩
        exact ⟨by (exact SD), by (exact SD)⟩
      · refine ⟨_, 0, by omega, rfl, ?_, ?_⟩
        · exact DVR
        · rw [show stepsN p (s + j) (row.getD i default) (nextN p (s + j) row i) 0 = nextN p (s + j) row i from rfl]
          exact DVR
      rintro q A H ⟨r, k1, k2, rfl, rfl⟩
      by_cases hr : r < p.rel.length
      · have hr3 : (r : Int) < (p.rel.length : Int) := by omega
        have hsn := stepsN_next p (s + j) (row.getD i default) (nextN p (s + j) row i) r
        (have := Nonempty.intro hr)
        (have := Nonempty.intro hr3)
        generalize stepsN p (s + j) (row.getD i default) (nextN p (s + j) row i) r = ST at *
        cases hpo : possB p (s + j) (row.getD i default) (p.rel.getD r default)
        · have cs := fun m => step_no p (s + j) r (row.getD i default) m hp hsj hr hvi hpo
          rw [hpo, if_neg (by decide)] at hsn
          (repeat' (first | refine swp_seq [0, 1, 2, 6, 7, 8, 9, 10, 12, 13, 14, 16, 28, 37, 38, 39, 40, 48, 49, 50, 61, 68] ?_ | refine st2 ?_ | (show Fct ..; refine fctI (fun hf => ?_)) | (show SWp _ _ _ (.cond _ _ _) _ _ _ _; first | refine cB (fun hc => ?_) (fun hc => ?_) | refine cU ?_ ?_)))
          (refine cQT [0] (fun hcc => (cs _)) ?_)
          (repeat' (first | refine swp_seq [0, 1, 2, 6, 7, 8, 9, 10, 12, 13, 14, 16, 28, 37, 38, 39, 40, 48, 49, 50, 61, 68] ?_ | refine st2 ?_ | (show Fct ..; refine fctI (fun hf => ?_)) | (show SWp _ _ _ (.cond _ _ _) _ _ _ _; first | refine cB (fun hc => ?_) (fun hc => ?_) | refine cU ?_ ?_)))
          rw [← hsn]
          (refine lN [0, 33, 98] ?_)
          exact ⟨_, by omega, r + 1, by omega, rfl, rfl, rfl⟩
        · have cs := fun m => step_yes p (s + j) r (row.getD i default) m hp hsj hr hvi hpo
          rw [hpo, if_pos rfl] at hsn
          (repeat' (first | refine swp_seq [0, 1, 2, 6, 7, 8, 9, 10, 12, 13, 14, 16, 28, 37, 38, 39, 40, 48, 49, 50, 61, 68] ?_ | refine st2 ?_ | (show Fct ..; refine fctI (fun hf => ?_)) | (show SWp _ _ _ (.cond _ _ _) _ _ _ _; first | refine cB (fun hc => ?_) (fun hc => ?_) | refine cU ?_ ?_)))
          (refine cQT [0] (fun hcc => (cs _)) ?_)
          (repeat' (first | refine swp_seq [0, 1, 2, 6, 7, 8, 9, 10, 12, 13, 14, 16, 28, 37, 38, 39, 40, 48, 49, 50, 61, 68] ?_ | refine st2 ?_ | (show Fct ..; refine fctI (fun hf => ?_)) | (show SWp _ _ _ (.cond _ _ _) _ _ _ _; first | refine cB (fun hc => ?_) (fun hc => ?_) | refine cU ?_ ?_)))
          rw [← hsn]
          (refine lN [0, 33, 98] ?_)
          exact ⟨_, by omega, r + 1, by omega, rfl, rfl, rfl⟩
      obtain rfl : r = p.rel.length := by omega
      have hr3 : ¬ (p.rel.length : Int) < (p.rel.length : Int) := by omega
      (have := Nonempty.intro hr3)
      rw [← hnn]
      (repeat' (first | refine swp_seq [0, 1, 2, 6, 7, 8, 9, 10, 12, 13, 14, 16, 28, 37, 38, 39, 40, 48, 49, 50, 61, 68] ?_ | refine st2 ?_ | (show Fct ..; refine fctI (fun hf => ?_)) | (show SWp _ _ _ (.cond _ _ _) _ _ _ _; first | refine cB (fun hc => ?_) (fun hc => ?_) | refine cU ?_ ?_)))
      (refine lN [0, 33, 98] ?_)
      exact ⟨_, by omega, i + 1, by omega, rfl, rfl, rfl⟩
    obtain rfl : i = row.length := by omega
    have hi3 : ¬ (row.length : Int) < (row.length : Int) := by omega
    (have := Nonempty.intro hi3)
    change SWp _ _ _ _ _ _ [_, _, (98, .map (setE (nextI p (s + j) row)))] _
    have hnc := nextN_in (k := s + j) (row := row) hp row.length
    change inCap p (nextI p (s + j) row) at hnc
    generalize nextI p (s + j) row = KS at *
    by_cases hb : (4000 : Int) < (KS.length : Int)
    · have e : fewA p s v N = false := hfn (decide_eq_false (by omega))
      rw [e]
      (have := Nonempty.intro hb)
      (repeat' (first | refine swp_seq [0, 1, 2, 6, 7, 8, 9, 10, 12, 13, 14, 16, 28, 37, 38, 39, 40, 48, 49, 50, 61, 68] ?_ | refine st2 ?_ | (show Fct ..; refine fctI (fun hf => ?_)) | (show SWp _ _ _ (.cond _ _ _) _ _ _ _; first | refine cB (fun hc => ?_) (fun hc => ?_) | refine cU ?_ ?_)))
      exact DVR
    · have hfw2 := hfw (decide_eq_true (by omega))
      have hkb : ∀ z, z ∈ KS → -9223372036854775808 ≤ z ∧ z ≤ 9223372036854775807 := fun z hz => by
        have := hnc z hz
        have h6 := hin.2.1
        have h7 := hin.1
        omega
      (have := Nonempty.intro hb)
      (repeat' (first | refine swp_seq [0, 1, 2, 6, 7, 8, 9, 10, 12, 13, 14, 16, 28, 37, 38, 39, 40, 48, 49, 50, 61, 68] ?_ | refine st2 ?_ | (show Fct ..; refine fctI (fun hf => ?_)) | (show SWp _ _ _ (.cond _ _ _) _ _ _ _; first | refine cB (fun hc => ?_) (fun hc => ?_) | refine cU ?_ ?_)))
      (refine cQT [98] (fun hcc => (keys_f KS 1)) ?_)
      (repeat' (first | refine swp_seq [0, 1, 2, 6, 7, 8, 9, 10, 12, 13, 14, 16, 28, 37, 38, 39, 40, 48, 49, 50, 61, 68] ?_ | refine st2 ?_ | (show Fct ..; refine fctI (fun hf => ?_)) | (show SWp _ _ _ (.cond _ _ _) _ _ _ _; first | refine cB (fun hc => ?_) (fun hc => ?_) | refine cU ?_ ?_)))
      (refine cQT [98, 147] (fun hcc => (sorted_f KS 2 hkb (by omega))) ?_)
      (repeat' (first | (show SWp _ _ _ (.region 4 _ _) _ _ _ _; refine (stop_in ?_)) | refine swp_seq [0, 1, 2, 6, 7, 8, 9, 10, 12, 13, 14, 16, 28, 37, 38, 39, 40, 48, 49, 50, 61, 68] ?_ | refine st2 ?_ | (show CallQ ..; first | refine cQ (fun hcc => (by fail)) ?_ | (refine lP ?_; refine lQ (fun hcc m => (by fail)) ?_)) | (show Fct ..; refine fctI (fun hf => ?_)) | (show SWp _ _ _ (.cond _ _ _) _ _ _ _; first | refine cB (fun hc => ?_) (fun hc => ?_) | refine cU ?_ ?_)))
      refine stop_out ?_
      (refine sF 155 ?_)
      (repeat' (first | refine swp_seq [0, 1, 2, 6, 7, 8, 9, 10, 12, 13, 14, 16, 28, 37, 38, 39, 40, 48, 49, 50, 61, 68] ?_ | refine st2 ?_ | (show Fct ..; refine fctI (fun hf => ?_)) | (show SWp _ _ _ (.cond _ _ _) _ _ _ _; first | refine cB (fun hc => ?_) (fun hc => ?_) | refine cU ?_ ?_)))
      rw [frz_app, ← hnx]
      (refine lN [0, 33] ?_)
      exact ⟨_, by omega, j + 1, by omega, rfl, hfw2, by rw [show ((s + (j + 1) : Nat) : Int) = (s : Int) + (j : Int) + 1 by omega]; rfl, rfl⟩
  · obtain rfl : j = N := by omega
    have hj2 : ¬ (s : Int) + (j : Int) < (p.inf.length : Int) := by omega
    (have := Nonempty.intro hj2)
    rw [h3, if_pos rfl]
    generalize rowsN p s v j = RS at *
    (repeat' (first | refine swp_seq [0, 1, 2, 6, 7, 8, 9, 10, 12, 13, 14, 16, 28, 37, 38, 39, 40, 48, 49, 50, 61, 68] ?_ | refine st2 ?_ | (show Fct ..; refine fctI (fun hf => ?_)) | (show SWp _ _ _ (.cond _ _ _) _ _ _ _; first | refine cB (fun hc => ?_) (fun hc => ?_) | refine cU ?_ ?_)))
    exact DVR

end Go.Proofs.YtlailhdmgehniaaGreat
