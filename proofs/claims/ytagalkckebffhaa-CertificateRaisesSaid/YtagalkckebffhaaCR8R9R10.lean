/-
  Contracts of functions of the program, over the engine.
  No condition.
-/
import Derived.Test.YtagalkckebffhaaCR6R7
import Derived.Test.YtagalkckebffhaaCC33C34C35
namespace Go.Proofs.Ytagalkckebffhaa
open Go.Eng
set_option linter.all false
attribute [local irreducible] DCallsG SWp Fct CallQ XCallQ LCallQ XLCallQ drun xrun

def rzStep (p : Plan) (k : Nat) (v : Int) (R : List Int) (b r : Int) : Int :=
  if possB p k v r = true then (if (atR R (aftI p k v r)).1 = -1 then b else if b = -1 ∨ costI p k v r + (atR R (aftI p k v r)).1 < b then costI p k v r + (atR R (aftI p k v r)).1 else b) else b
def raisedV (p : Plan) (k : Nat) (v : Int) (R : List Int) : Int := p.rel.foldl (rzStep p k v R) (-1)
theorem foldl_snoc {α β : Type} [Inhabited α] (f : β → α → β) (l : List α) (b : β) {i : Nat} (h : i < l.length) : (l.take (i + 1)).foldl f b = f ((l.take i).foldl f b) (l.getD i default) := by
  rw [take_snoc h, List.foldl_append]; rfl
theorem rz_in {p : Plan} (hp : planB p = true) {k : Nat} (hk : k < p.inf.length) {v : Int} (hv : 0 ≤ v ∧ v ≤ 1099511627776) {R : List Int} {B : Int} (hB : 0 ≤ B) (hy : ∀ a, -1 ≤ (atR R a).1 ∧ (atR R a).1 ≤ B) : ∀ i, i ≤ p.rel.length → -1 ≤ (p.rel.take i).foldl (rzStep p k v R) (-1) ∧ (p.rel.take i).foldl (rzStep p k v R) (-1) ≤ B + 4398046511104000 := by
  intro i
  induction i with
  | zero => intro _; rw [List.take_zero, List.foldl_nil]; omega
  | succ i ih =>
    intro hi
    have h1 := ih (by omega)
    rw [foldl_snoc _ _ _ (by omega : i < p.rel.length)]
    have h2 := (cost_in hp hk hv (show i < p.rel.length by omega)).2.2.2
    have h3 := hy (aftI p k v (p.rel.getD i default))
    unfold rzStep at h1 ⊢
    split
    · split
      · exact h1
      · split
        · omega
        · exact h1
    · exact h1
set_option maxRecDepth 20000 in
set_option maxHeartbeats 8000000 in
theorem raised_f (p : Plan) (R : List Int) (k : Nat) (v : Int) (m : Nat) (hp : planB p = true) (hk : k < p.inf.length) (hv : 0 ≤ v ∧ v ≤ 1099511627776) (hl : R.length ≤ 1048576) (he : R.length % 2 = 0) (hy : ∀ a, -1 ≤ (atR R a).1 ∧ (atR R a).1 ≤ 1152921504606846976) :
    DCalls Try.prog 64 [planD p, li k, li v, ints R] (hget []) m (li (raisedV p k v R)) (hget []) := by
  have hin := planB_in hp
  have hrz := rz_in hp hk hv (by omega) hy
  refine pureC (n := 67) (rs := [.tmp 8]) (ts := [3]) Try.func64 rfl (by decide) [] (by (exact SD)) ?_
  (repeat' (first | refine swp_seq [0, 1, 2, 3, 4, 8, 9, 10, 11, 13, 18, 30, 46, 64] ?_ | refine st1 ?_ | (show CallQ ..; first | refine cF ?_ | refine cQ (fun hcc => (by fail)) ?_ | (refine lP ?_; refine lQ (fun hcc m => (by fail)) ?_)) | (show Fct ..; refine fctI (fun hf => ?_)) | (show XCallQ ..; first | refine xcF ?_ | refine xQ (fun hcc => (by fail)) ?_ | (refine xlP ?_; refine xlQ (fun hcc m => (by fail)) ?_)) | (show SWp _ _ _ (.region _ _ true) _ _ _ _; refine xG mixed [] ?_) | (show SWp _ _ _ (.cond _ _ _) _ _ _ _; first | (refine cB (fun hc => ?_) (fun hc => ?_) <;> first | exact False.elim hc | exact absurd hc Bool.false_ne_true | exact absurd hc.symm Bool.false_ne_true | skip) | refine cU ?_ ?_)))
  refine loop_swp [1, 2, 3, 4, 9, 10] [0] 1 (fun q A H => ∃ i : Nat, i ≤ p.rel.length ∧ q = p.rel.length - i ∧ A = [(1, li k), (2, li v), (3, ints R), (4, .ptr 0 0), (9, li ((p.rel.take i).foldl (rzStep p k v R) (-1))), (10, li i)] ∧ H = [(0, .blk 26 (planC p))]) (by omega) ?_ ?_ ?_
  · rintro q A H ⟨i, g1, g2, rfl, rfl⟩
    exact ⟨by (exact SD), by (exact SD)⟩
  · refine ⟨_, 0, by omega, rfl, ?_, ?_⟩
    · exact DVR
    · exact DVR
  rintro q A H ⟨i, g1, g2, rfl, rfl⟩
  by_cases hi : i < p.rel.length
  · have hi3 : (i : Int) < (p.rel.length : Int) := by omega
    (have := Nonempty.intro hi)
    (have := Nonempty.intro hi3)
    have cp := fun m => possible_f p k i v m hp hk hi hv
    have ca := fun m => after_f p k i v m hp hk hi hv
    have cr := fun m => price_f p k i v m hp hk hi hv
    have cat := fun m => at_f R (aftI p k v (p.rel.getD i default)) m (by omega) he
    have hcst := (cost_in hp hk hv hi).2.2.2
    have hya := hy (aftI p k v (p.rel.getD i default))
    have hsn := foldl_snoc (rzStep p k v R) p.rel (-1) hi
    have hbin := hrz i (by omega)
    generalize (p.rel.take i).foldl (rzStep p k v R) (-1) = b at *
    unfold rzStep at hsn
    cases hpo : possB p k v (p.rel.getD i default) <;> simp only [hpo] at cp
    · rw [hpo, if_neg (by decide)] at hsn
      (repeat' (first | refine swp_seq [0, 1, 2, 3, 4, 8, 9, 10, 11, 13, 18, 30, 46, 64] ?_ | refine st1 ?_ | (show CallQ ..; first | refine cF ?_ | refine cQ (fun hcc => (by first | exact cp _)) ?_ | (refine lP ?_; refine lQ (fun hcc m => (by first | exact cp _)) ?_)) | (show Fct ..; refine fctI (fun hf => ?_)) | (show XCallQ ..; first | refine xcF ?_ | refine xQ (fun hcc => (by first | exact cp _)) ?_ | (refine xlP ?_; refine xlQ (fun hcc m => (by first | exact cp _)) ?_)) | (show SWp _ _ _ (.region _ _ true) _ _ _ _; refine xG mixed [] ?_) | (show SWp _ _ _ (.cond _ _ _) _ _ _ _; first | (refine cB (fun hc => ?_) (fun hc => ?_) <;> first | exact False.elim hc | exact absurd hc Bool.false_ne_true | exact absurd hc.symm Bool.false_ne_true | skip) | refine cU ?_ ?_)))
      (refine lN [0] ?_)
      exact ⟨_, by omega, i + 1, by omega, rfl, by rw [show (p.rel.take (i + 1)).foldl (rzStep p k v R) (-1) = b from hsn]; rfl, rfl⟩
    rw [hpo, if_pos rfl] at hsn
    generalize atR R (aftI p k v (p.rel.getD i default)) = AA at *
    obtain ⟨y, ok⟩ := AA
    generalize costI p k v (p.rel.getD i default) = CO at *
    dsimp only at hya hsn
    by_cases hy1 : y < 0
    · rw [if_pos (by omega)] at hsn
      (have := Nonempty.intro hy1)
      (repeat' (first | refine swp_seq [0, 1, 2, 3, 4, 8, 9, 10, 11, 13, 18, 30, 46, 64] ?_ | refine st1 ?_ | (show CallQ ..; first | refine cF ?_ | refine cQ (fun hcc => (by first | exact cp _ | exact ca _ | exact cat _)) ?_ | (refine lP ?_; refine lQ (fun hcc m => (by first | exact cp _ | exact ca _ | exact cat _)) ?_)) | (show Fct ..; refine fctI (fun hf => ?_)) | (show XCallQ ..; first | refine xcF ?_ | refine xQ (fun hcc => (by first | exact cp _ | exact ca _ | exact cat _)) ?_ | (refine xlP ?_; refine xlQ (fun hcc m => (by first | exact cp _ | exact ca _ | exact cat _)) ?_)) | (show SWp _ _ _ (.region _ _ true) _ _ _ _; refine xG mixed [] ?_) | (show SWp _ _ _ (.cond _ _ _) _ _ _ _; first | (refine cB (fun hc => ?_) (fun hc => ?_) <;> first | exact False.elim hc | exact absurd hc Bool.false_ne_true | exact absurd hc.symm Bool.false_ne_true | skip) | refine cU ?_ ?_)))
      (refine lN [0] ?_)
      exact ⟨_, by omega, i + 1, by omega, rfl, by rw [show (p.rel.take (i + 1)).foldl (rzStep p k v R) (-1) = b from hsn]; rfl, rfl⟩
    rw [if_neg (by omega)] at hsn
    (have := Nonempty.intro hy1)
    by_cases hb0 : b < 0
    · (have := Nonempty.intro hb0)
      rw [if_pos (by omega)] at hsn
      (repeat' (first | refine swp_seq [0, 1, 2, 3, 4, 8, 9, 10, 11, 13, 18, 30, 46, 64] ?_ | refine st1 ?_ | (show CallQ ..; first | refine cF ?_ | refine cQ (fun hcc => (by first | exact cp _ | exact ca _ | exact cat _ | exact cr _)) ?_ | (refine lP ?_; refine lQ (fun hcc m => (by first | exact cp _ | exact ca _ | exact cat _ | exact cr _)) ?_)) | (show Fct ..; refine fctI (fun hf => ?_)) | (show XCallQ ..; first | refine xcF ?_ | refine xQ (fun hcc => (by first | exact cp _ | exact ca _ | exact cat _ | exact cr _)) ?_ | (refine xlP ?_; refine xlQ (fun hcc m => (by first | exact cp _ | exact ca _ | exact cat _ | exact cr _)) ?_)) | (show SWp _ _ _ (.region _ _ true) _ _ _ _; refine xG mixed [] ?_) | (show SWp _ _ _ (.cond _ _ _) _ _ _ _; first | (refine cB (fun hc => ?_) (fun hc => ?_) <;> first | exact False.elim hc | exact absurd hc Bool.false_ne_true | exact absurd hc.symm Bool.false_ne_true | skip) | refine cU ?_ ?_)))
      (refine lN [0] ?_)
      exact ⟨_, by omega, i + 1, by omega, rfl, by rw [show (p.rel.take (i + 1)).foldl (rzStep p k v R) (-1) = CO + y from hsn]; rfl, rfl⟩
    (have := Nonempty.intro hb0)
    by_cases hlt : CO + y < b
    · (have := Nonempty.intro hlt)
      rw [if_pos (by omega)] at hsn
      (repeat' (first | refine swp_seq [0, 1, 2, 3, 4, 8, 9, 10, 11, 13, 18, 30, 46, 64] ?_ | refine st1 ?_ | (show CallQ ..; first | refine cF ?_ | refine cQ (fun hcc => (by first | exact cp _ | exact ca _ | exact cat _ | exact cr _)) ?_ | (refine lP ?_; refine lQ (fun hcc m => (by first | exact cp _ | exact ca _ | exact cat _ | exact cr _)) ?_)) | (show Fct ..; refine fctI (fun hf => ?_)) | (show XCallQ ..; first | refine xcF ?_ | refine xQ (fun hcc => (by first | exact cp _ | exact ca _ | exact cat _ | exact cr _)) ?_ | (refine xlP ?_; refine xlQ (fun hcc m => (by first | exact cp _ | exact ca _ | exact cat _ | exact cr _)) ?_)) | (show SWp _ _ _ (.region _ _ true) _ _ _ _; refine xG mixed [] ?_) | (show SWp _ _ _ (.cond _ _ _) _ _ _ _; first | (refine cB (fun hc => ?_) (fun hc => ?_) <;> first | exact False.elim hc | exact absurd hc Bool.false_ne_true | exact absurd hc.symm Bool.false_ne_true | skip) | refine cU ?_ ?_)))
      (refine lN [0] ?_)
      exact ⟨_, by omega, i + 1, by omega, rfl, by rw [show (p.rel.take (i + 1)).foldl (rzStep p k v R) (-1) = CO + y from hsn]; rfl, rfl⟩
    · (have := Nonempty.intro hlt)
      rw [if_neg (by omega)] at hsn
      (repeat' (first | refine swp_seq [0, 1, 2, 3, 4, 8, 9, 10, 11, 13, 18, 30, 46, 64] ?_ | refine st1 ?_ | (show CallQ ..; first | refine cF ?_ | refine cQ (fun hcc => (by first | exact cp _ | exact ca _ | exact cat _ | exact cr _)) ?_ | (refine lP ?_; refine lQ (fun hcc m => (by first | exact cp _ | exact ca _ | exact cat _ | exact cr _)) ?_)) | (show Fct ..; refine fctI (fun hf => ?_)) | (show XCallQ ..; first | refine xcF ?_ | refine xQ (fun hcc => (by first | exact cp _ | exact ca _ | exact cat _ | exact cr _)) ?_ | (refine xlP ?_; refine xlQ (fun hcc m => (by first | exact cp _ | exact ca _ | exact cat _ | exact cr _)) ?_)) | (show SWp _ _ _ (.region _ _ true) _ _ _ _; refine xG mixed [] ?_) | (show SWp _ _ _ (.cond _ _ _) _ _ _ _; first | (refine cB (fun hc => ?_) (fun hc => ?_) <;> first | exact False.elim hc | exact absurd hc Bool.false_ne_true | exact absurd hc.symm Bool.false_ne_true | skip) | refine cU ?_ ?_)))
      (refine lN [0] ?_)
      exact ⟨_, by omega, i + 1, by omega, rfl, by rw [show (p.rel.take (i + 1)).foldl (rzStep p k v R) (-1) = b from hsn]; rfl, rfl⟩
  have hi3 : ¬ ((i : Int) < (p.rel.length : Int)) := by omega
  (have := Nonempty.intro hi3)
  rw [List.take_of_length_le (show p.rel.length ≤ i by omega)]
  (repeat' (first | refine swp_seq [0, 1, 2, 3, 4, 8, 9, 10, 11, 13, 18, 30, 46, 64] ?_ | refine st1 ?_ | (show Fct ..; refine fctI (fun hf => ?_)) | (show SWp _ _ _ (.region _ _ true) _ _ _ _; refine xG mixed [] ?_) | (show SWp _ _ _ (.cond _ _ _) _ _ _ _; first | (refine cB (fun hc => ?_) (fun hc => ?_) <;> first | exact False.elim hc | exact absurd hc Bool.false_ne_true | exact absurd hc.symm Bool.false_ne_true | skip) | refine cU ?_ ?_)))
  (((simp only [push_cast, reduceIte, reduceDIte, reduceCtorEq, Nat.reduceLT, Nat.reduceLeDiff, Nat.reduceEqDiff, Nat.reduceAdd, Nat.reduceMul, Nat.reduceBEq, Nat.reducePow, Int.zero_add, Int.reduceAdd, Int.reduceSub, Int.reduceLT, Int.reduceLE, Int.reduceToNat, Int.reduceNeg, Nat.reduceSub, Int.reduceBNe, Int.reduceBEq, Int.reduceTDiv, Int.reduceTMod, Int.reduceMul]); repeat (simp (disch := omega) only [idx_nat, idx_mapT, i64w, rows_getS, rows_get, getD_set_self, famR_get]; try (simp only [push_cast, reduceIte, reduceDIte, reduceCtorEq, Nat.reduceLT, Nat.reduceLeDiff, Nat.reduceEqDiff, Nat.reduceAdd, Nat.reduceMul, Nat.reduceBEq, Nat.reducePow, Int.zero_add, Int.reduceAdd, Int.reduceSub, Int.reduceLT, Int.reduceLE, Int.reduceToNat, Int.reduceNeg, Nat.reduceSub, Int.reduceBNe, Int.reduceBEq, Int.reduceTDiv, Int.reduceTMod, Int.reduceMul]))))
  rfl
def partRow (row : List Int) (f : Nat → Int) (j : Nat) : List Int := (List.range row.length).map fun k => if k % 2 = 1 ∧ k < 2 * j then f k else row.getD k default
theorem partRow_len (row : List Int) (f : Nat → Int) (j : Nat) : (partRow row f j).length = row.length := by unfold partRow; rw [List.length_map, List.length_range]
theorem partRow_get (row : List Int) (f : Nat → Int) (j : Nat) {k : Nat} (hk : k < row.length) : (partRow row f j).getD k default = if k % 2 = 1 ∧ k < 2 * j then f k else row.getD k default := by
  unfold partRow
  rw [List.getD_eq_getElem?_getD, List.getElem?_map, List.getElem?_range hk]; rfl
theorem ints_ext {a b : List Int} (h1 : a.length = b.length) (h2 : ∀ i, i < a.length → a.getD i default = b.getD i default) : a = b := by
  refine List.ext_getElem h1 fun i hi hj => ?_
  have := h2 i hi
  rw [List.getD_eq_getElem?_getD, List.getD_eq_getElem?_getD, List.getElem?_eq_getElem hi, List.getElem?_eq_getElem hj] at this
  exact this
theorem partRow_0 (row : List Int) (f : Nat → Int) : partRow row f 0 = row :=
  ints_ext (partRow_len _ _ _) fun i hi => by
    rw [partRow_len] at hi
    rw [partRow_get _ _ _ hi, if_neg (by omega)]
theorem getD_set_ne' (l : List Int) (i k : Nat) (x : Int) (h : ¬ k = i) : (l.set i x).getD k default = l.getD k default := by
  rw [List.getD_eq_getElem?_getD, List.getElem?_set_ne (fun e => h e.symm), ← List.getD_eq_getElem?_getD]
theorem getD_set_eq' (l : List Int) (i : Nat) (x : Int) (h : i < l.length) : (l.set i x).getD i default = x := by
  rw [List.getD_eq_getElem?_getD, List.getElem?_set_self h]; rfl
theorem partRow_set (row : List Int) (f : Nat → Int) (j : Nat) (h : 2 * j + 1 < row.length) : (partRow row f j).set (2 * j + 1) (f (2 * j + 1)) = partRow row f (j + 1) :=
  ints_ext (by rw [List.length_set, partRow_len, partRow_len]) fun i hi => by
    rw [List.length_set, partRow_len] at hi
    by_cases e : i = 2 * j + 1
    · subst e
      rw [getD_set_eq' _ _ _ (by rw [partRow_len]; exact h), partRow_get _ _ _ hi, if_pos ⟨by omega, by omega⟩]
    · rw [getD_set_ne' _ _ _ _ e, partRow_get _ _ _ hi, partRow_get _ _ _ hi]
      by_cases c : i % 2 = 1 ∧ i < 2 * j
      · rw [if_pos c, if_pos ⟨c.1, by omega⟩]
      · rw [if_neg c, if_neg (fun q => c ⟨q.1, by omega⟩)]
theorem partRow_same (row : List Int) (f : Nat → Int) (j : Nat) (h : ∀ k, k < row.length → k % 2 = 1 → f k = row.getD k default) : partRow row f j = row :=
  ints_ext (partRow_len _ _ _) fun i hi => by
    rw [partRow_len] at hi
    rw [partRow_get _ _ _ hi]
    split
    · next c => exact h i hi c.1
    · rfl
def newF (p : Plan) (i : Nat) (row next : List Int) (k : Nat) : Int := raisedV p i (row.getD (k - 1) default) next
def newRow (p : Plan) (l : List (List Int)) (i : Nat) (rs : List (List Int)) : List Int :=
  if i + 1 = l.length then l.getD i default else partRow (l.getD i default) (newF p i (l.getD i default) (rs.getD 0 default)) ((l.getD i default).length / 2)
def outsR (p : Plan) (l : List (List Int)) : Nat → List (List Int)
  | 0 => []
  | d + 1 => newRow p l (l.length - 1 - d) (outsR p l d) :: outsR p l d
theorem outsR_len (p : Plan) (l : List (List Int)) : ∀ d, (outsR p l d).length = d
  | 0 => rfl
  | d + 1 => by rw [outsR, List.length_cons, outsR_len p l d]
theorem newRow_len (p : Plan) (l : List (List Int)) (i : Nat) (rs : List (List Int)) : (newRow p l i rs).length = (l.getD i default).length := by
  unfold newRow
  split
  · rfl
  · exact partRow_len _ _ _
theorem newRow_vol (p : Plan) (l : List (List Int)) (i : Nat) (rs : List (List Int)) {j : Nat} (hj : 2 * j < (l.getD i default).length) : (newRow p l i rs).getD (2 * j) default = (l.getD i default).getD (2 * j) default := by
  unfold newRow
  split
  · rfl
  · rw [partRow_get _ _ _ hj, if_neg (by omega)]
theorem atR_bnd {R : List Int} {B : Int} (hB : 0 ≤ B) (h : ∀ j, j < R.length / 2 → -1 ≤ R.getD (2 * j + 1) default ∧ R.getD (2 * j + 1) default ≤ B) (a : Int) : -1 ≤ (atR R a).1 ∧ (atR R a).1 ≤ B := by
  cases hb : (atR R a).2 with
  | true =>
    obtain ⟨j, h1, h2, h3⟩ := atR_some hb
    rw [h3]
    exact h j h1
  | false =>
    have key : ∀ n j, (atFrom R a n j).2 = false → (atFrom R a n j).1 = 0 := by
      intro n
      induction n with
      | zero => intro j _; rfl
      | succ n ih =>
        intro j hj
        rw [atFrom] at hj ⊢
        split at hj
        · cases hj
        · next q => rw [if_neg q]; exact ih _ hj
    have : (atR R a).1 = 0 := key _ _ hb
    omega
theorem outs_ok {p : Plan} {l : List (List Int)} (hg : givenE p l = 0) (hall : ∀ k, k < l.length → holdsB p l k = true) : ∀ d, d < l.length → ∀ rs, rs = outsR p l (d + 1) → (rs.getD 0 default).length = (l.getD (l.length - 1 - d) default).length ∧ (∀ j, j < (rs.getD 0 default).length / 2 → (rs.getD 0 default).getD (2 * j) default = (l.getD (l.length - 1 - d) default).getD (2 * j) default) ∧ ∀ j, j < (rs.getD 0 default).length / 2 → -1 ≤ (rs.getD 0 default).getD (2 * j + 1) default ∧ (rs.getD 0 default).getD (2 * j + 1) default ≤ (d : Int) * 4398046511104000 := by
  obtain ⟨hp, hln, hrow⟩ := given_in hg
  have h200 := (planB_in hp).2.2.2.1
  intro d
  induction d with
  | zero =>
    intro hd rs hrs
    subst hrs
    have e0 : (outsR p l 1).getD 0 default = l.getD (l.length - 1) default := by
      rw [outsR]
      show newRow p l (l.length - 1 - 0) (outsR p l 0) = _
      unfold newRow
      rw [if_pos (by omega)]; rfl
    rw [e0]
    refine ⟨rfl, fun _ _ => rfl, fun j hj => ?_⟩
    have h1 := hall (l.length - 1) (by omega)
    unfold holdsB at h1
    simp only [Bool.and_eq_true, List.all_eq_true, List.mem_range, if_pos (by omega : l.length - 1 + 1 = l.length)] at h1
    have := h1.2 j hj
    have : (l.getD (l.length - 1) default).getD (2 * j + 1) default = 0 := by simpa using this
    omega
  | succ d ih =>
    intro hd rs hrs
    subst hrs
    obtain ⟨i1, i2, i3⟩ := ih (by omega) _ rfl
    have e0 : (outsR p l (d + 2)).getD 0 default = newRow p l (l.length - 1 - (d + 1)) (outsR p l (d + 1)) := by rw [outsR]; rfl
    rw [e0]
    refine ⟨newRow_len _ _ _ _, fun j hj => newRow_vol _ _ _ _ (by rw [newRow_len] at hj; omega), fun j hj => ?_⟩
    rw [newRow_len] at hj
    have hi : ¬ l.length - 1 - (d + 1) + 1 = l.length := by omega
    unfold newRow
    rw [if_neg hi, partRow_get _ _ _ (by omega), if_pos ⟨by omega, by omega⟩]
    unfold newF raisedV
    have hy := atR_bnd (R := (outsR p l (d + 1)).getD 0 default) (B := (d : Int) * 4398046511104000) (by omega) i3
    obtain ⟨hr1, hr2⟩ := hrow (l.length - 1 - (d + 1)) (by omega)
    have hv := (rowB_in hr1).2.1 j hj
    have hb := planB_in hp
    have hz := rz_in hp (k := l.length - 1 - (d + 1)) (by omega) (v := (l.getD (l.length - 1 - (d + 1)) default).getD (2 * j + 1 - 1) default) (by rw [Nat.add_sub_cancel]; omega) (R := (outsR p l (d + 1)).getD 0 default) (B := (d : Int) * 4398046511104000) (by omega) hy p.rel.length (Nat.le_refl _)
    rw [List.take_length] at hz
    have e : ((d + 1 : Nat) : Int) * 4398046511104000 = (d : Int) * 4398046511104000 + 4398046511104000 := by omega
    rw [e]
    exact hz
theorem check_all {p : Plan} {l : List (List Int)} (h : failK p l < l.length → False) (h0 : givenE p l = 0) : checkR p l = (true, 0, 0) := by
  unfold checkR
  rw [if_neg (fun k => k h0), if_neg h]
def raiseR (p : Plan) (l : List (List Int)) : List (List Int) × Int :=
  if ¬ givenE p l = 0 then ([], givenE p l) else if failK p l < l.length then ([], 13) else (outsR p l l.length, 0)
def prO (c : Nat) (rs : List (List Int)) : List (List DV) := List.replicate c nilRow ++ rows ilRow rs
theorem prO_len (c : Nat) (rs : List (List Int)) : (prO c rs).length = c + rs.length := by simp [prO, rows]
theorem prO_frz (c : Nat) (rs : List (List Int)) (o : Nat) (x : FV) : (prO c rs).map (DV.frzL o x) = prO c rs := by
  unfold prO; rw [List.map_append, frz_rows, List.map_replicate]; rfl
theorem prO_ren (c : Nat) (rs : List (List Int)) (a b : Nat) : (prO c rs).map (DV.renL a b) = prO c rs := by
  unfold prO; rw [List.map_append, ren_rows, List.map_replicate]; rfl
theorem prO_uses (c : Nat) (rs : List (List Int)) (U : Nat → Prop) : DV.usesL U (prO c rs).flatten := by
  unfold prO
  rw [List.flatten_append]
  refine usesL_append (usesL_iff.2 fun d hd => ?_) (uses_rows ilRow U rs)
  obtain ⟨r, hr, hd⟩ := List.mem_flatten.1 hd
  rw [List.eq_of_mem_replicate hr] at hd
  simp only [nilRow, List.mem_singleton] at hd
  subst hd; trivial
theorem prO_set (c : Nat) (rs : List (List Int)) (r : List Int) : (prO (c + 1) rs).set c [.p (.dat 1 (r.map inRow))] = prO c (r :: rs) := by
  unfold prO
  rw [List.set_append_left _ _ (by rw [List.length_replicate]; omega)]
  have e : (List.replicate (c + 1) nilRow).set c [.p (.dat 1 (r.map inRow))] = List.replicate c nilRow ++ [[.p (.dat 1 (r.map inRow))]] := by
    rw [List.replicate_succ', List.set_append_right _ _ (by rw [List.length_replicate]; omega), List.length_replicate, Nat.sub_self]; rfl
  rw [e, List.append_assoc]; rfl
theorem prO_nil (c : Nat) (rs : List (List Int)) : (prO (c + 1) rs).getD c [] = nilRow := by
  unfold prO
  rw [List.getD_eq_getElem?_getD, List.getElem?_append_left (by rw [List.length_replicate]; omega), List.getElem?_replicate, if_pos (by omega)]; rfl
theorem prO_row (c : Nat) (rs : List (List Int)) (h : 0 < rs.length) : (prO c rs).getD c [] = [.p (.dat 1 ((rs.getD 0 default).map inRow))] := by
  unfold prO
  rw [List.getD_eq_getElem?_getD, List.getElem?_append_right (by rw [List.length_replicate]; omega), List.length_replicate, Nat.sub_self]
  cases rs with
  | nil => cases h
  | cons r rs => rfl
def rowAt (O : List (List DV)) (i : Nat) : List Int := match O.getD i [] with
  | [.p (.dat 1 l)] => l.map fun r => match r with
    | [.lit (.int .i64 z)] => z
    | _ => 0
  | _ => []
theorem rowAt_eq {O : List (List DV)} {i : Nat} {r : List Int} (h : O.getD i [] = [.p (.dat 1 (r.map inRow))]) : rowAt O i = r := by
  unfold rowAt
  rw [h]
  show (r.map inRow).map _ = r
  rw [List.map_map]
  exact List.map_id r
theorem own_row (O : List (List DV)) (i : Nat) [h : Nonempty (O.getD i [] = [.p (.dat 1 ((rowAt O i).map inRow))])] : O.getD i [] = [.p (.dat 1 ((rowAt O i).map inRow))] := h.elim id
theorem own_185 (O : List (List DV)) (i : Nat) [h : Nonempty (O.getD i [] = [.gl 185])] : O.getD i [] = [.gl 185] := h.elim id
attribute [push_cast] own_row own_185
theorem getD_set_ne2 (O : List (List DV)) (i k : Nat) (x : List DV) (h : ¬ k = i) : (O.set i x).getD k [] = O.getD k [] := by
  rw [List.getD_eq_getElem?_getD, List.getElem?_set_ne (fun e => h e.symm), ← List.getD_eq_getElem?_getD]
theorem getD_set_eq2 (O : List (List DV)) (i : Nat) (x : List DV) (h : i < O.length) : (O.set i x).getD i [] = x := by
  rw [List.getD_eq_getElem?_getD, List.getElem?_set_self h]; rfl
theorem set_uses {O : List (List DV)} {U : Nat → Prop} (h : DV.usesL U O.flatten) {K i : Nat} (hK : U K) : DV.usesL U (O.set i [.gl K]).flatten :=
  usesL_iff.2 fun d hd => by
    obtain ⟨r, hr, hd⟩ := List.mem_flatten.1 hd
    rcases List.mem_or_eq_of_mem_set hr with hr | rfl
    · exact usesL_iff.1 h d (List.mem_flatten.2 ⟨r, hr, hd⟩)
    · simp only [List.mem_singleton] at hd; subst hd; exact hK
set_option maxRecDepth 20000 in
set_option maxHeartbeats 16000000 in
theorem rRaise_f (p : Plan) (l : List (List Int)) (m : Nat) (hq : planOk p) (hl : rowsOk l) : DCalls Try.prog 27 [planD p, intss l] (hget []) m (.tup [intss (raiseR p l).1, li (raiseR p l).2]) (hget []) := by
  have cc := fun m => rCheck_f p l m hq hl
  have hl1 := hl.1
  by_cases h0 : givenE p l = 0
  case neg =>
    rw [show raiseR p l = ([], givenE p l) from if_pos h0]
    rw [show checkR p l = (false, 0, givenE p l) from if_pos h0] at cc
    generalize givenE p l = E at *
    (have := Nonempty.intro h0)
    refine pureC (n := 87) (rs := [.tmp 4, .tmp 5]) (ts := [27, 3]) Try.func27 rfl (by decide) [] (by (exact SD)) ?_
    (repeat' (first | refine swp_seq [0, 1, 2, 4, 5, 6, 8, 9, 10, 11, 20, 23, 31, 49, 63] ?_ | refine st1 ?_ | (show CallQ ..; first | refine cF ?_ | refine cQ (fun hcc => (by first | exact cc _)) ?_ | (refine lP ?_; refine lQ (fun hcc m => (by first | exact cc _)) ?_)) | (show Fct ..; refine fctI (fun hf => ?_)) | (show XCallQ ..; first | refine xcF ?_ | refine xQ (fun hcc => (by first | exact cc _)) ?_ | (refine xlP ?_; refine xlQ (fun hcc m => (by first | exact cc _)) ?_)) | (show SWp _ _ _ (.region _ _ true) _ _ _ _; refine xG mixed [] ?_) | (show SWp _ _ _ (.cond _ _ _) _ _ _ _; first | (refine cB (fun hc => ?_) (fun hc => ?_) <;> first | exact False.elim hc | exact absurd hc Bool.false_ne_true | exact absurd hc.symm Bool.false_ne_true | skip) | refine cU ?_ ?_)))
    exact DVR
  have hR : raiseR p l = if failK p l < l.length then ([], 13) else (outsR p l l.length, 0) := if_neg (fun k => k h0)
  rw [hR]
  clear hR
  by_cases h1 : failK p l < l.length
  · have hC : checkR p l = (false, (failK p l : Int), 0) := by unfold checkR; rw [if_neg (fun k => k h0), if_pos h1]
    rw [hC] at cc
    rw [if_pos h1]
    refine pureC (n := 87) (rs := [.tmp 4, .tmp 5]) (ts := [27, 3]) Try.func27 rfl (by decide) [] (by (exact SD)) ?_
    (repeat' (first | refine swp_seq [0, 1, 2, 4, 5, 6, 8, 9, 10, 11, 20, 23, 31, 49, 63] ?_ | refine st1 ?_ | (show CallQ ..; first | refine cF ?_ | refine cQ (fun hcc => (by first | exact cc _)) ?_ | (refine lP ?_; refine lQ (fun hcc m => (by first | exact cc _)) ?_)) | (show Fct ..; refine fctI (fun hf => ?_)) | (show XCallQ ..; first | refine xcF ?_ | refine xQ (fun hcc => (by first | exact cc _)) ?_ | (refine xlP ?_; refine xlQ (fun hcc m => (by first | exact cc _)) ?_)) | (show SWp _ _ _ (.region _ _ true) _ _ _ _; refine xG mixed [] ?_) | (show SWp _ _ _ (.cond _ _ _) _ _ _ _; first | (refine cB (fun hc => ?_) (fun hc => ?_) <;> first | exact False.elim hc | exact absurd hc Bool.false_ne_true | exact absurd hc.symm Bool.false_ne_true | skip) | refine cU ?_ ?_)))
    exact DVR
  rw [check_all h1 h0] at cc
  rw [if_neg h1]
  obtain ⟨hp, hln, hrow⟩ := given_in h0
  have hall := fun k hk => failK_all (k := k) h1 hk
  have hok := outs_ok h0 hall
  have hin := planB_in hp
  refine pureC (n := 87) (rs := [.tmp 4, .tmp 5]) (ts := [27, 3]) Try.func27 rfl (by decide) [152] (by (exact SD)) ?_
  (repeat' (first | refine swp_seq [0, 1, 2, 4, 5, 6, 8, 9, 10, 11, 20, 23, 31, 49, 63] ?_ | refine st1 ?_ | (show CallQ ..; first | refine cF ?_ | refine cQ (fun hcc => (by first | exact cc _)) ?_ | (refine lP ?_; refine lQ (fun hcc m => (by first | exact cc _)) ?_)) | (show Fct ..; refine fctI (fun hf => ?_)) | (show XCallQ ..; first | refine xcF ?_ | refine xQ (fun hcc => (by first | exact cc _)) ?_ | (refine xlP ?_; refine xlQ (fun hcc m => (by first | exact cc _)) ?_)) | (show SWp _ _ _ (.region _ _ true) _ _ _ _; refine xG mixed [] ?_) | (show SWp _ _ _ (.cond _ _ _) _ _ _ _; first | (refine cB (fun hc => ?_) (fun hc => ?_) <;> first | exact False.elim hc | exact absurd hc Bool.false_ne_true | exact absurd hc.symm Bool.false_ne_true | skip) | refine cU ?_ ?_)))
  refine loop_swp [1, 2, 9, 10] [0, 152] 153 (fun q A H => ∃ c : Nat, c ≤ l.length ∧ q = c ∧ A = [(1, intss l), (2, .ptr 0 0), (9, .gl 152), (10, li ((c : Int) - 1))] ∧ H = [(0, .blk 26 (planC p)), (152, .lst 22 1 (prO c (outsR p l (l.length - c))))]) (by omega) ?_ ?_ ?_
  · rintro q A H ⟨c, g1, g2, rfl, rfl⟩
    exact ⟨by (exact SD), ⟨by omega, by (exact SD), by omega, prO_uses _ _ _, trivial⟩⟩
  · refine ⟨_, l.length, Nat.le_refl _, rfl, ?_, ?_⟩
    · exact DVR
    · rw [Nat.sub_self]
      show hkeep [_, _] [0, 152] = _
      unfold prO
      rw [show rows ilRow (outsR p l 0) = [] from rfl, List.append_nil]
      rfl
  rintro q A H ⟨c, g1, g2, rfl, rfl⟩
  by_cases hc0 : c = 0
  · subst hc0
    have e1 : ((0 : Nat) : Int) - 1 = -1 := by omega
    rw [e1, Nat.sub_zero, show prO 0 (outsR p l l.length) = rows ilRow (outsR p l l.length) from List.nil_append _]
    (repeat' (first | refine swp_seq [0, 1, 2, 4, 5, 6, 8, 9, 10, 11, 20, 23, 31, 49, 63] ?_ | refine st1 ?_ | (show Fct ..; refine fctI (fun hf => ?_)) | (show SWp _ _ _ (.region _ _ true) _ _ _ _; refine xG mixed [] ?_) | (show SWp _ _ _ (.cond _ _ _) _ _ _ _; first | (refine cB (fun hc => ?_) (fun hc => ?_) <;> first | exact False.elim hc | exact absurd hc Bool.false_ne_true | exact absurd hc.symm Bool.false_ne_true | skip) | refine cU ?_ ?_)))
    exact DVR
  obtain ⟨i, rfl⟩ : ∃ i, c = i + 1 := ⟨c - 1, by omega⟩
  have e1 : ((i + 1 : Nat) : Int) - 1 = (i : Int) := by omega
  rw [e1]
  have hil : i < l.length := by omega
  (have := Nonempty.intro hil)
  generalize hO1 : prO (i + 1) (outsR p l (l.length - (i + 1))) = O1
  have hO1l : O1.length = l.length := by rw [← hO1, prO_len, outsR_len]; omega
  have hi3 : (i : Int) < (O1.length : Int) := by omega
  (have := Nonempty.intro hi3)
  have hi0 : (0 : Int) ≤ (i : Int) := by omega
  (have := Nonempty.intro hi0)
  obtain ⟨hr1, hr8⟩ := hrow i hil
  obtain ⟨he, hval, hsort⟩ := rowB_in hr1
  have hrsl : (outsR p l (l.length - (i + 1))).length = l.length - (i + 1) := outsR_len _ _ _
  have hnew : outsR p l (l.length - i) = newRow p l i (outsR p l (l.length - (i + 1))) :: outsR p l (l.length - (i + 1)) := by
    have e2 : l.length - i = (l.length - (i + 1)) + 1 := by omega
    rw [e2, outsR]
    congr 2
    omega
  have hoki : i + 1 < l.length → ((outsR p l (l.length - (i + 1))).getD 0 default).length = (l.getD (i + 1) default).length ∧ ∀ a, -1 ≤ (atR ((outsR p l (l.length - (i + 1))).getD 0 default) a).1 ∧ (atR ((outsR p l (l.length - (i + 1))).getD 0 default) a).1 ≤ 1152921504606846976 := fun hi1 => by
    have e2 : l.length - (i + 1) = (l.length - (i + 2)) + 1 := by omega
    have h200 := hin.2.2.2.1
    obtain ⟨k1, k2, k3⟩ := hok (l.length - (i + 2)) (by omega) _ rfl
    rw [e2]
    rw [show l.length - 1 - (l.length - (i + 2)) = i + 1 by omega] at k1
    refine ⟨k1, fun a => ?_⟩
    have := atR_bnd (B := ((l.length - (i + 2) : Nat) : Int) * 4398046511104000) (by omega) k3 a
    omega
  have hO1r : O1.map (DV.renL 185 225) = O1 := by rw [← hO1]; exact prO_ren _ _ _ _
  have hO1n : O1.getD i [] = nilRow := by rw [← hO1]; exact prO_nil _ _
  have hO1x : i + 1 < l.length → O1.getD (i + 1) [] = [.p (.dat 1 (((outsR p l (l.length - (i + 1))).getD 0 default).map inRow))] := fun hi1 => by rw [← hO1]; exact prO_row _ _ (by omega)
  have hset : (List.map (DV.renL 185 225) O1).set i (DV.gl 185 :: List.drop 1 ((List.map (DV.renL 185 225) O1).getD i [])) = O1.set i [.gl 185] := by rw [hO1r, hO1n]; rfl
  have hO1u : ∀ U, DV.usesL U O1.flatten := fun U => by rw [← hO1]; exact prO_uses _ _ _
  have hO1s : ∀ r : List Int, O1.set i [.p (.dat 1 (r.map inRow))] = prO i (r :: outsR p l (l.length - (i + 1))) := fun r => by rw [← hO1]; exact prO_set _ _ _
  have hO1f : ∀ o x, O1.map (DV.frzL o x) = O1 := fun o x => by rw [← hO1]; exact prO_frz _ _ _ _
  (repeat' (first | refine swp_seq [0, 1, 2, 4, 5, 6, 8, 9, 10, 11, 20, 23, 31, 49, 63] ?_ | refine st1 ?_ | (show CallQ ..; first | refine cF ?_ | refine cQ (fun hcc => (by fail)) ?_ | (refine lP ?_; refine lQ (fun hcc m => (by fail)) ?_)) | (show Fct ..; refine fctI (fun hf => ?_)) | (show XCallQ ..; first | refine xcF ?_ | refine xQ (fun hcc => (by fail)) ?_ | (refine xlP ?_; refine xlQ (fun hcc m => (by fail)) ?_)) | (show SWp _ _ _ (.region _ _ true) _ _ _ _; refine xG mixed [] ?_) | (show SWp _ _ _ (.cond _ _ _) _ _ _ _; first | (refine cB (fun hc => ?_) (fun hc => ?_) <;> first | exact False.elim hc | exact absurd hc Bool.false_ne_true | exact absurd hc.symm Bool.false_ne_true | skip) | refine cU ?_ ?_)))
  rw [hset]
  have hO2l : (O1.set i [.gl 185]).length = l.length := by rw [List.length_set]; exact hO1l
  have hO2i : (O1.set i [.gl 185]).getD i [] = [.gl 185] := getD_set_eq2 _ _ _ (by omega)
  have hO2x : i + 1 < l.length → (O1.set i [.gl 185]).getD (i + 1) [] = [.p (.dat 1 (((outsR p l (l.length - (i + 1))).getD 0 default).map inRow))] := fun hi1 => by rw [getD_set_ne2 _ _ _ _ (by omega)]; exact hO1x hi1
  have hO2u : DV.usesL (fun i => i < 186) (O1.set i [.gl 185]).flatten := set_uses (hO1u _) (by omega)
  have hO2f : ∀ r : List Int, hfrzL 185 (.elems 1 (r.map inRow)) [(0, .blk 26 (planC p)), (152, .lst 22 1 (O1.set i [.gl 185])), (185, inLt r)] = [(0, .blk 26 (planC p)), (152, .lst 22 1 (prO i (r :: outsR p l (l.length - (i + 1)))))] := fun r => by
    rw [← hO1s]
    simp only [hfrzL, HV.frz, List.map_set, hO1f]
    rfl
  generalize hO2 : O1.set i [.gl 185] = O2 at *
  have hi4 : (i : Int) < (O2.length : Int) := by omega
  (have := Nonempty.intro hi4)
  (have := Nonempty.intro hO2i)
  have hf : ∀ j, 2 * j + 1 < (l.getD i default).length → True := fun _ _ => trivial
  generalize hrs : outsR p l (l.length - (i + 1)) = rs at *
  refine loop_swp [1, 2, 9, 10, 11] [0, 152, 185] 186 (fun q A H => ∃ j k2 : Nat, k2 = 2 * j ∧ k2 ≤ (l.getD i default).length ∧ q = (l.getD i default).length - k2 ∧ A = [(1, intss l), (2, .ptr 0 0), (9, .gl 152), (10, li i), (11, li k2)] ∧ H = [(0, .blk 26 (planC p)), (152, .lst 22 1 O2), (185, inLt (partRow (l.getD i default) (fun k => if i + 1 = l.length then 0 else newF p i (l.getD i default) (rs.getD 0 default) k) j))]) (by omega) ?_ ?_ ?_
  · rintro q A H ⟨j, k2, k1, f1, f2, rfl, rfl⟩
    exact ⟨by (exact SD), ⟨by omega, by (exact SD), by omega, hO2u, by omega, by (exact SD), trivial⟩⟩
  · refine ⟨_, 0, 0, rfl, by omega, rfl, ?_, ?_⟩
    · exact DVR
    · rw [partRow_0]
      exact DVR
  rintro q A H ⟨j, k2, k1, f1, f2, rfl, rfl⟩
  have hpl := partRow_len (l.getD i default) (fun k => if i + 1 = l.length then 0 else newF p i (l.getD i default) (rs.getD 0 default) k) j
  by_cases hj : k2 < (l.getD i default).length
  · have hj3 : (k2 : Int) < ((l.getD i default).length : Int) := by omega
    have hj5 : k2 + 1 < (l.getD i default).length := by omega
    have hXv := partRow_get (l.getD i default) (fun k => if i + 1 = l.length then 0 else newF p i (l.getD i default) (rs.getD 0 default) k) j (k := k2) (by omega)
    rw [if_neg (by omega)] at hXv
    have hXs := partRow_set (l.getD i default) (fun k => if i + 1 = l.length then 0 else newF p i (l.getD i default) (rs.getD 0 default) k) j (by omega)
    rw [← k1] at hXs
    generalize partRow (l.getD i default) (fun k => if i + 1 = l.length then 0 else newF p i (l.getD i default) (rs.getD 0 default) k) j = X at *
    have hx1 : (k2 : Int) < (X.length : Int) := by omega
    have hx2 : k2 < X.length := by omega
    have hx3 : k2 + 1 < X.length := by omega
    (have := Nonempty.intro hx1)
    (have := Nonempty.intro hx2)
    (have := Nonempty.intro hx3)
    have hv0 := (hval j (by omega)).1
    rw [← k1] at hv0
    (repeat' (first | (show SWp _ _ _ (.seq (.region 15 _ _) _) _ _ _ _; refine (stop_in ?_)) | refine swp_seq [0, 1, 2, 4, 5, 6, 8, 9, 10, 11, 20, 23, 31, 49, 63] ?_ | refine st1 ?_ | (show CallQ ..; first | refine cF ?_ | refine cQ (fun hcc => (by fail)) ?_ | (refine lP ?_; refine lQ (fun hcc m => (by fail)) ?_)) | (show Fct ..; refine fctI (fun hf => ?_)) | (show XCallQ ..; first | refine xcF ?_ | refine xQ (fun hcc => (by fail)) ?_ | (refine xlP ?_; refine xlQ (fun hcc m => (by fail)) ?_)) | (show SWp _ _ _ (.region _ _ true) _ _ _ _; refine xG mixed [] ?_) | (show SWp _ _ _ (.cond _ _ _) _ _ _ _; first | (refine cB (fun hc => ?_) (fun hc => ?_) <;> first | exact False.elim hc | exact absurd hc Bool.false_ne_true | exact absurd hc.symm Bool.false_ne_true | skip) | refine cU ?_ ?_)))
    refine stop_out ?_
    by_cases hi1 : (i : Int) < (l.length : Int) - 1
    · (have := Nonempty.intro hi1)
      rw [if_neg (by omega)] at hXs
      have hss : (X.set (k2 + 1) 0).set (k2 + 1) (newF p i (l.getD i default) (rs.getD 0 default) (k2 + 1)) = X.set (k2 + 1) (newF p i (l.getD i default) (rs.getD 0 default) (k2 + 1)) := by rw [List.set_set]
      rw [hXs] at hss
      have h0v : (X.set (k2 + 1) 0).getD k2 default = (l.getD i default).getD k2 default := by rw [getD_set_ne' _ _ _ _ (by omega)]; exact hXv
      have h0l : (X.set (k2 + 1) 0).length = X.length := List.length_set
      obtain ⟨q1, q2⟩ := hoki (by omega)
      obtain ⟨hr1', hr8'⟩ := hrow (i + 1) (by omega)
      have he' := (rowB_in hr1').1
      have cr := fun m => raised_f p (rs.getD 0 default) i ((l.getD i default).getD k2 default) m hp (by omega) (by omega) (by omega) (by omega) q2
      have hxr := rowAt_eq (hO2x (by omega))
      have hxf := hO2x (by omega)
      rw [← hxr] at cr hxf
      have hV : newF p i (l.getD i default) (rs.getD 0 default) (k2 + 1) = raisedV p i ((X.set (k2 + 1) 0).getD k2 default) (rowAt O2 (i + 1)) := by rw [h0v, hxr]; rfl
      rw [hV] at hss
      rw [← h0v] at cr
      clear hV
      generalize hX0 : X.set (k2 + 1) 0 = X0 at *
      have hy1 : k2 < X0.length := by omega
      have hy2 : k2 + 1 < X0.length := by omega
      (have := Nonempty.intro hy1)
      (have := Nonempty.intro hy2)
      have hi5 : (i : Int) + 1 < (O2.length : Int) := by omega
      (have := Nonempty.intro hi5)
      (have := Nonempty.intro hxf)
      generalize raisedV p i (X0.getD k2 default) (rowAt O2 (i + 1)) = V at *
      (repeat' (first | refine swp_seq [0, 1, 2, 4, 5, 6, 8, 9, 10, 11, 20, 23, 31, 49, 63] ?_ | refine st1 ?_ | (show CallQ ..; first | refine cF ?_ | refine cQ (fun hcc => (by first | exact cr _)) ?_ | (refine lP ?_; refine lQ (fun hcc m => (by first | exact cr _)) ?_)) | (show Fct ..; refine fctI (fun hf => ?_)) | (show XCallQ ..; first | refine xcF ?_ | refine xQ (fun hcc => (by first | exact cr _)) ?_ | (refine xlP ?_; refine xlQ (fun hcc m => (by first | exact cr _)) ?_)) | (show SWp _ _ _ (.region _ _ true) _ _ _ _; refine xG mixed [185, 1000020] ?_) | (show SWp _ _ _ (.cond _ _ _) _ _ _ _; first | (refine cB (fun hc => ?_) (fun hc => ?_) <;> first | exact False.elim hc | exact absurd hc Bool.false_ne_true | exact absurd hc.symm Bool.false_ne_true | skip) | refine cU ?_ ?_)))
      (refine lN [0, 152, 185] ?_)
      exact ⟨_, by omega, j + 1, k2 + 2, by omega, by omega, rfl, rfl, by rw [← hss]⟩
    · (have := Nonempty.intro hi1)
      rw [if_pos (by omega)] at hXs
      rw [hXs]
      (repeat' (first | refine swp_seq [0, 1, 2, 4, 5, 6, 8, 9, 10, 11, 20, 23, 31, 49, 63] ?_ | refine st1 ?_ | (show CallQ ..; first | refine cF ?_ | refine cQ (fun hcc => (by fail)) ?_ | (refine lP ?_; refine lQ (fun hcc m => (by fail)) ?_)) | (show Fct ..; refine fctI (fun hf => ?_)) | (show XCallQ ..; first | refine xcF ?_ | refine xQ (fun hcc => (by fail)) ?_ | (refine xlP ?_; refine xlQ (fun hcc m => (by fail)) ?_)) | (show SWp _ _ _ (.region _ _ true) _ _ _ _; refine xG mixed [] ?_) | (show SWp _ _ _ (.cond _ _ _) _ _ _ _; first | (refine cB (fun hc => ?_) (fun hc => ?_) <;> first | exact False.elim hc | exact absurd hc Bool.false_ne_true | exact absurd hc.symm Bool.false_ne_true | skip) | refine cU ?_ ?_)))
      (refine lN [0, 152, 185] ?_)
      exact ⟨_, by omega, j + 1, k2 + 2, by omega, by omega, rfl, rfl, rfl⟩
  have hj3 : ¬ ((k2 : Int) < ((l.getD i default).length : Int)) := by omega
  have hj2 : j = (l.getD i default).length / 2 := by omega
  have hfin : partRow (l.getD i default) (fun k => if i + 1 = l.length then 0 else newF p i (l.getD i default) (rs.getD 0 default) k) j = newRow p l i rs := by
    unfold newRow
    by_cases hi1 : i + 1 = l.length
    · rw [if_pos hi1]
      refine partRow_same _ _ _ fun k hk ho => ?_
      rw [if_pos hi1]
      have h1 := hall i hil
      unfold holdsB at h1
      simp only [Bool.and_eq_true, List.all_eq_true, List.mem_range, if_pos hi1] at h1
      have := h1.2 (k / 2) (by omega)
      rw [show 2 * (k / 2) + 1 = k by omega] at this
      exact (of_decide_eq_true this).symm
    · rw [if_neg hi1, hj2]
      congr 1
      funext k
      rw [if_neg hi1]
  rw [hfin] at hpl ⊢
  generalize newRow p l i rs = NR at *
  have hj4 : ¬ ((k2 : Int) < (NR.length : Int)) := by omega
  (have := Nonempty.intro hj4)
  (repeat' (first | (show SWp _ _ _ (.region 9 _ _) _ _ _ _; refine (stop_in ?_)) | refine swp_seq [0, 1, 2, 4, 5, 6, 8, 9, 10, 11, 20, 23, 31, 49, 63] ?_ | refine st1 ?_ | (show CallQ ..; first | refine cF ?_ | refine cQ (fun hcc => (by fail)) ?_ | (refine lP ?_; refine lQ (fun hcc m => (by fail)) ?_)) | (show Fct ..; refine fctI (fun hf => ?_)) | (show XCallQ ..; first | refine xcF ?_ | refine xQ (fun hcc => (by fail)) ?_ | (refine xlP ?_; refine xlQ (fun hcc m => (by fail)) ?_)) | (show SWp _ _ _ (.region _ _ true) _ _ _ _; refine xG mixed [] ?_) | (show SWp _ _ _ (.cond _ _ _) _ _ _ _; first | (refine cB (fun hc => ?_) (fun hc => ?_) <;> first | exact False.elim hc | exact absurd hc Bool.false_ne_true | exact absurd hc.symm Bool.false_ne_true | skip) | refine cU ?_ ?_)))
  refine stop_out ?_
  refine sF 185 ?_ (x := .elems 1 (NR.map inRow)) (eH := hO2f NR)
  rw [← hnew]
  have hl9 : (prO i (outsR p l (l.length - i))).length = l.length := by rw [prO_len, outsR_len]; omega
  generalize hO9 : prO i (outsR p l (l.length - i)) = O9 at *
  (repeat' (first | refine swp_seq [0, 1, 2, 4, 5, 6, 8, 9, 10, 11, 20, 23, 31, 49, 63] ?_ | refine st1 ?_ | (show Fct ..; refine fctI (fun hf => ?_)) | (show SWp _ _ _ (.region _ _ true) _ _ _ _; refine xG mixed [] ?_) | (show SWp _ _ _ (.cond _ _ _) _ _ _ _; first | (refine cB (fun hc => ?_) (fun hc => ?_) <;> first | exact False.elim hc | exact absurd hc Bool.false_ne_true | exact absurd hc.symm Bool.false_ne_true | skip) | refine cU ?_ ?_)))
  (refine lN [0, 152] ?_)
  exact ⟨_, by omega, i, by omega, rfl, rfl, by rw [hO9]⟩

end Go.Proofs.Ytagalkckebffhaa
