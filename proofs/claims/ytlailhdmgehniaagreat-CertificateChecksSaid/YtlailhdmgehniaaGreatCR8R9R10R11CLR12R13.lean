/-
  Contracts of functions of the program, over the engine.
  No condition.
-/
import Derived.Test.YtlailhdmgehniaaGreatCC11C12C14C15C16C24C35R6R7
import Derived.Test.YtlailhdmgehniaaGreatCC0C1
namespace Go.Proofs.YtlailhdmgehniaaGreat
open Go.Eng
set_option linter.all false
attribute [local irreducible] DCallsG SWp Fct CallQ XCallQ LCallQ XLCallQ drun xrun

def rzStep (p : Plan) (k : Nat) (v : Int) (R : List Int) (b r : Int) : Int :=
  if possB p k v r = true then (if (atR R (aftI p k v r)).1 = -1 then b else if b = -1 ∨ costI p k v r + (atR R (aftI p k v r)).1 < b then costI p k v r + (atR R (aftI p k v r)).1 else b) else b
def raisedV (p : Plan) (k : Nat) (v : Int) (R : List Int) : Int := p.rel.foldl (rzStep p k v R) (-1)
theorem foldl_snoc {α β : Type} [Inhabited α] (f : β → α → β) (l : List α) (b : β) {i : Nat} (h : i < l.length) : (l.take (i + 1)).foldl f b = f ((l.take i).foldl f b) (l.getD i default) := by
  rw [take_snoc h, List.foldl_append]; rfl
theorem rz_in {p : Plan} (hp : planB p = true) {k : Nat} (hk : k < p.inf.length) {v : Int} (hv : 0 ≤ v ∧ v ≤ 1099511627776) {R : List Int} {B : Int} (hB : 0 ≤ B) (hy : ∀ a, -1 ≤ (atR R a).1 ∧ (atR R a).1 ≤ B) : ∀ i, i ≤ p.rel.length → -1 ≤ (p.rel.take i).foldl (rzStep p k v R) (-1) ∧ (p.rel.take i).foldl (rzStep p k v R) (-1) ≤ B + 4398046511104000 := by
  intro i
  induction i with
  | zero => intro _; rw [List.take_zero, List.foldl_nil]; omega
  | succ i ih =>
    intro hi
    have h1 := ih (by omega)
    rw [foldl_snoc _ _ _ (by omega : i < p.rel.length)]
    have h2 := (cost_in hp hk hv (show i < p.rel.length by omega)).2.2.2
    have h3 := hy (aftI p k v (p.rel.getD i default))
    unfold rzStep at h1 ⊢
    split
    · split
      · exact h1
      · split
        · omega
        · exact h1
    · exact h1
def partRow (row : List Int) (f : Nat → Int) (j : Nat) : List Int := (List.range row.length).map fun k => if k % 2 = 1 ∧ k < 2 * j then f k else row.getD k default
theorem partRow_len (row : List Int) (f : Nat → Int) (j : Nat) : (partRow row f j).length = row.length := by unfold partRow; rw [List.length_map, List.length_range]
theorem partRow_get (row : List Int) (f : Nat → Int) (j : Nat) {k : Nat} (hk : k < row.length) : (partRow row f j).getD k default = if k % 2 = 1 ∧ k < 2 * j then f k else row.getD k default := by
  unfold partRow
  rw [List.getD_eq_getElem?_getD, List.getElem?_map, List.getElem?_range hk]; rfl
theorem ints_ext {a b : List Int} (h1 : a.length = b.length) (h2 : ∀ i, i < a.length → a.getD i default = b.getD i default) : a = b := by
  refine List.ext_getElem h1 fun i hi hj => ?_
  have := h2 i hi
  rw [List.getD_eq_getElem?_getD, List.getD_eq_getElem?_getD, List.getElem?_eq_getElem hi, List.getElem?_eq_getElem hj] at this
  exact this
theorem partRow_0 (row : List Int) (f : Nat → Int) : partRow row f 0 = row :=
  ints_ext (partRow_len _ _ _) fun i hi => by
    rw [partRow_len] at hi
    rw [partRow_get _ _ _ hi, if_neg (by omega)]
theorem getD_set_ne' (l : List Int) (i k : Nat) (x : Int) (h : ¬ k = i) : (l.set i x).getD k default = l.getD k default := by
  rw [List.getD_eq_getElem?_getD, List.getElem?_set_ne (fun e => h e.symm), ← List.getD_eq_getElem?_getD]
theorem getD_set_eq' (l : List Int) (i : Nat) (x : Int) (h : i < l.length) : (l.set i x).getD i default = x := by
  rw [List.getD_eq_getElem?_getD, List.getElem?_set_self h]; rfl
theorem partRow_set (row : List Int) (f : Nat → Int) (j : Nat) (h : 2 * j + 1 < row.length) : (partRow row f j).set (2 * j + 1) (f (2 * j + 1)) = partRow row f (j + 1) :=
  ints_ext (by rw [List.length_set, partRow_len, partRow_len]) fun i hi => by
    rw [List.length_set, partRow_len] at hi
    by_cases e : i = 2 * j + 1
    · subst e
      rw [getD_set_eq' _ _ _ (by rw [partRow_len]; exact h), partRow_get _ _ _ hi, if_pos ⟨by omega, by omega⟩]
    · rw [getD_set_ne' _ _ _ _ e, partRow_get _ _ _ hi, partRow_get _ _ _ hi]
      by_cases c : i % 2 = 1 ∧ i < 2 * j
      · rw [if_pos c, if_pos ⟨c.1, by omega⟩]
      · rw [if_neg c, if_neg (fun q => c ⟨q.1, by omega⟩)]
theorem partRow_same (row : List Int) (f : Nat → Int) (j : Nat) (h : ∀ k, k < row.length → k % 2 = 1 → f k = row.getD k default) : partRow row f j = row :=
  ints_ext (partRow_len _ _ _) fun i hi => by
    rw [partRow_len] at hi
    rw [partRow_get _ _ _ hi]
    split
    · next c => exact h i hi c.1
    · rfl
def newF (p : Plan) (i : Nat) (row next : List Int) (k : Nat) : Int := raisedV p i (row.getD (k - 1) default) next
def newRow (p : Plan) (l : List (List Int)) (i : Nat) (rs : List (List Int)) : List Int :=
  if i + 1 = l.length then l.getD i default else partRow (l.getD i default) (newF p i (l.getD i default) (rs.getD 0 default)) ((l.getD i default).length / 2)
def outsR (p : Plan) (l : List (List Int)) : Nat → List (List Int)
  | 0 => []
  | d + 1 => newRow p l (l.length - 1 - d) (outsR p l d) :: outsR p l d
theorem outsR_len (p : Plan) (l : List (List Int)) : ∀ d, (outsR p l d).length = d
  | 0 => rfl
  | d + 1 => by rw [outsR, List.length_cons, outsR_len p l d]
theorem newRow_len (p : Plan) (l : List (List Int)) (i : Nat) (rs : List (List Int)) : (newRow p l i rs).length = (l.getD i default).length := by
  unfold newRow
  split
  · rfl
  · exact partRow_len _ _ _
theorem newRow_vol (p : Plan) (l : List (List Int)) (i : Nat) (rs : List (List Int)) {j : Nat} (hj : 2 * j < (l.getD i default).length) : (newRow p l i rs).getD (2 * j) default = (l.getD i default).getD (2 * j) default := by
  unfold newRow
  split
  · rfl
  · rw [partRow_get _ _ _ hj, if_neg (by omega)]
theorem atR_bnd {R : List Int} {B : Int} (hB : 0 ≤ B) (h : ∀ j, j < R.length / 2 → -1 ≤ R.getD (2 * j + 1) default ∧ R.getD (2 * j + 1) default ≤ B) (a : Int) : -1 ≤ (atR R a).1 ∧ (atR R a).1 ≤ B := by
  cases hb : (atR R a).2 with
  | true =>
    obtain ⟨j, h1, h2, h3⟩ := atR_some hb
    rw [h3]
    exact h j h1
  | false =>
    have key : ∀ n j, (atFrom R a n j).2 = false → (atFrom R a n j).1 = 0 := by
      intro n
      induction n with
      | zero => intro j _; rfl
      | succ n ih =>
        intro j hj
        rw [atFrom] at hj ⊢
        split at hj
        · cases hj
        · next q => rw [if_neg q]; exact ih _ hj
    have : (atR R a).1 = 0 := key _ _ hb
    omega
theorem outs_ok {p : Plan} {l : List (List Int)} (hg : givenE p l = 0) (hall : ∀ k, k < l.length → holdsB p l k = true) : ∀ d, d < l.length → ∀ rs, rs = outsR p l (d + 1) → (rs.getD 0 default).length = (l.getD (l.length - 1 - d) default).length ∧ (∀ j, j < (rs.getD 0 default).length / 2 → (rs.getD 0 default).getD (2 * j) default = (l.getD (l.length - 1 - d) default).getD (2 * j) default) ∧ ∀ j, j < (rs.getD 0 default).length / 2 → -1 ≤ (rs.getD 0 default).getD (2 * j + 1) default ∧ (rs.getD 0 default).getD (2 * j + 1) default ≤ (d : Int) * 4398046511104000 := by
  obtain ⟨hp, hln, hrow⟩ := given_in hg
  have h200 := (planB_in hp).2.2.2.1
  intro d
  induction d with
  | zero =>
    intro hd rs hrs
    subst hrs
    have e0 : (outsR p l 1).getD 0 default = l.getD (l.length - 1) default := by
      rw [outsR]
      show newRow p l (l.length - 1 - 0) (outsR p l 0) = _
      unfold newRow
      rw [if_pos (by omega)]; rfl
    rw [e0]
    refine ⟨rfl, fun _ _ => rfl, fun j hj => ?_⟩
    have h1 := hall (l.length - 1) (by omega)
    unfold holdsB at h1
    simp only [Bool.and_eq_true, List.all_eq_true, List.mem_range, if_pos (by omega : l.length - 1 + 1 = l.length)] at h1
    have := h1.2 j hj
    have : (l.getD (l.length - 1) default).getD (2 * j + 1) default = 0 := by simpa using this
    omega
  | succ d ih =>
    intro hd rs hrs
    subst hrs
    obtain ⟨i1, i2, i3⟩ := ih (by omega) _ rfl
    have e0 : (outsR p l (d + 2)).getD 0 default = newRow p l (l.length - 1 - (d + 1)) (outsR p l (d + 1)) := by rw [outsR]; rfl
    rw [e0]
    refine ⟨newRow_len _ _ _ _, fun j hj => newRow_vol _ _ _ _ (by rw [newRow_len] at hj; omega), fun j hj => ?_⟩
    rw [newRow_len] at hj
    have hi : ¬ l.length - 1 - (d + 1) + 1 = l.length := by omega
    unfold newRow
    rw [if_neg hi, partRow_get _ _ _ (by omega), if_pos ⟨by omega, by omega⟩]
    unfold newF raisedV
    have hy := atR_bnd (R := (outsR p l (d + 1)).getD 0 default) (B := (d : Int) * 4398046511104000) (by omega) i3
    obtain ⟨hr1, hr2⟩ := hrow (l.length - 1 - (d + 1)) (by omega)
    have hv := (rowB_in hr1).2.1 j hj
    have hb := planB_in hp
    have hz := rz_in hp (k := l.length - 1 - (d + 1)) (by omega) (v := (l.getD (l.length - 1 - (d + 1)) default).getD (2 * j + 1 - 1) default) (by rw [Nat.add_sub_cancel]; omega) (R := (outsR p l (d + 1)).getD 0 default) (B := (d : Int) * 4398046511104000) (by omega) hy p.rel.length (Nat.le_refl _)
    rw [List.take_length] at hz
    have e : ((d + 1 : Nat) : Int) * 4398046511104000 = (d : Int) * 4398046511104000 + 4398046511104000 := by omega
    rw [e]
    exact hz
theorem check_all {p : Plan} {l : List (List Int)} (h : failK p l < l.length → False) (h0 : givenE p l = 0) : checkR p l = (true, 0, 0) := by
  unfold checkR
  rw [if_neg (fun k => k h0), if_neg h]
def raiseR (p : Plan) (l : List (List Int)) : List (List Int) × Int :=
  if ¬ givenE p l = 0 then ([], givenE p l) else if failK p l < l.length then ([], 13) else (outsR p l l.length, 0)
def prO (c : Nat) (rs : List (List Int)) : List (List DV) := List.replicate c nilRow ++ rows ilRow rs
theorem prO_len (c : Nat) (rs : List (List Int)) : (prO c rs).length = c + rs.length := by simp [prO, rows]
theorem prO_frz (c : Nat) (rs : List (List Int)) (o : Nat) (x : FV) : (prO c rs).map (DV.frzL o x) = prO c rs := by
  unfold prO; rw [List.map_append, frz_rows, List.map_replicate]; rfl
theorem prO_ren (c : Nat) (rs : List (List Int)) (a b : Nat) : (prO c rs).map (DV.renL a b) = prO c rs := by
  unfold prO; rw [List.map_append, ren_rows, List.map_replicate]; rfl
theorem prO_uses (c : Nat) (rs : List (List Int)) (U : Nat → Prop) : DV.usesL U (prO c rs).flatten := by
  unfold prO
  rw [List.flatten_append]
  refine usesL_append (usesL_iff.2 fun d hd => ?_) (uses_rows ilRow U rs)
  obtain ⟨r, hr, hd⟩ := List.mem_flatten.1 hd
  rw [List.eq_of_mem_replicate hr] at hd
  simp only [nilRow, List.mem_singleton] at hd
  subst hd; trivial
theorem prO_set (c : Nat) (rs : List (List Int)) (r : List Int) : (prO (c + 1) rs).set c [.p (.dat 1 (r.map inRow))] = prO c (r :: rs) := by
  unfold prO
  rw [List.set_append_left _ _ (by rw [List.length_replicate]; omega)]
  have e : (List.replicate (c + 1) nilRow).set c [.p (.dat 1 (r.map inRow))] = List.replicate c nilRow ++ [[.p (.dat 1 (r.map inRow))]] := by
    rw [List.replicate_succ', List.set_append_right _ _ (by rw [List.length_replicate]; omega), List.length_replicate, Nat.sub_self]; rfl
  rw [e, List.append_assoc]; rfl
theorem prO_nil (c : Nat) (rs : List (List Int)) : (prO (c + 1) rs).getD c [] = nilRow := by
  unfold prO
  rw [List.getD_eq_getElem?_getD, List.getElem?_append_left (by rw [List.length_replicate]; omega), List.getElem?_replicate, if_pos (by omega)]; rfl
theorem prO_row (c : Nat) (rs : List (List Int)) (h : 0 < rs.length) : (prO c rs).getD c [] = [.p (.dat 1 ((rs.getD 0 default).map inRow))] := by
  unfold prO
  rw [List.getD_eq_getElem?_getD, List.getElem?_append_right (by rw [List.length_replicate]; omega), List.length_replicate, Nat.sub_self]
  cases rs with
  | nil => cases h
  | cons r rs => rfl
def rowAt (O : List (List DV)) (i : Nat) : List Int := match O.getD i [] with
  | [.p (.dat 1 l)] => l.map fun r => match r with
    | [.lit (.int .i64 z)] => z
    | _ => 0
  | _ => []
theorem rowAt_eq {O : List (List DV)} {i : Nat} {r : List Int} (h : O.getD i [] = [.p (.dat 1 (r.map inRow))]) : rowAt O i = r := by
  unfold rowAt
  rw [h]
  show (r.map inRow).map _ = r
  rw [List.map_map]
  exact List.map_id r
theorem own_row (O : List (List DV)) (i : Nat) [h : Nonempty (O.getD i [] = [.p (.dat 1 ((rowAt O i).map inRow))])] : O.getD i [] = [.p (.dat 1 ((rowAt O i).map inRow))] := h.elim id
theorem own_185 (O : List (List DV)) (i : Nat) [h : Nonempty (O.getD i [] = [.gl 185])] : O.getD i [] = [.gl 185] := h.elim id
attribute [push_cast] own_row own_185
theorem getD_set_ne2 (O : List (List DV)) (i k : Nat) (x : List DV) (h : ¬ k = i) : (O.set i x).getD k [] = O.getD k [] := by
  rw [List.getD_eq_getElem?_getD, List.getElem?_set_ne (fun e => h e.symm), ← List.getD_eq_getElem?_getD]
theorem getD_set_eq2 (O : List (List DV)) (i : Nat) (x : List DV) (h : i < O.length) : (O.set i x).getD i [] = x := by
  rw [List.getD_eq_getElem?_getD, List.getElem?_set_self h]; rfl
theorem set_uses {O : List (List DV)} {U : Nat → Prop} (h : DV.usesL U O.flatten) {K i : Nat} (hK : U K) : DV.usesL U (O.set i [.gl K]).flatten :=
  usesL_iff.2 fun d hd => by
    obtain ⟨r, hr, hd⟩ := List.mem_flatten.1 hd
    rcases List.mem_or_eq_of_mem_set hr with hr | rfl
    · exact usesL_iff.1 h d (List.mem_flatten.2 ⟨r, hr, hd⟩)
    · simp only [List.mem_singleton] at hd; subst hd; exact hK
abbrev hRz (O : List (List DV)) (X : List Int) (i b : Int) : LH := [(152, .lst 22 1 O), (160, .blk 29 [.gl 152]), (200, .blk 3 [li i]), (265, inLt X), (322, .blk 3 [li b])]
def rzV (y c b : Int) : Int := if y = -1 then b else if b = -1 ∨ c + y < b then c + y else b
structure ROk (O : List (List DV)) : Prop where
  uses : ∀ U : Nat → Prop, U 265 → DV.usesL U O.flatten
  mp : ∀ r : Nat → Nat, r 265 = 265 → O.map (DV.mpL r) = O
  ren : ∀ a b : Nat, ¬ 265 = a → O.map (DV.renL a b) = O
theorem own_265 (O : List (List DV)) (i : Nat) [h : Nonempty (O.getD i [] = [.gl 265])] : O.getD i [] = [.gl 265] := h.elim id
attribute [push_cast] own_265
theorem prO_mp (c : Nat) (rs : List (List Int)) (r : Nat → Nat) : (prO c rs).map (DV.mpL r) = prO c rs := by
  unfold prO; rw [List.map_append, rows_mp, List.map_replicate]; rfl
theorem prO_ok (c i : Nat) (rs : List (List Int)) : ROk ((prO c rs).set i [.gl 265]) where
  uses U h := set_uses (prO_uses _ _ _) h
  mp r h := by rw [List.map_set, prO_mp]; simp only [DV.mpL, DV.mp, h]
  ren a b h := by rw [List.map_set, prO_ren]; simp only [DV.renL, DV.ren, rnm, if_neg h]
def fewB (p : Plan) : Bool := (decide (p.inf.length ≤ 8) || (decide (200 < p.inf.length) && decide (p.inf.length ≤ 210))) && (decide (p.rel.length ≤ 5) || (decide (20 < p.rel.length) && decide (p.rel.length ≤ 30))) && decide (p.pen.length ≤ 30)
set_option maxHeartbeats 4000000 in
theorem few_f (p : Plan) (m : Nat) (hq : planOk p) : DCalls Tryz.prog 15 [planD p] (hget []) m (lb (fewB p)) (hget []) := by
  refine pureC (n := 43) (rs := [.tmp 2]) (ts := [4]) Tryz.func15 rfl (by decide) [] (by (exact SD)) ?_
  (repeat' (first | refine swp_seq [0, 1, 2] ?_ | refine st2 ?_ | (show Fct ..; refine fctI (fun hf => ?_)) | (show SWp _ _ _ (.cond _ _ _) _ _ _ _; first | refine cB (fun hc => ?_) (fun hc => ?_) | refine cU ?_ ?_)))
  (refine DVQ ?_)
  refine lbC ?_
  unfold fewB
  grind
theorem raise_ok {p : Plan} {l : List (List Int)} (hl : rowsOk l) : rowsOk (raiseR p l).1 := by
  have hnil : rowsOk [] := ⟨by simp, by simp⟩
  unfold raiseR
  split
  · exact hnil
  split
  · exact hnil
  next h0 h1 =>
  have h0 : givenE p l = 0 := by simpa using h0
  obtain ⟨hp, hln, hrow⟩ := given_in h0
  have h200 := (planB_in hp).2.2.2.1
  have hall := fun k hk => failK_all (k := k) h1 hk
  have hok := outs_ok h0 hall
  refine ⟨by rw [outsR_len]; omega, ?_⟩
  have key : ∀ d, d ≤ l.length → ∀ r, r ∈ outsR p l d → intsOk r := by
    intro d
    induction d with
    | zero => intro _ r hr; cases hr
    | succ d ih =>
      intro hd r hr
      rw [outsR] at hr
      rcases List.mem_cons.1 hr with rfl | hr
      · have e0 : newRow p l (l.length - 1 - d) (outsR p l d) = (outsR p l (d + 1)).getD 0 default := by rw [outsR]; rfl
        obtain ⟨k1, k2, k3⟩ := hok d (by omega) _ rfl
        rw [← e0] at k1 k2 k3
        obtain ⟨hr1, hr8⟩ := hrow (l.length - 1 - d) (by omega)
        obtain ⟨q1, q2, q3⟩ := rowB_in hr1
        have hin := planB_in hp
        generalize newRow p l (l.length - 1 - d) (outsR p l d) = NR at *
        refine ⟨by omega, fun z hz => ?_⟩
        obtain ⟨a, ha, rfl⟩ := List.mem_iff_getElem.1 hz
        have e : NR.getD a default = NR[a] := by rw [List.getD_eq_getElem?_getD, List.getElem?_eq_getElem ha]; rfl
        rw [← e]
        unfold i64ok
        rcases Nat.mod_two_eq_zero_or_one a with h | h
        · have h2 := k2 (a / 2) (by omega)
          have h3 := (q2 (a / 2) (by omega)).1
          rw [show 2 * (a / 2) = a by omega] at h2 h3
          omega
        · have h3 := k3 (a / 2) (by omega)
          rw [show 2 * (a / 2) + 1 = a by omega] at h3
          omega
      · exact ih (by omega) r hr
  exact key l.length (Nat.le_refl _)
end Go.Proofs.YtlailhdmgehniaaGreat
