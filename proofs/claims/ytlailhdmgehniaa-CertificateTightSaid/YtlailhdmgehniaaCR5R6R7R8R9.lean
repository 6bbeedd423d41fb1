/-
  Contracts of functions of the program, over the engine.
  No condition.
-/
import Derived.Test.YtlailhdmgehniaaCS11R1R2R3R4
import Derived.Test.YtlailhdmgehniaaCS5S6S7S8S9S10
import Derived.Test.YtlailhdmgehniaaCC33C34C35KSC36K1K2
namespace Go.Proofs.Ytlailhdmgehniaa
open Go.Eng
set_option linter.all false
attribute [local irreducible] DCallsG SWp Fct CallQ XCallQ LCallQ XLCallQ drun xrun

theorem relB_ref {x : Int} {a : Int × Bool} {c : Int} (hx : -1 ≤ x) (ha : -1 ≤ a.1) : relB x a c = (a.2 && (decide (a.1 < 0) || (decide (0 ≤ x) && decide (x ≤ c + a.1)))) := by
  unfold relB
  have e1 : decide (a.1 = -1) = decide (a.1 < 0) := by rw [decide_eq_decide]; omega
  have e2 : (!decide (x = -1)) = decide (0 ≤ x) := by rw [Bool.eq_iff_iff]; simp; omega
  rw [e1, e2]
def rzStep (p : Plan) (k : Nat) (v : Int) (R : List Int) (b r : Int) : Int :=
  if possB p k v r = true then (if (atR R (aftI p k v r)).1 = -1 then b else if b = -1 ∨ costI p k v r + (atR R (aftI p k v r)).1 < b then costI p k v r + (atR R (aftI p k v r)).1 else b) else b
def raisedV (p : Plan) (k : Nat) (v : Int) (R : List Int) : Int := p.rel.foldl (rzStep p k v R) (-1)
theorem foldl_snoc {α β : Type} [Inhabited α] (f : β → α → β) (l : List α) (b : β) {i : Nat} (h : i < l.length) : (l.take (i + 1)).foldl f b = f ((l.take i).foldl f b) (l.getD i default) := by
  rw [take_snoc h, List.foldl_append]; rfl
theorem rz_in {p : Plan} (hp : planB p = true) {k : Nat} (hk : k < p.inf.length) {v : Int} (hv : 0 ≤ v ∧ v ≤ 1099511627776) {R : List Int} {B : Int} (hB : 0 ≤ B) (hy : ∀ a, -1 ≤ (atR R a).1 ∧ (atR R a).1 ≤ B) : ∀ i, i ≤ p.rel.length → -1 ≤ (p.rel.take i).foldl (rzStep p k v R) (-1) ∧ (p.rel.take i).foldl (rzStep p k v R) (-1) ≤ B + 4398046511104000 := by
  intro i
  induction i with
  | zero => intro _; rw [List.take_zero, List.foldl_nil]; omega
  | succ i ih =>
    intro hi
    have h1 := ih (by omega)
    rw [foldl_snoc _ _ _ (by omega : i < p.rel.length)]
    have h2 := (cost_in hp hk hv (show i < p.rel.length by omega)).2.2.2
    have h3 := hy (aftI p k v (p.rel.getD i default))
    unfold rzStep at h1 ⊢
    split
    · split
      · exact h1
      · split
        · omega
        · exact h1
    · exact h1
def partRow (row : List Int) (f : Nat → Int) (j : Nat) : List Int := (List.range row.length).map fun k => if k % 2 = 1 ∧ k < 2 * j then f k else row.getD k default
theorem partRow_len (row : List Int) (f : Nat → Int) (j : Nat) : (partRow row f j).length = row.length := by unfold partRow; rw [List.length_map, List.length_range]
theorem partRow_get (row : List Int) (f : Nat → Int) (j : Nat) {k : Nat} (hk : k < row.length) : (partRow row f j).getD k default = if k % 2 = 1 ∧ k < 2 * j then f k else row.getD k default := by
  unfold partRow
  rw [List.getD_eq_getElem?_getD, List.getElem?_map, List.getElem?_range hk]; rfl
theorem ints_ext {a b : List Int} (h1 : a.length = b.length) (h2 : ∀ i, i < a.length → a.getD i default = b.getD i default) : a = b := by
  refine List.ext_getElem h1 fun i hi hj => ?_
  have := h2 i hi
  rw [List.getD_eq_getElem?_getD, List.getD_eq_getElem?_getD, List.getElem?_eq_getElem hi, List.getElem?_eq_getElem hj] at this
  exact this
theorem partRow_0 (row : List Int) (f : Nat → Int) : partRow row f 0 = row :=
  ints_ext (partRow_len _ _ _) fun i hi => by
    rw [partRow_len] at hi
    rw [partRow_get _ _ _ hi, if_neg (by omega)]
theorem getD_set_ne' (l : List Int) (i k : Nat) (x : Int) (h : ¬ k = i) : (l.set i x).getD k default = l.getD k default := by
  rw [List.getD_eq_getElem?_getD, List.getElem?_set_ne (fun e => h e.symm), ← List.getD_eq_getElem?_getD]
theorem getD_set_eq' (l : List Int) (i : Nat) (x : Int) (h : i < l.length) : (l.set i x).getD i default = x := by
  rw [List.getD_eq_getElem?_getD, List.getElem?_set_self h]; rfl
theorem partRow_set (row : List Int) (f : Nat → Int) (j : Nat) (h : 2 * j + 1 < row.length) : (partRow row f j).set (2 * j + 1) (f (2 * j + 1)) = partRow row f (j + 1) :=
  ints_ext (by rw [List.length_set, partRow_len, partRow_len]) fun i hi => by
    rw [List.length_set, partRow_len] at hi
    by_cases e : i = 2 * j + 1
    · subst e
      rw [getD_set_eq' _ _ _ (by rw [partRow_len]; exact h), partRow_get _ _ _ hi, if_pos ⟨by omega, by omega⟩]
    · rw [getD_set_ne' _ _ _ _ e, partRow_get _ _ _ hi, partRow_get _ _ _ hi]
      by_cases c : i % 2 = 1 ∧ i < 2 * j
      · rw [if_pos c, if_pos ⟨c.1, by omega⟩]
      · rw [if_neg c, if_neg (fun q => c ⟨q.1, by omega⟩)]
theorem partRow_same (row : List Int) (f : Nat → Int) (j : Nat) (h : ∀ k, k < row.length → k % 2 = 1 → f k = row.getD k default) : partRow row f j = row :=
  ints_ext (partRow_len _ _ _) fun i hi => by
    rw [partRow_len] at hi
    rw [partRow_get _ _ _ hi]
    split
    · next c => exact h i hi c.1
    · rfl
def newF (p : Plan) (i : Nat) (row next : List Int) (k : Nat) : Int := raisedV p i (row.getD (k - 1) default) next
def newRow (p : Plan) (l : List (List Int)) (i : Nat) (rs : List (List Int)) : List Int :=
  if i + 1 = l.length then l.getD i default else partRow (l.getD i default) (newF p i (l.getD i default) (rs.getD 0 default)) ((l.getD i default).length / 2)
def outsR (p : Plan) (l : List (List Int)) : Nat → List (List Int)
  | 0 => []
  | d + 1 => newRow p l (l.length - 1 - d) (outsR p l d) :: outsR p l d
theorem outsR_len (p : Plan) (l : List (List Int)) : ∀ d, (outsR p l d).length = d
  | 0 => rfl
  | d + 1 => by rw [outsR, List.length_cons, outsR_len p l d]
theorem newRow_len (p : Plan) (l : List (List Int)) (i : Nat) (rs : List (List Int)) : (newRow p l i rs).length = (l.getD i default).length := by
  unfold newRow
  split
  · rfl
  · exact partRow_len _ _ _
theorem newRow_vol (p : Plan) (l : List (List Int)) (i : Nat) (rs : List (List Int)) {j : Nat} (hj : 2 * j < (l.getD i default).length) : (newRow p l i rs).getD (2 * j) default = (l.getD i default).getD (2 * j) default := by
  unfold newRow
  split
  · rfl
  · rw [partRow_get _ _ _ hj, if_neg (by omega)]
theorem atR_bnd {R : List Int} {B : Int} (hB : 0 ≤ B) (h : ∀ j, j < R.length / 2 → -1 ≤ R.getD (2 * j + 1) default ∧ R.getD (2 * j + 1) default ≤ B) (a : Int) : -1 ≤ (atR R a).1 ∧ (atR R a).1 ≤ B := by
  cases hb : (atR R a).2 with
  | true =>
    obtain ⟨j, h1, h2, h3⟩ := atR_some hb
    rw [h3]
    exact h j h1
  | false =>
    have key : ∀ n j, (atFrom R a n j).2 = false → (atFrom R a n j).1 = 0 := by
      intro n
      induction n with
      | zero => intro j _; rfl
      | succ n ih =>
        intro j hj
        rw [atFrom] at hj ⊢
        split at hj
        · cases hj
        · next q => rw [if_neg q]; exact ih _ hj
    have : (atR R a).1 = 0 := key _ _ hb
    omega
theorem outs_ok {p : Plan} {l : List (List Int)} (hg : givenE p l = 0) (hall : ∀ k, k < l.length → holdsB p l k = true) : ∀ d, d < l.length → ∀ rs, rs = outsR p l (d + 1) → (rs.getD 0 default).length = (l.getD (l.length - 1 - d) default).length ∧ (∀ j, j < (rs.getD 0 default).length / 2 → (rs.getD 0 default).getD (2 * j) default = (l.getD (l.length - 1 - d) default).getD (2 * j) default) ∧ ∀ j, j < (rs.getD 0 default).length / 2 → -1 ≤ (rs.getD 0 default).getD (2 * j + 1) default ∧ (rs.getD 0 default).getD (2 * j + 1) default ≤ (d : Int) * 4398046511104000 := by
  obtain ⟨hp, hln, hrow⟩ := given_in hg
  have h200 := (planB_in hp).2.2.2.1
  intro d
  induction d with
  | zero =>
    intro hd rs hrs
    subst hrs
    have e0 : (outsR p l 1).getD 0 default = l.getD (l.length - 1) default := by
      rw [outsR]
      show newRow p l (l.length - 1 - 0) (outsR p l 0) = _
      unfold newRow
      rw [if_pos (by omega)]; rfl
    rw [e0]
    refine ⟨rfl, fun _ _ => rfl, fun j hj => ?_⟩
    have h1 := hall (l.length - 1) (by omega)
    unfold holdsB at h1
    simp only [Bool.and_eq_true, List.all_eq_true, List.mem_range, if_pos (by omega : l.length - 1 + 1 = l.length)] at h1
    have := h1.2 j hj
    have : (l.getD (l.length - 1) default).getD (2 * j + 1) default = 0 := by simpa using this
    omega
  | succ d ih =>
    intro hd rs hrs
    subst hrs
    obtain ⟨i1, i2, i3⟩ := ih (by omega) _ rfl
    have e0 : (outsR p l (d + 2)).getD 0 default = newRow p l (l.length - 1 - (d + 1)) (outsR p l (d + 1)) := by rw [outsR]; rfl
    rw [e0]
    refine ⟨newRow_len _ _ _ _, fun j hj => newRow_vol _ _ _ _ (by rw [newRow_len] at hj; omega), fun j hj => ?_⟩
    rw [newRow_len] at hj
    have hi : ¬ l.length - 1 - (d + 1) + 1 = l.length := by omega
    unfold newRow
    rw [if_neg hi, partRow_get _ _ _ (by omega), if_pos ⟨by omega, by omega⟩]
    unfold newF raisedV
    have hy := atR_bnd (R := (outsR p l (d + 1)).getD 0 default) (B := (d : Int) * 4398046511104000) (by omega) i3
    obtain ⟨hr1, hr2⟩ := hrow (l.length - 1 - (d + 1)) (by omega)
    have hv := (rowB_in hr1).2.1 j hj
    have hb := planB_in hp
    have hz := rz_in hp (k := l.length - 1 - (d + 1)) (by omega) (v := (l.getD (l.length - 1 - (d + 1)) default).getD (2 * j + 1 - 1) default) (by rw [Nat.add_sub_cancel]; omega) (R := (outsR p l (d + 1)).getD 0 default) (B := (d : Int) * 4398046511104000) (by omega) hy p.rel.length (Nat.le_refl _)
    rw [List.take_length] at hz
    have e : ((d + 1 : Nat) : Int) * 4398046511104000 = (d : Int) * 4398046511104000 + 4398046511104000 := by omega
    rw [e]
    exact hz

end Go.Proofs.Ytlailhdmgehniaa
