/-
  Contracts of functions of the program, over the engine.
  No condition.
-/
import Derived.Test.YtlailhdmgehniaaCQ0P11Q2Q3
import Derived.Test.YtlailhdmgehniaaCP14T2ELU1C18U4
import Derived.Test.YtlailhdmgehniaaCFMP12Q7P13
import Derived.Test.YtlailhdmgehniaaCR5R6R7R8R9
import Derived.Test.YtlailhdmgehniaaCS1S2S3S4
import Derived.Test.YtlailhdmgehniaaCR10R11CLR12
import Derived.Test.YtlailhdmgehniaaCC0C1C2C3
namespace Go.Proofs.Ytlailhdmgehniaa
open Go.Eng
set_option linter.all false
attribute [local irreducible] DCallsG SWp Fct CallQ XCallQ LCallQ XLCallQ drun xrun

def lsI : Option (Nat × Int) → Int
  | none => -1
  | some a => a.2
theorem vO_ls (p : Plan) {t : Nat} (ht : t < p.inf.length) (z : Int) : (vO p (p.inf.length - t) z).getD (-1) = lsI (bestO p t z (vO p (p.inf.length - (t + 1)))) := by
  rw [show p.inf.length - t = (p.inf.length - (t + 1)) + 1 by omega, vO, show p.inf.length - (p.inf.length - (t + 1) + 1) = t by omega]
  cases bestO p t z (vO p (p.inf.length - (t + 1))) <;> rfl
theorem pairI_get (f : Int → Option Int) {row : List Int} : ∀ n, n ≤ row.length → ∀ j, j < n → (pairI f row n).getD (2 * j) default = row.getD j default ∧ (pairI f row n).getD (2 * j + 1) default = (f (row.getD j default)).getD (-1)
  | 0, _, j, h => by omega
  | n + 1, hn, j, h => by
    have hl := pairI_len f (row := row) n (by omega)
    rw [pairI_next f (show n < row.length by omega)]
    by_cases e : j = n
    · subst e
      constructor
      · rw [List.getD_eq_getElem?_getD, List.getElem?_append_right (by omega), hl, Nat.sub_self]; rfl
      · rw [List.getD_eq_getElem?_getD, List.getElem?_append_right (by omega), hl, show 2 * j + 1 - 2 * j = 1 by omega]; rfl
    · have ih := pairI_get f (row := row) n (by omega) j (by omega)
      constructor
      · rw [List.getD_eq_getElem?_getD, List.getElem?_append_left (by omega), ← List.getD_eq_getElem?_getD]; exact ih.1
      · rw [List.getD_eq_getElem?_getD, List.getElem?_append_left (by omega), ← List.getD_eq_getElem?_getD]; exact ih.2
def lineM (f : Int → Option Int) (row : List Int) (j : Nat) : List (Int × Int) := (List.range j).foldl (fun l i => insV l (row.getD i default) ((f (row.getD i default)).getD (-1))) []
theorem lineM_next (f : Int → Option Int) (row : List Int) (j : Nat) : lineM f row (j + 1) = insV (lineM f row j) (row.getD j default) ((f (row.getD j default)).getD (-1)) := by
  unfold lineM; rw [List.range_succ, List.foldl_append]; rfl
theorem lineM_look (f : Int → Option Int) (row : List Int) (z : Int) : ∀ j, j ≤ row.length → (lineM f row j).lookup z = if z ∈ row.take j then some ((f z).getD (-1)) else none
  | 0, _ => by simp [lineM]
  | j + 1, h => by
    rw [lineM_next, insV_look, lineM_look f row z j (by omega), take_snoc (by omega : j < row.length)]
    simp only [List.mem_append, List.mem_singleton]
    by_cases h1 : z = row.getD j default
    · rw [if_pos h1, if_pos (.inr h1), ← h1]
    · rw [if_neg h1]
      by_cases h2 : z ∈ row.take j
      · rw [if_pos h2, if_pos (.inl h2)]
      · rw [if_neg h2, if_neg (fun h => h.elim h2 h1)]
def oneP (p : Plan) (t : Nat) (z : Int) : Plan := { p with start := z, inf := [p.inf.getD t default] }
theorem oneP_ok {p : Plan} (hp : planB p = true) {t : Nat} (ht : t < p.inf.length) {z : Int} (hz : p.res ≤ z ∧ z ≤ p.cap) : planB (oneP p t z) = true := by
  have hii := (planB_in hp).2.2.2.2.2.2.2.1 t ht
  unfold planB at hp ⊢
  simp only [Bool.and_eq_true] at hp ⊢
  refine ⟨⟨⟨?_, ?_⟩, hp.1.2⟩, hp.2⟩
  · have h := hp.1.1.1
    unfold headB at h ⊢
    simp only [Bool.and_eq_true, decide_eq_true_eq] at h ⊢
    obtain ⟨⟨⟨⟨⟨⟨h1, h2⟩, h3⟩, h4⟩, h5⟩, h6⟩, h7⟩ := h
    exact ⟨⟨⟨⟨⟨⟨h1, h2⟩, hz⟩, by show 1 ≤ 200; decide⟩, h5⟩, h6⟩, h7⟩
  · rw [List.all_eq_true]
    intro i hi
    have hi := List.mem_range.1 hi
    obtain rfl : i = 0 := by
      have : (oneP p t z).inf.length = 1 := rfl
      omega
    show volP (p.inf.getD t default) = true
    unfold volP
    simp only [Bool.and_eq_true, decide_eq_true_eq]
    exact hii
theorem oneP_cost {p : Plan} (hp : planB p = true) {t : Nat} (ht : t < p.inf.length) {z : Int} (hz : p.res ≤ z ∧ z ≤ p.cap) {i : Nat} (hi : i < p.rel.length) :
    costR (oneP p t z) [p.rel.getD i default] = if possB p t z (p.rel.getD i default) = true then (costI p t z (p.rel.getD i default), [aftI p t z (p.rel.getD i default)], 0) else (0, [], 27) := by
  have hs : schB (oneP p t z) [p.rel.getD i default] := ⟨rfl, fun k hk => by
    obtain rfl : k = 0 := by simpa using hk
    exact ⟨i, hi, rfl⟩⟩
  rw [costR_sch (oneP_ok hp ht hz) hs]
  have h0 : pathC (oneP p t z) [p.rel.getD i default] 0 = some (0, z) := rfl
  have h1 := path_next h0
  have e1 : possB (oneP p t z) 0 z ([p.rel.getD i default].getD 0 default) = possB p t z (p.rel.getD i default) := rfl
  have e2 : aftI (oneP p t z) 0 z ([p.rel.getD i default].getD 0 default) = aftI p t z (p.rel.getD i default) := rfl
  have e3 : costI (oneP p t z) 0 z ([p.rel.getD i default].getD 0 default) = costI p t z (p.rel.getD i default) := rfl
  rw [e1, e2, e3] at h1
  show (match pathC (oneP p t z) [p.rel.getD i default] (0 + 1) with
    | none => ((0 : Int), ([] : List Int), (27 : Int))
    | some a => (a.1, volsC (oneP p t z) [p.rel.getD i default] (0 + 1), 0)) = _
  cases hpo : possB p t z (p.rel.getD i default)
  · rw [hpo, if_neg (by decide)] at h1
    rw [h1, if_neg (by decide)]
  · rw [hpo, if_pos rfl] at h1
    rw [h1, if_pos rfl, vols_next h1, Int.zero_add]; rfl
theorem idx_sub2 {α : Type} [Inhabited α] (f : α → List PV) (l : List α) (k : Nat) [h : Nonempty (k - 2 < l.length)] : idx (l.map f) ((k : Int) - 2) = f (l.getD (k - 2) default) := by
  have h2 := h.elim id
  rw [idx_mapT f l ((k : Int) - 2) (by omega), show ((k : Int) - 2).toNat = k - 2 by omega]
theorem nz_and {p q : Prop} [Decidable p] [Decidable q] [h : Nonempty (¬ (p ∧ q))] : (decide p && decide q) = false := by
  have := h.elim id
  rw [Bool.and_eq_false_iff, decide_eq_false_iff_not, decide_eq_false_iff_not]
  exact Classical.not_and_iff_not_or_not.1 this
theorem nz_en {a b c d : Int} [h : Nonempty (¬ (a = b ∧ ¬ c = d))] : (a == b && c != d) = false := by
  have := h.elim id
  rw [Bool.and_eq_false_iff, beq_eq_false_iff_ne, bne_eq_false_iff_eq]
  omega
theorem nz_nn {a b c d : Int} [h : Nonempty (¬ (¬ a = b ∧ ¬ c = d))] : (a != b && c != d) = false := by
  have := h.elim id
  rw [Bool.and_eq_false_iff, bne_eq_false_iff_eq, bne_eq_false_iff_eq]
  omega
theorem drop_at45 {l : List Int} {i : Nat} (h : i < l.length) : l.drop i = l.getD i default :: l.drop (i + 1) := by
  rw [List.drop_eq_getElem_cons h, List.getD_eq_getElem?_getD, List.getElem?_eq_getElem h]; rfl
attribute [push_cast] idx_sub2 nz_and nz_en nz_nn
theorem atR_has {l : List Int} {v : Int} {j : Nat} (hj : j < l.length / 2) (h : l.getD (2 * j) default = v) : (atR l v).2 = true := by
  cases hb : (atR l v).2 with
  | true => rfl
  | false =>
    have hn : ∀ i, i < l.length / 2 → ¬ l.getD (2 * i) default = v := by
      have key : ∀ n a, (atFrom l v n a).2 = false → ∀ i, a ≤ i → i < a + n → ¬ l.getD (2 * i) default = v := by
        intro n
        induction n with
        | zero => intro a _ i h1 h2; omega
        | succ n ih =>
          intro a ha i h1 h2
          rw [atFrom] at ha
          by_cases e : l.getD (2 * a) default = v
          · rw [if_pos e] at ha; cases ha
          · rw [if_neg e] at ha
            by_cases e2 : i = a
            · rw [e2]; exact e
            · exact ih (a + 1) ha i (by omega) (by omega)
      exact fun i hi => key _ 0 hb i (by omega) (by omega)
    exact absurd h (hn j hj)
structure exC (p : Plan) (R : List (List Int)) : Prop where
  pl : planB p = true
  len : R.length = p.inf.length + 1
  row : ∀ k, k < R.length → rowB p (R.getD k default) = true ∧ (R.getD k default).length ≤ 8000
  start : (atR (R.getD 0 default) p.start).2 = true
  step : ∀ k, k < p.inf.length → ∀ j, j < (R.getD k default).length / 2 → ∀ i, i < p.rel.length → possB p k ((R.getD k default).getD (2 * j) default) (p.rel.getD i default) = true → (atR (R.getD (k + 1) default) (aftI p k ((R.getD k default).getD (2 * j) default) (p.rel.getD i default))).2 = true
  val : ∀ k, k < R.length → ∀ j, j < (R.getD k default).length / 2 → (R.getD k default).getD (2 * j + 1) default = (vO p (p.inf.length - k) ((R.getD k default).getD (2 * j) default)).getD (-1)
theorem exC.at {p : Plan} {R : List (List Int)} (h : exC p R) {k : Nat} (hk : k < R.length) {a : Int} (ha : (atR (R.getD k default) a).2 = true) : (atR (R.getD k default) a).1 = (vO p (p.inf.length - k) a).getD (-1) := by
  obtain ⟨j, h1, h2, h3⟩ := atR_some ha
  rw [h3, ← h2]
  exact h.val k hk j h1
theorem exC.nn {p : Plan} {R : List (List Int)} (h : exC p R) {k : Nat} (hk : k ≤ p.inf.length) {v c : Int} (hv : p.res ≤ v ∧ v ≤ p.cap) (hc : vO p (p.inf.length - k) v = some c) : 0 ≤ c := (vO_in h.pl _ (by omega) v hv c hc).1
theorem exC.given {p : Plan} {R : List (List Int)} (h : exC p R) : givenE p R = 0 := by
  have hmem : ∀ r, r ∈ R → ∃ k, k < R.length ∧ R.getD k default = r := fun r hr => mem_getD hr
  unfold givenE
  rw [if_neg (by rw [h.pl]; decide), if_neg, if_neg]
  · intro q
    have : shapedB p R = true := by
      unfold shapedB
      simp only [Bool.and_eq_true, decide_eq_true_eq, List.all_eq_true]
      refine ⟨h.len, fun r hr => ?_⟩
      obtain ⟨k, hk, rfl⟩ := hmem r hr
      exact (h.row k hk).1
    rw [this] at q; cases q
  · intro q
    obtain ⟨r, hr, hb⟩ := List.any_eq_true.1 q
    obtain ⟨k, hk, rfl⟩ := hmem r hr
    have := (h.row k hk).2
    unfold bigB at hb
    have := of_decide_eq_true hb
    omega
theorem exC.holds {p : Plan} {R : List (List Int)} (h : exC p R) {k : Nat} (hk : k < R.length) : holdsB p R k = true := by
  have hlen := h.len
  unfold holdsB
  simp only [Bool.and_eq_true, Bool.or_eq_true, Bool.not_eq_true', decide_eq_false_iff_not, List.all_eq_true, List.mem_range]
  refine ⟨?_, fun j hj => ?_⟩
  · by_cases e : k = 0
    · subst e; exact .inr h.start
    · exact .inl e
  · have hval := h.val k hk j hj
    by_cases e : k + 1 = R.length
    · rw [if_pos e, hval, show p.inf.length - k = 0 by omega]; rfl
    · rw [if_neg e, List.all_eq_true]
      intro r hr
      obtain ⟨i, hi, rfl⟩ := mem_getD (d := default) hr
      unfold stB
      cases hpo : possB p k ((R.getD k default).getD (2 * j) default) (p.rel.getD i default)
      · rfl
      · have hs := h.step k (by omega) j hj i hi hpo
        have ha := h.at (by omega : k + 1 < R.length) hs
        rw [Bool.not_true, Bool.false_or]
        unfold relB
        rw [hs, ha, hval, Bool.true_and]
        cases hy : vO p (p.inf.length - (k + 1)) (aftI p k ((R.getD k default).getD (2 * j) default) (p.rel.getD i default)) with
        | none => rfl
        | some y =>
          obtain ⟨j2, c2, h1, h2, _⟩ := bestU_le p.rel.length i y hi hpo hy
          have h1 : bestO p k ((R.getD k default).getD (2 * j) default) (vO p (p.inf.length - (k + 1))) = some (j2, c2) := h1
          rw [vO_ls p (by omega : k < p.inf.length), h1]
          have hz := ((rowB_in (h.row k hk).1).2.1 j hj).1
          have hc0 := h.nn (k := k) (by omega) hz (c := c2) (by rw [show p.inf.length - k = (p.inf.length - (k + 1)) + 1 by omega, vO, show p.inf.length - (p.inf.length - (k + 1) + 1) = k by omega, h1]; rfl)
          show (decide (y = -1) || (!decide (c2 = -1) && decide (c2 ≤ costI p k ((R.getD k default).getD (2 * j) default) (p.rel.getD i default) + y))) = true
          simp only [Bool.or_eq_true, Bool.and_eq_true, Bool.not_eq_true', decide_eq_true_eq, decide_eq_false_iff_not]
          omega
theorem exC.fail {p : Plan} {R : List (List Int)} (h : exC p R) : ¬ failK p R < R.length := by
  intro q
  unfold failK at q
  have := List.findIdx_getElem (xs := List.range R.length) (p := fun k => !holdsB p R k) (w := by rw [List.length_range]; exact q)
  rw [List.getElem_range, h.holds q] at this
  cases this
theorem exC.check {p : Plan} {R : List (List Int)} (h : exC p R) : checkR p R = (true, 0, 0) := by
  unfold checkR
  rw [if_neg (fun q => q h.given), if_neg h.fail]
theorem exC.bound {p : Plan} {R : List (List Int)} (h : exC p R) : boundR p R = match vO p p.inf.length p.start with
    | none => (0, 12)
    | some c => (c, 0) := by
  have hlen := h.len
  have ha := h.at (by omega : 0 < R.length) h.start
  rw [Nat.sub_zero] at ha
  unfold boundR
  rw [if_neg (fun q => q h.given), if_neg h.fail, ha]
  cases hv : vO p p.inf.length p.start with
  | none => rfl
  | some c =>
    have := (vO_in h.pl _ (Nat.le_refl _) p.start (planB_in h.pl).2.2.1 c hv).1
    exact if_neg (by show ¬ c = -1; omega)
theorem rz_ls {p : Plan} {k : Nat} {v : Int} {R : List Int} {f : Int → Option Int} (hR : ∀ i, i < p.rel.length → possB p k v (p.rel.getD i default) = true → (atR R (aftI p k v (p.rel.getD i default))).1 = (f (aftI p k v (p.rel.getD i default))).getD (-1))
    (hf : ∀ i c, i < p.rel.length → possB p k v (p.rel.getD i default) = true → f (aftI p k v (p.rel.getD i default)) = some c → 0 ≤ c) (hc : ∀ i, i < p.rel.length → 0 ≤ costI p k v (p.rel.getD i default)) : ∀ i, i ≤ p.rel.length → (p.rel.take i).foldl (rzStep p k v R) (-1) = lsI (bestU p k v f i)
  | 0, _ => rfl
  | i + 1, hi => by
    rw [foldl_snoc _ _ _ (by omega : i < p.rel.length), rz_ls hR hf hc i (by omega), bestU_next]
    have hs := fun a b => @bestU_some p k v f i a b
    unfold rzStep bestF
    cases hpo : possB p k v (p.rel.getD i default)
    · rfl
    · rw [if_pos rfl, if_pos rfl, hR i (by omega) hpo]
      have hfi := fun c => hf i c (by omega) hpo
      cases hfw : f (aftI p k v (p.rel.getD i default)) with
      | none => exact if_pos rfl
      | some x =>
        have hx := hfi x hfw
        have e1 : ¬ ((some x).getD (-1) : Int) = -1 := by show ¬ x = -1; omega
        rw [if_neg e1]
        cases hb : bestU p k v f i with
        | none => exact if_pos (.inl rfl)
        | some a =>
          obtain ⟨j, b⟩ := a
          obtain ⟨q1, q2, y, q3, q4⟩ := hs j b hb
          have hy := hf j y (by omega) q2 q3
          have hcj := hc j (by omega)
          show (if b = -1 ∨ costI p k v (p.rel.getD i default) + x < b then costI p k v (p.rel.getD i default) + x else b) = lsI (if costI p k v (p.rel.getD i default) + x < b then some (i, costI p k v (p.rel.getD i default) + x) else some (j, b))
          by_cases h : costI p k v (p.rel.getD i default) + x < b
          · rw [if_pos (.inr h), if_pos h]; rfl
          · rw [if_neg (by omega), if_neg h]; rfl
theorem outs_get {p : Plan} {l : List (List Int)} : ∀ j D, j < D → (outsR p l D).getD j default = (outsR p l (D - j)).getD 0 default
  | 0, D, _ => by rw [Nat.sub_zero]
  | j + 1, 0, h => by omega
  | j + 1, D + 1, h => by
    rw [outsR, show D + 1 - (j + 1) = D - j by omega, ← outs_get j D (by omega)]; rfl
theorem outs_head {p : Plan} {l : List (List Int)} (d : Nat) : (outsR p l (d + 1)).getD 0 default = newRow p l (l.length - 1 - d) (outsR p l d) := rfl
theorem outs_at {p : Plan} {l : List (List Int)} {k : Nat} (hk : k < l.length) : (outsR p l l.length).getD k default = newRow p l k (outsR p l (l.length - 1 - k)) := by
  rw [outs_get k l.length hk, show l.length - k = (l.length - 1 - k) + 1 by omega, outs_head, show l.length - 1 - (l.length - 1 - k) = k by omega]
theorem outs_at2 {p : Plan} {l : List (List Int)} {k : Nat} (hk : k + 1 < l.length) : (outsR p l (l.length - 1 - k)).getD 0 default = (outsR p l l.length).getD (k + 1) default := by
  rw [outs_at hk, show l.length - 1 - k = (l.length - 1 - (k + 1)) + 1 by omega, outs_head, show l.length - 1 - (l.length - 1 - (k + 1)) = k + 1 by omega]
theorem atR_vol {a b : List Int} (hl : a.length = b.length) (hv : ∀ j, j < a.length / 2 → a.getD (2 * j) default = b.getD (2 * j) default) (z : Int) : (atR a z).2 = (atR b z).2 := by
  rw [Bool.eq_iff_iff]
  constructor
  · intro h
    obtain ⟨j, h1, h2, _⟩ := atR_some h
    exact atR_has (j := j) (by omega) (by rw [← hv j h1]; exact h2)
  · intro h
    obtain ⟨j, h1, h2, _⟩ := atR_some h
    exact atR_has (j := j) (by omega) (by rw [hv j (by omega)]; exact h2)
section
variable {p : Plan} {l : List (List Int)}
theorem hold_step (hall : ∀ k, k < l.length → holdsB p l k = true) {k : Nat} (hk : k + 1 < l.length) {j : Nat} (hj : j < (l.getD k default).length / 2) {i : Nat} (hi : i < p.rel.length) (hpo : possB p k ((l.getD k default).getD (2 * j) default) (p.rel.getD i default) = true) :
    relB ((l.getD k default).getD (2 * j + 1) default) (atR (l.getD (k + 1) default) (aftI p k ((l.getD k default).getD (2 * j) default) (p.rel.getD i default))) (costI p k ((l.getD k default).getD (2 * j) default) (p.rel.getD i default)) = true := by
  have h1 := hall k (by omega)
  unfold holdsB at h1
  simp only [Bool.and_eq_true, List.all_eq_true, List.mem_range, if_neg (by omega : ¬ k + 1 = l.length)] at h1
  have := h1.2 j hj (p.rel.getD i default) (getD_mem hi)
  unfold stB at this
  rw [hpo] at this
  simpa using this
theorem hold_last (hall : ∀ k, k < l.length → holdsB p l k = true) {k : Nat} (hk : k + 1 = l.length) {j : Nat} (hj : j < (l.getD k default).length / 2) : (l.getD k default).getD (2 * j + 1) default = 0 := by
  have h1 := hall k (by omega)
  unfold holdsB at h1
  simp only [Bool.and_eq_true, List.all_eq_true, List.mem_range, if_pos hk] at h1
  exact of_decide_eq_true (h1.2 j hj)
theorem outs_len (k : Nat) (hk : k < l.length) : ((outsR p l l.length).getD k default).length = (l.getD k default).length := by rw [outs_at hk, newRow_len]
theorem outs_vol {k : Nat} (hk : k < l.length) {j : Nat} (hj : 2 * j < (l.getD k default).length) : ((outsR p l l.length).getD k default).getD (2 * j) default = (l.getD k default).getD (2 * j) default := by rw [outs_at hk]; exact newRow_vol p l k _ hj
theorem outs_val (hg : givenE p l = 0) (hall : ∀ k, k < l.length → holdsB p l k = true) : ∀ d, d < l.length → ∀ j, j < (l.getD (l.length - 1 - d) default).length / 2 → ((outsR p l l.length).getD (l.length - 1 - d) default).getD (2 * j + 1) default = (vO p d ((l.getD (l.length - 1 - d) default).getD (2 * j) default)).getD (-1)
  | 0, hd, j, hj => by
    rw [outs_at (by omega)]
    unfold newRow
    rw [if_pos (by omega), hold_last hall (by omega) hj]; rfl
  | d + 1, hd, j, hj => by
    obtain ⟨hp, hln, hrow⟩ := given_in hg
    have ih := outs_val hg hall d (by omega)
    obtain ⟨k, hk⟩ : ∃ k, l.length - 1 - (d + 1) = k := ⟨_, rfl⟩
    have hk1 : l.length - 1 - d = k + 1 := by omega
    rw [hk1] at ih
    rw [hk] at hj ⊢
    have hkn : k < p.inf.length := by omega
    have hin := planB_in hp
    have hz := ((rowB_in (hrow k (by omega)).1).2.1 j hj).1
    rw [outs_at (by omega)]
    unfold newRow
    rw [if_neg (by omega), partRow_get _ _ _ (by omega), if_pos ⟨by omega, by omega⟩]
    unfold newF
    rw [show 2 * j + 1 - 1 = 2 * j by omega, outs_at2 (by omega)]
    generalize hv : (l.getD k default).getD (2 * j) default = v at *
    unfold raisedV
    have hR : ∀ i, i < p.rel.length → possB p k v (p.rel.getD i default) = true → (atR ((outsR p l l.length).getD (k + 1) default) (aftI p k v (p.rel.getD i default))).1 = (vO p d (aftI p k v (p.rel.getD i default))).getD (-1) := fun i hi hpo => by
      have h2 := hold_step hall (k := k) (by omega) hj hi (by rw [hv]; exact hpo)
      rw [hv] at h2
      unfold relB at h2
      simp only [Bool.and_eq_true] at h2
      have h3 : (atR ((outsR p l l.length).getD (k + 1) default) (aftI p k v (p.rel.getD i default))).2 = true := by
        rw [atR_vol (outs_len (k + 1) (by omega)) (fun j2 hj2 => outs_vol (by omega) (by rw [outs_len (k + 1) (by omega)] at hj2; omega))]
        exact h2.1
      obtain ⟨j2, q1, q2, q3⟩ := atR_some h3
      rw [outs_len (k + 1) (by omega)] at q1
      rw [outs_vol (by omega) (by omega)] at q2
      rw [q3, ← q2]
      exact ih j2 q1
    have := rz_ls (f := vO p d) hR (fun i c hi hpo hc => (vO_in hp d (by omega) _ (aft_in hp hpo) c hc).1) (fun i hi => (cost_in hp hkn (v := v) (by omega) hi).2.2.2.1) p.rel.length (Nat.le_refl _)
    rw [List.take_length] at this
    rw [this]
    have e := vO_ls p hkn v
    rw [show p.inf.length - k = d + 1 by omega, show p.inf.length - (k + 1) = d by omega] at e
    exact e.symm
theorem raise_exC (hg : givenE p l = 0) (hall : ∀ k, k < l.length → holdsB p l k = true) : exC p (outsR p l l.length) := by
  obtain ⟨hp, hln, hrow⟩ := given_in hg
  have hol : (outsR p l l.length).length = l.length := outsR_len p l _
  have hval : ∀ k, k < l.length → ∀ j, j < (l.getD k default).length / 2 → ((outsR p l l.length).getD k default).getD (2 * j + 1) default = (vO p (p.inf.length - k) ((l.getD k default).getD (2 * j) default)).getD (-1) := fun k hk j hj => by
    have := outs_val hg hall (l.length - 1 - k) (by omega) j (by rw [show l.length - 1 - (l.length - 1 - k) = k by omega]; exact hj)
    rwa [show l.length - 1 - (l.length - 1 - k) = k by omega, show l.length - 1 - k = p.inf.length - k by omega] at this
  refine ⟨hp, by omega, fun k hk => ?_, ?_, fun k hk j hj i hi hpo => ?_, fun k hk j hj => ?_⟩
  · rw [hol] at hk
    obtain ⟨hr, h8⟩ := hrow k hk
    obtain ⟨q1, q2, q3⟩ := rowB_in hr
    have hl2 := outs_len (p := p) k hk
    refine ⟨?_, by omega⟩
    unfold rowB
    simp only [Bool.and_eq_true, decide_eq_true_eq, List.all_eq_true, List.mem_range]
    refine ⟨by omega, fun j hj => ?_⟩
    rw [hl2] at hj
    have hv := hval k hk j hj
    have hz := (q2 j hj).1
    unfold rowC
    rw [outs_vol hk (by omega), hv]
    simp only [Bool.and_eq_true, Bool.or_eq_true, decide_eq_true_eq]
    have hin := planB_in hp
    have hb : -1 ≤ (vO p (p.inf.length - k) ((l.getD k default).getD (2 * j) default)).getD (-1) ∧ (vO p (p.inf.length - k) ((l.getD k default).getD (2 * j) default)).getD (-1) ≤ 1152921504606846976 := by
      cases hc : vO p (p.inf.length - k) ((l.getD k default).getD (2 * j) default) with
      | none => exact ⟨by decide, by decide⟩
      | some c =>
        have := vO_in hp _ (by omega) _ hz c hc
        show -1 ≤ c ∧ c ≤ 1152921504606846976
        omega
    refine ⟨⟨⟨⟨hz.1, hz.2⟩, ?_⟩, hb.1⟩, hb.2⟩
    by_cases e : j = 0
    · exact .inl (by omega)
    · refine .inr ?_
      rw [show 2 * j - 2 = 2 * (j - 1) by omega, outs_vol hk (by omega)]
      exact q3 (j - 1) j (by omega) hj
  · rw [atR_vol (outs_len 0 (by omega)) (fun j2 hj2 => outs_vol (by omega) (by rw [outs_len 0 (by omega)] at hj2; omega))]
    have h1 := hall 0 (by omega)
    unfold holdsB at h1
    simp only [Bool.and_eq_true] at h1
    simpa using h1.1
  · rw [outs_len k (by omega)] at hj
    rw [outs_vol (by omega) (by omega)] at hpo ⊢
    have h2 := hold_step hall (by omega) hj hi hpo
    unfold relB at h2
    simp only [Bool.and_eq_true] at h2
    rw [atR_vol (outs_len (k + 1) (by omega)) (fun j2 hj2 => outs_vol (by omega) (by rw [outs_len (k + 1) (by omega)] at hj2; omega))]
    exact h2.1
  · rw [hol] at hk
    rw [outs_len k hk] at hj
    rw [outs_vol hk (by omega)]
    exact hval k hk j hj
end
theorem row_odd {n m : Nat} (h : n % 2 = 0) (hm : m < n) : (∃ j, j < n / 2 ∧ m = 2 * j) ∨ ∃ j, j < n / 2 ∧ m = 2 * j + 1 := by
  rcases Nat.mod_two_eq_zero_or_one m with e | e
  · exact .inl ⟨m / 2, by omega, by omega⟩
  · exact .inr ⟨m / 2, by omega, by omega⟩
theorem exC.again {p : Plan} {R : List (List Int)} (h : exC p R) : outsR p R R.length = R := by
  have hol : (outsR p R R.length).length = R.length := outsR_len p R _
  refine List.ext_getElem hol fun k h1 h2 => ?_
  have e1 : (outsR p R R.length).getD k default = (outsR p R R.length)[k] := by rw [List.getD_eq_getElem?_getD, List.getElem?_eq_getElem h1]; rfl
  have e2 : R.getD k default = R[k] := by rw [List.getD_eq_getElem?_getD, List.getElem?_eq_getElem h2]; rfl
  rw [← e1, ← e2]
  refine ints_ext (outs_len k h2) fun m hm => ?_
  rw [outs_len k h2] at hm
  obtain ⟨q1, _, _⟩ := rowB_in (h.row k h2).1
  rcases row_odd q1 hm with ⟨j, hj, rfl⟩ | ⟨j, hj, rfl⟩
  · exact outs_vol h2 hm
  · have := outs_val h.given (fun k hk => h.holds hk) (R.length - 1 - k) (by omega) j (by rw [show R.length - 1 - (R.length - 1 - k) = k by omega]; exact hj)
    rw [show R.length - 1 - (R.length - 1 - k) = k by omega] at this
    have hlen := h.len
    rw [this, h.val k h2 j hj, show R.length - 1 - k = p.inf.length - k by omega]
theorem exC.raise {p : Plan} {R : List (List Int)} (h : exC p R) : raiseR p R = (R, 0) := by
  unfold raiseR
  rw [if_neg (fun q => q h.given), if_neg h.fail, h.again]
theorem weak_val {p : Plan} {l : List (List Int)} (hg : givenE p l = 0) (hall : ∀ k, k < l.length → holdsB p l k = true) : ∀ d, d < l.length → ∀ j, j < (l.getD (l.length - 1 - d) default).length / 2 → ∀ y, vO p d ((l.getD (l.length - 1 - d) default).getD (2 * j) default) = some y → ¬ (l.getD (l.length - 1 - d) default).getD (2 * j + 1) default = -1 ∧ (l.getD (l.length - 1 - d) default).getD (2 * j + 1) default ≤ y
  | 0, hd, j, hj, y, hy => by
    have h0 := hold_last hall (k := l.length - 1 - 0) (by omega) hj
    have : y = 0 := by simpa [vO, eq_comm] using hy
    rw [h0]; omega
  | d + 1, hd, j, hj, y, hy => by
    obtain ⟨hp, hln, hrow⟩ := given_in hg
    have ih := weak_val hg hall d (by omega)
    obtain ⟨k, hk⟩ : ∃ k, l.length - 1 - (d + 1) = k := ⟨_, rfl⟩
    have hk1 : l.length - 1 - d = k + 1 := by omega
    rw [hk1] at ih
    rw [hk] at hj hy ⊢
    rw [vO, show p.inf.length - (d + 1) = k by omega] at hy
    obtain ⟨⟨i, c⟩, h1, h2⟩ := Option.map_eq_some_iff.1 hy
    have h2 : c = y := h2
    subst h2
    obtain ⟨q1, q2, x, q3, q4⟩ := bestU_some _ h1
    have h3 := hold_step hall (k := k) (by omega) hj q1 q2
    unfold relB at h3
    simp only [Bool.and_eq_true, Bool.or_eq_true, Bool.not_eq_true', decide_eq_true_eq, decide_eq_false_iff_not] at h3
    obtain ⟨h4, h5⟩ := h3
    obtain ⟨j2, r1, r2, r3⟩ := atR_some h4
    have h6 := ih j2 r1 x (by rw [r2]; exact q3)
    rw [r3] at h5
    dsimp only at h5
    omega
theorem raise_weak {p : Plan} {l : List (List Int)} (hg : givenE p l = 0) (hall : ∀ k, k < l.length → holdsB p l k = true) : weakR l (outsR p l l.length) = (true, 0) := by
  obtain ⟨hp, hln, hrow⟩ := given_in hg
  have h200 := (planB_in hp).2.2.2.1
  have hol : (outsR p l l.length).length = l.length := outsR_len p l _
  have hf : ∀ r : List (List Int), r.length ≤ 201 → (∀ k, k < r.length → (r.getD k default).length ≤ 8000) → fullB r 201 = false := fun r h1 h2 => by
    unfold fullB
    simp only [Bool.or_eq_false_iff, decide_eq_false_iff_not, List.any_eq_false]
    refine ⟨by omega, fun x hx => ?_⟩
    obtain ⟨k, hk, rfl⟩ := mem_getD (d := default) hx
    have := h2 k hk
    unfold bigB
    simp only [decide_eq_true_eq]; omega
  have hs : sizesB l (outsR p l l.length) = true := by
    unfold sizesB
    simp only [Bool.and_eq_true, decide_eq_true_eq, List.all_eq_true, List.mem_range]
    exact ⟨hol.symm, fun k hk => (outs_len k hk).symm⟩
  have ho : l.any oddB = false := by
    rw [List.any_eq_false]
    intro r hr
    obtain ⟨k, hk, rfl⟩ := mem_getD (d := default) hr
    have := (rowB_in (hrow k hk).1).1
    unfold oddB
    simp only [decide_eq_true_eq, bne_iff_ne, ne_eq]; omega
  have hm : ((List.range l.length).any fun i => evM (l.getD i default) ((outsR p l l.length).getD i default)) = false := by
    rw [List.any_eq_false]
    intro k hk
    have hk := List.mem_range.1 hk
    have : evM (l.getD k default) ((outsR p l l.length).getD k default) = false := by
      unfold evM
      rw [List.any_eq_false]
      intro j hj
      have hj := List.mem_range.1 hj
      rw [outs_vol hk (by omega)]; simp
    rw [this]; decide
  have hw : ((List.range l.length).all fun i => evW (l.getD i default) ((outsR p l l.length).getD i default)) = true := by
    rw [List.all_eq_true]
    intro k hk
    have hk := List.mem_range.1 hk
    unfold evW
    rw [List.all_eq_true]
    intro j hj
    have hj := List.mem_range.1 hj
    have hv := outs_val hg hall (l.length - 1 - k) (by omega) j (by rw [show l.length - 1 - (l.length - 1 - k) = k by omega]; exact hj)
    have hx := weak_val hg hall (l.length - 1 - k) (by omega) j (by rw [show l.length - 1 - (l.length - 1 - k) = k by omega]; exact hj)
    rw [show l.length - 1 - (l.length - 1 - k) = k by omega] at hv hx
    rw [hv]
    unfold wkP
    simp only [Bool.or_eq_true, Bool.and_eq_true, Bool.not_eq_true', decide_eq_true_eq, decide_eq_false_iff_not]
    cases hy : vO p (l.length - 1 - k) ((l.getD k default).getD (2 * j) default) with
    | none => exact .inl rfl
    | some y => exact .inr (hx y hy)
  unfold weakR
  rw [if_neg (by rw [hf l (by omega) (fun k hk => (hrow k hk).2), hf _ (by omega) (fun k hk => by rw [hol] at hk; rw [outs_len k hk]; exact (hrow k hk).2)]; decide), if_neg (by rw [hs]; decide), if_neg (by rw [ho]; decide), if_neg (by rw [hm]; decide), hw]

end Go.Proofs.Ytlailhdmgehniaa
