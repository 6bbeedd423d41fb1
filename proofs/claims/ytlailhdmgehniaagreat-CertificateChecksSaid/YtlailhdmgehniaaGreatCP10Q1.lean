/-
  Contracts of functions of the program, over the engine.
  No condition.
-/
import Derived.Test.YtlailhdmgehniaaGreatCP8P9
namespace Go.Proofs.YtlailhdmgehniaaGreat
open Go.Eng
set_option linter.all false
attribute [local irreducible] DCallsG SWp Fct CallQ XCallQ LCallQ XLCallQ drun xrun

theorem insV_look (k c z : Int) : ∀ l : List (Int × Int), (insV l k c).lookup z = if z = k then some c else l.lookup z
  | [] => by
    rw [insV, List.lookup_cons]
    by_cases h : z = k
    · simp [h]
    · have h2 : (z == k) = false := by simpa using h
      rw [h2, if_neg h]
  | e :: l => by
    rw [insV]
    by_cases hk : k = e.1
    · rw [if_pos hk, List.lookup_cons, List.lookup_cons, ← hk]
      by_cases h : z = k
      · simp [h]
      · have h2 : (z == k) = false := by simpa using h
        rw [h2, if_neg h]
    · rw [if_neg hk, List.lookup_cons, List.lookup_cons, insV_look k c z l]
      by_cases h : z = e.1
      · have h2 : (z == e.1) = true := by simpa using h
        have h3 : ¬ z = k := fun q => hk (q.symm.trans h)
        rw [h2]
        show some e.2 = if z = k then some c else some e.2
        rw [if_neg h3]
      · have h2 : (z == e.1) = false := by simpa using h
        rw [h2]
theorem valI_eq (l : List (Int × Int)) (k : Int) : valI l k = (l.lookup k).getD 0 := by unfold valI; rfl
theorem hasI_eq (l : List (Int × Int)) (k : Int) : hasI l k = (l.lookup k).isSome := by unfold hasI; rfl
def bestF (p : Plan) (k : Nat) (v : Int) (f : Int → Option Int) (stx : Option (Nat × Int)) (i : Nat) : Option (Nat × Int) :=
  if possB p k v (p.rel.getD i default) then
    match f (aftI p k v (p.rel.getD i default)), stx with
    | none, stx => stx
    | some c, none => some (i, costI p k v (p.rel.getD i default) + c)
    | some c, some (j, b) => if costI p k v (p.rel.getD i default) + c < b then some (i, costI p k v (p.rel.getD i default) + c) else some (j, b)
  else stx
def bestU (p : Plan) (k : Nat) (v : Int) (f : Int → Option Int) (n : Nat) : Option (Nat × Int) := (List.range n).foldl (bestF p k v f) none
def bestO (p : Plan) (k : Nat) (v : Int) (f : Int → Option Int) : Option (Nat × Int) := bestU p k v f p.rel.length
def stO : Option (Nat × Int) → Int × Int × Bool
  | none => (0, 0, false)
  | some (i, c) => ((i : Int), c, true)
theorem bestU_next (p : Plan) (k : Nat) (v : Int) (f : Int → Option Int) (n : Nat) : bestU p k v f (n + 1) = bestF p k v f (bestU p k v f n) n := by
  unfold bestU; rw [List.range_succ, List.foldl_append]; rfl
theorem bestS_stO (p : Plan) (k : Nat) (v : Int) (l : List (Int × Int)) (stx : Option (Nat × Int)) (i : Nat) : bestS p k v l (stO stx) i = stO (bestF p k v (fun z => l.lookup z) stx i) := by
  unfold bestS bestF
  rw [hasI_eq, valI_eq]
  dsimp only
  generalize aftI p k v (p.rel.getD i default) = w
  generalize costI p k v (p.rel.getD i default) = c
  generalize l.lookup w = o
  cases possB p k v (p.rel.getD i default)
  · simp
  · cases o with
    | none => simp
    | some x =>
      cases stx with
      | none => simp [stO]
      | some a =>
        obtain ⟨j, b⟩ := a
        by_cases h : c + x < b <;> simp [stO, h]
theorem bestN_stO (p : Plan) (k : Nat) (v : Int) (l : List (Int × Int)) : ∀ n, bestN p k v l n = stO (bestU p k v (fun z => l.lookup z) n)
  | 0 => rfl
  | n + 1 => by rw [bestN_next, bestU_next, bestN_stO p k v l n, bestS_stO]
theorem bestI_stO (p : Plan) (k : Nat) (v : Int) (l : List (Int × Int)) : bestI p k v l = stO (bestO p k v (fun z => l.lookup z)) := bestN_stO p k v l _
theorem bestU_congr {p : Plan} {k : Nat} {v : Int} {f g : Int → Option Int} : ∀ n, (∀ i, i < n → possB p k v (p.rel.getD i default) = true → f (aftI p k v (p.rel.getD i default)) = g (aftI p k v (p.rel.getD i default))) → bestU p k v f n = bestU p k v g n
  | 0, _ => rfl
  | n + 1, h => by
    rw [bestU_next, bestU_next, bestU_congr n (fun i hi => h i (by omega))]
    unfold bestF
    cases hp : possB p k v (p.rel.getD n default)
    · rfl
    · rw [h n (by omega) hp]
theorem bestU_some {p : Plan} {k : Nat} {v : Int} {f : Int → Option Int} : ∀ n {i : Nat} {c : Int}, bestU p k v f n = some (i, c) → i < n ∧ possB p k v (p.rel.getD i default) = true ∧ ∃ x, f (aftI p k v (p.rel.getD i default)) = some x ∧ c = costI p k v (p.rel.getD i default) + x
  | 0, i, c, h => by simp [bestU] at h
  | n + 1, i, c, h => by
    rw [bestU_next] at h
    have ih := fun {i c} => @bestU_some p k v f n i c
    unfold bestF at h
    generalize bestU p k v f n = stx at *
    cases hp : possB p k v (p.rel.getD n default)
    · rw [hp] at h
      have := ih h
      exact ⟨by omega, this.2⟩
    · rw [hp, if_pos rfl] at h
      cases hf : f (aftI p k v (p.rel.getD n default)) with
      | none =>
        rw [hf] at h
        have := ih h
        exact ⟨by omega, this.2⟩
      | some x =>
        rw [hf] at h
        cases stx with
        | none =>
          simp only [Option.some.injEq, Prod.mk.injEq] at h
          obtain ⟨rfl, rfl⟩ := h
          exact ⟨by omega, hp, x, hf, rfl⟩
        | some a =>
          obtain ⟨j, b⟩ := a
          simp only at h
          split at h
          · simp only [Option.some.injEq, Prod.mk.injEq] at h
            obtain ⟨rfl, rfl⟩ := h
            exact ⟨by omega, hp, x, hf, rfl⟩
          · have := ih h
            exact ⟨by omega, this.2⟩
theorem bestU_le {p : Plan} {k : Nat} {v : Int} {f : Int → Option Int} : ∀ n (i : Nat) (x : Int), i < n → possB p k v (p.rel.getD i default) = true → f (aftI p k v (p.rel.getD i default)) = some x → ∃ j c, bestU p k v f n = some (j, c) ∧ c ≤ costI p k v (p.rel.getD i default) + x ∧ (i < j → c < costI p k v (p.rel.getD i default) + x)
  | 0, i, x, h, _, _ => by omega
  | n + 1, i, x, h, hp, hf => by
    rw [bestU_next]
    by_cases hi : i = n
    · subst hi
      unfold bestF
      rw [hp, if_pos rfl, hf]
      have hs := fun {j c} => @bestU_some p k v f i j c
      generalize bestU p k v f i = stx at *
      cases stx with
      | none => exact ⟨_, _, rfl, by omega, by omega⟩
      | some a =>
        obtain ⟨j, b⟩ := a
        have := (hs rfl).1
        simp only
        split
        · exact ⟨_, _, rfl, by omega, by omega⟩
        · exact ⟨_, _, rfl, by omega, by omega⟩
    · obtain ⟨j, c, h1, h2, h3⟩ := bestU_le n i x (by omega) hp hf
      have hj := (bestU_some n h1).1
      rw [h1]
      unfold bestF
      split
      · cases f (aftI p k v (p.rel.getD n default)) with
        | none => exact ⟨j, c, rfl, h2, h3⟩
        | some c2 =>
          dsimp only
          split
          · exact ⟨_, _, rfl, by omega, by omega⟩
          · exact ⟨_, _, rfl, h2, h3⟩
      · exact ⟨j, c, rfl, h2, h3⟩
def vO (p : Plan) : Nat → Int → Option Int
  | 0, _ => some 0
  | d + 1, v => (bestO p (p.inf.length - (d + 1)) v (vO p d)).map (·.2)
theorem vO_in {p : Plan} (hp : planB p = true) : ∀ d, d ≤ p.inf.length → ∀ v, (p.res ≤ v ∧ v ≤ p.cap) → ∀ c, vO p d v = some c → 0 ≤ c ∧ c ≤ (d : Int) * 4398046511104000
  | 0, _, v, _, c, h => by
    have : c = 0 := by simpa [vO, eq_comm] using h
    omega
  | d + 1, hd, v, hv, c, h => by
    have hin := planB_in hp
    rw [vO] at h
    obtain ⟨⟨i, c2⟩, h1, h2⟩ := Option.map_eq_some_iff.1 h
    obtain ⟨h3, h4, x, h5, h6⟩ := bestU_some _ h1
    have ih := vO_in hp d (by omega) _ (aft_in hp h4) x h5
    have hc := cost_in hp (k := p.inf.length - (d + 1)) (by omega) (v := v) (by omega) h3
    dsimp only at h2
    omega
theorem stepsN_mem {p : Plan} {k : Nat} {v : Int} {s : List Int} {w : Int} : ∀ i, w ∈ stepsN p k v s i ↔ w ∈ s ∨ ∃ j, j < i ∧ possB p k v (p.rel.getD j default) = true ∧ w = aftI p k v (p.rel.getD j default)
  | 0 => by
    show w ∈ s ↔ _
    exact ⟨.inl, fun h => h.elim id fun ⟨j, h, _⟩ => by omega⟩
  | i + 1 => by
    rw [stepsN_next]
    have ih := @stepsN_mem p k v s w i
    split
    · next hp =>
      rw [insI_mem, ih]
      constructor
      · rintro ((h | ⟨j, h, h2⟩) | h)
        · exact .inl h
        · exact .inr ⟨j, by omega, h2⟩
        · exact .inr ⟨i, by omega, hp, h⟩
      · rintro (h | ⟨j, h, h2, h3⟩)
        · exact .inl (.inl h)
        · by_cases e : j = i
          · subst e; exact .inr h3
          · exact .inl (.inr ⟨j, by omega, h2, h3⟩)
    · next hp =>
      rw [ih]
      constructor
      · rintro (h | ⟨j, h, h2⟩)
        · exact .inl h
        · exact .inr ⟨j, by omega, h2⟩
      · rintro (h | ⟨j, h, h2, h3⟩)
        · exact .inl h
        · by_cases e : j = i
          · subst e; exact absurd h2 hp
          · exact .inr ⟨j, by omega, h2, h3⟩
theorem nextN_mem {p : Plan} {k : Nat} {row : List Int} {w : Int} : ∀ i, w ∈ nextN p k row i ↔ ∃ n, n < i ∧ ∃ j, j < p.rel.length ∧ possB p k (row.getD n default) (p.rel.getD j default) = true ∧ w = aftI p k (row.getD n default) (p.rel.getD j default)
  | 0 => by
    rw [show nextN p k row 0 = [] from rfl]
    exact ⟨fun h => by simp at h, fun ⟨n, h, _⟩ => by omega⟩
  | i + 1 => by
    rw [nextN_next, stepsN_mem, nextN_mem i]
    constructor
    · rintro (⟨n, h, h2⟩ | h)
      · exact ⟨n, by omega, h2⟩
      · exact ⟨i, by omega, h⟩
    · rintro ⟨n, h, h2⟩
      by_cases e : n = i
      · subst e; exact .inr h2
      · exact .inl ⟨n, by omega, h2⟩
theorem mem_getD {α} {l : List α} {x d : α} (h : x ∈ l) : ∃ n, n < l.length ∧ l.getD n d = x := by
  obtain ⟨n, hn, e⟩ := List.mem_iff_getElem.1 h
  exact ⟨n, hn, by rw [List.getD_eq_getElem?_getD, List.getElem?_eq_getElem hn, e]; rfl⟩
theorem row_step {p : Plan} {s : Nat} {v : Int} {n : Nat} {z : Int} {j : Nat} (hz : z ∈ rowI p s v n) (hj : j < p.rel.length) (hp : possB p (s + n) z (p.rel.getD j default) = true) : aftI p (s + n) z (p.rel.getD j default) ∈ rowI p s v (n + 1) := by
  rw [rowI_next, srtI_mem]
  obtain ⟨i, hi, e⟩ := mem_getD (d := default) hz
  exact (nextN_mem _).2 ⟨i, hi, j, hj, by rw [e]; exact hp, by rw [e]⟩
theorem rowsN_get (p : Plan) (s : Nat) (v : Int) : ∀ n j, j ≤ n → (rowsN p s v n).getD j default = rowI p s v j
  | 0, j, h => by
    obtain rfl : j = 0 := by omega
    rfl
  | n + 1, j, h => by
    by_cases e : j = n + 1
    · subst e; rfl
    · rw [rowsN, List.getD_eq_getElem?_getD, List.getElem?_append_left (by rw [rowsN_len]; omega), ← List.getD_eq_getElem?_getD]
      exact rowsN_get p s v n j (by omega)
theorem rowsN_row (p : Plan) (s : Nat) (v : Int) (n : Nat) {r : List Int} (h : r ∈ rowsN p s v n) : ∃ j, j ≤ n ∧ r = rowI p s v j := by
  obtain ⟨j, hj, e⟩ := mem_getD (d := default) h
  rw [rowsN_len] at hj
  exact ⟨j, by omega, by rw [← e, rowsN_get p s v n j (by omega)]⟩
theorem lastN_look (row : List Int) (z : Int) : ∀ i, i ≤ row.length → (lastN row i).lookup z = if z ∈ row.take i then some 0 else none
  | 0, _ => by simp [lastN]
  | i + 1, h => by
    rw [lastN_next, insV_look, lastN_look row z i (by omega), take_snoc (by omega : i < row.length)]
    simp only [List.mem_append, List.mem_singleton]
    by_cases h1 : z = row.getD i default
    · rw [if_pos h1, if_pos (.inr h1)]
    · rw [if_neg h1]
      by_cases h2 : z ∈ row.take i
      · rw [if_pos h2, if_pos (.inl h2)]
      · rw [if_neg h2, if_neg (fun h => h.elim h2 h1)]
theorem lineN_look (p : Plan) (k : Nat) (row : List Int) (nx : List (Int × Int)) (z : Int) : ∀ i, i ≤ row.length → (lineN p k row nx i).lookup z = if z ∈ row.take i then (bestO p k z (fun z => nx.lookup z)).map (·.2) else none
  | 0, _ => by simp [lineN]
  | i + 1, h => by
    rw [lineN_next, take_snoc (by omega : i < row.length)]
    have ih := lineN_look p k row nx z i (by omega)
    rw [bestI_stO]
    simp only [List.mem_append, List.mem_singleton]
    by_cases h1 : z = row.getD i default
    · have e : (if z ∈ row.take i ∨ z = row.getD i default then (bestO p k z (fun z => nx.lookup z)).map (·.2) else none) = (bestO p k z (fun z => nx.lookup z)).map (·.2) := if_pos (.inr h1)
      rw [e, ← h1]
      cases hb : bestO p k z (fun z => nx.lookup z) with
      | none =>
        rw [hb] at ih
        show List.lookup z (lineN p k row nx i) = none
        rw [ih]
        split <;> rfl
      | some a =>
        show List.lookup z (insV (lineN p k row nx i) z (stO (some a)).2.1) = some a.2
        rw [insV_look, if_pos rfl]; rfl
    · have e : (if z ∈ row.take i ∨ z = row.getD i default then (bestO p k z (fun z => nx.lookup z)).map (·.2) else none) = if z ∈ row.take i then (bestO p k z (fun z => nx.lookup z)).map (·.2) else none := by
        by_cases h2 : z ∈ row.take i
        · rw [if_pos h2, if_pos (.inl h2)]
        · rw [if_neg h2, if_neg (fun h => h.elim h2 h1)]
      rw [e, ← ih]
      split
      · rw [insV_look, if_neg h1]
      · rfl
theorem valsD_look {p : Plan} {s : Nat} {v : Int} {N : Nat} (hN : s + N = p.inf.length) : ∀ d, d ≤ N → ∀ z, (valsD p s (rowsN p s v N) d).lookup z = if z ∈ rowI p s v (N - d) then vO p d z else none
  | 0, _, z => by
    rw [valsD, lastN_look _ _ _ (Nat.le_refl _), List.take_length, rowsN_len, rowsN_get p s v N _ (by omega)]; rfl
  | d + 1, hd, z => by
    rw [valsD, lineN_look _ _ _ _ _ _ (Nat.le_refl _), List.take_length, rowsN_len, rowsN_get p s v N _ (by omega)]
    rw [show N + 1 - 1 - (d + 1) = N - (d + 1) by omega]
    by_cases hz : z ∈ rowI p s v (N - (d + 1))
    · rw [if_pos hz, if_pos hz, vO, show p.inf.length - (d + 1) = s + (N - (d + 1)) by omega]
      congr 1
      refine bestU_congr _ fun i hi hp => ?_
      have hm := row_step hz hi hp
      rw [show N - (d + 1) + 1 = N - d by omega] at hm
      rw [valsD_look hN d (by omega), if_pos hm]
    · rw [if_neg hz, if_neg hz]
theorem valsD_in {p : Plan} {s : Nat} {v : Int} {N : Nat} (hp : planB p = true) (hv : p.res ≤ v ∧ v ≤ p.cap) (hN : s + N = p.inf.length) {d : Nat} (hd : d ≤ N) (z : Int) : 0 ≤ valI (valsD p s (rowsN p s v N) d) z ∧ valI (valsD p s (rowsN p s v N) d) z ≤ 900000000000000000 := by
  rw [valI_eq, valsD_look hN d hd]
  have hin := planB_in hp
  split
  · next hz =>
    cases h : vO p d z with
    | none => exact ⟨by decide, by decide⟩
    | some c =>
      have := vO_in hp d (by omega) z (rowI_in hp hv _ z hz) c h
      show 0 ≤ c ∧ c ≤ 900000000000000000
      omega
  · exact ⟨by decide, by decide⟩
def putI : List Int → Int → List Int
  | [], n => [n]
  | a :: l, n => if a < n then a :: putI l n else if a = n then a :: l else n :: a :: l
theorem putI_mem {n z : Int} : ∀ {l : List Int}, z ∈ putI l n ↔ z ∈ l ∨ z = n
  | [] => by simp [putI]
  | a :: l => by
    rw [putI]
    split
    · rw [List.mem_cons, putI_mem, List.mem_cons, or_assoc]
    · split
      · next h =>
        subst h
        exact ⟨.inl, fun h => h.elim id fun e => e ▸ List.mem_cons_self ..⟩
      · simp only [List.mem_cons]
        constructor
        · rintro (h | h | h)
          · exact .inr h
          · exact .inl (.inl h)
          · exact .inl (.inr h)
        · rintro ((h | h) | h)
          · exact .inr (.inl h)
          · exact .inr (.inr h)
          · exact .inl h
theorem putI_asc {n : Int} : ∀ {l : List Int}, l.Pairwise (· < ·) → (putI l n).Pairwise (· < ·)
  | [], _ => by simp [putI]
  | a :: l, h => by
    obtain ⟨h1, h2⟩ := List.pairwise_cons.1 h
    rw [putI]
    split
    · next hlt =>
      refine List.pairwise_cons.2 ⟨fun z hz => ?_, putI_asc h2⟩
      rcases putI_mem.1 hz with hz | rfl
      · exact h1 z hz
      · exact hlt
    · split
      · exact h
      · refine List.pairwise_cons.2 ⟨fun z hz => ?_, h⟩
        rcases List.mem_cons.1 hz with rfl | hz
        · omega
        · have := h1 z hz; omega
theorem putI_len (n : Int) : ∀ l : List Int, (putI l n).length ≤ l.length + 1
  | [] => by simp [putI]
  | a :: l => by
    rw [putI]
    have := putI_len n l
    split
    · simp only [List.length_cons]; omega
    · split
      · simp only [List.length_cons]; omega
      · simp only [List.length_cons]; omega
theorem asc_ext : ∀ {l k : List Int}, l.Pairwise (· < ·) → k.Pairwise (· < ·) → (∀ z, z ∈ l ↔ z ∈ k) → l = k
  | [], [], _, _, _ => rfl
  | [], b :: k, _, _, h => absurd ((h b).2 (List.mem_cons_self ..)) (by simp)
  | a :: l, [], _, _, h => absurd ((h a).1 (List.mem_cons_self ..)) (by simp)
  | a :: l, b :: k, hl, hk, h => by
    obtain ⟨l1, l2⟩ := List.pairwise_cons.1 hl
    obtain ⟨k1, k2⟩ := List.pairwise_cons.1 hk
    have e : a = b := by
      rcases List.mem_cons.1 ((h a).1 (List.mem_cons_self ..)) with e | ha
      · exact e
      · rcases List.mem_cons.1 ((h b).2 (List.mem_cons_self ..)) with e | hb
        · exact e.symm
        · have := l1 b hb; have := k1 a ha; omega
    subst e
    congr 1
    refine asc_ext l2 k2 fun z => ?_
    have hz := h z
    simp only [List.mem_cons] at hz
    constructor
    · intro h1
      rcases hz.1 (.inr h1) with e | h2
      · have := l1 z h1; omega
      · exact h2
    · intro h1
      rcases hz.2 (.inr h1) with e | h2
      · have := k1 z h1; omega
      · exact h2
theorem putI_at {n : Int} : ∀ {l : List Int} {k : Nat}, k ≤ l.length → (∀ j, j < k → l.getD j default < n) → (k < l.length → n ≤ l.getD k default) → putI l n = if k < l.length ∧ l.getD k default = n then l else l.take k ++ n :: l.drop k
  | [], k, hk, _, _ => by
    obtain rfl : k = 0 := by simpa using hk
    simp [putI]
  | a :: l, 0, _, _, h2 => by
    have h3 : n ≤ a := h2 (by simp)
    rw [putI, if_neg (by omega)]
    by_cases e : a = n
    · rw [if_pos e, if_pos ⟨by simp, e⟩]
    · rw [if_neg e, if_neg (fun h => e h.2)]; rfl
  | a :: l, k + 1, hk, h1, h2 => by
    have h3 : a < n := h1 0 (by omega)
    rw [putI, if_pos h3, putI_at (k := k) (by simpa using hk) (fun j hj => h1 (j + 1) (by omega)) (fun h => h2 (by simpa using h))]
    by_cases e : k < l.length ∧ l.getD k default = n
    · rw [if_pos e, if_pos (show k + 1 < (a :: l).length ∧ (a :: l).getD (k + 1) default = n from ⟨by simpa using e.1, e.2⟩)]
    · rw [if_neg e, if_neg (fun h : k + 1 < (a :: l).length ∧ (a :: l).getD (k + 1) default = n => e ⟨by simpa using h.1, h.2⟩)]
      rfl
theorem insI_nodup {s : List Int} {w : Int} (h : s.Nodup) : (insI s w).Nodup := by
  unfold insI
  split
  · exact h
  · next hn =>
    rw [List.nodup_append]
    refine ⟨h, by simp, fun a ha b hb => ?_⟩
    rw [List.mem_singleton] at hb
    subst hb
    exact fun e => hn (e ▸ ha)
theorem stepsN_nodup {p : Plan} {k : Nat} {v : Int} {s : List Int} (hs : s.Nodup) : ∀ i, (stepsN p k v s i).Nodup
  | 0 => hs
  | i + 1 => by
    rw [stepsN_next]
    split
    · exact insI_nodup (stepsN_nodup hs i)
    · exact stepsN_nodup hs i
theorem nextN_nodup {p : Plan} {k : Nat} {row : List Int} : ∀ i, (nextN p k row i).Nodup
  | 0 => by simp [nextN]
  | i + 1 => by rw [nextN_next]; exact stepsN_nodup (nextN_nodup i) _
theorem srtI_asc {l : List Int} (h : l.Nodup) : (srtI l).Pairwise (· < ·) := by
  have h1 : (srtI l).Pairwise fun x y => decide (x ≤ y) = true := List.pairwise_mergeSort (fun a b c h1 h2 => by simp only [decide_eq_true_eq] at *; omega) (fun a b => by simp only [Bool.or_eq_true, decide_eq_true_eq]; omega) l
  have h2 : (srtI l).Nodup := (List.mergeSort_perm l _).nodup_iff.2 h
  refine List.Pairwise.imp₂ (R := fun x y => decide (x ≤ y) = true) (S := fun x y => x ≠ y) (fun a b h1 h2 => ?_) h1 h2
  have := of_decide_eq_true h1
  omega
theorem srtI_ins {s : List Int} {w : Int} (h : s.Nodup) : srtI (insI s w) = putI (srtI s) w :=
  asc_ext (srtI_asc (insI_nodup h)) (putI_asc (srtI_asc h)) fun z => by rw [srtI_mem, insI_mem, putI_mem, srtI_mem]
theorem srtI_nil : srtI [] = [] := by
  have := srtI_len []
  exact List.eq_nil_of_length_eq_zero (by simpa using this)
theorem rowI_asc (p : Plan) (s : Nat) (v : Int) (n : Nat) : (rowI p s v n).Pairwise (· < ·) := by
  cases n with
  | zero => simp [rowI, rowsN]
  | succ n => rw [rowI_next]; exact srtI_asc (nextN_nodup _)
def srtS (p : Plan) (k : Nat) (row : List Int) (i r : Nat) : List Int := srtI (stepsN p k (row.getD i default) (nextN p k row i) r)
theorem srtS_next (p : Plan) (k : Nat) (row : List Int) (i r : Nat) : srtS p k row i (r + 1) = if possB p k (row.getD i default) (p.rel.getD r default) then putI (srtS p k row i r) (aftI p k (row.getD i default) (p.rel.getD r default)) else srtS p k row i r := by
  unfold srtS
  rw [stepsN_next]
  split
  · exact srtI_ins (stepsN_nodup (nextN_nodup i) r)
  · rfl
theorem srtS_row (p : Plan) (k : Nat) (row : List Int) (i : Nat) : srtS p k row i p.rel.length = srtI (nextN p k row (i + 1)) := by unfold srtS; rw [nextN_next]
theorem srtS_zero (p : Plan) (k : Nat) (row : List Int) (i : Nat) : srtS p k row i 0 = srtI (nextN p k row i) := rfl
def posI (l : List Int) (n : Int) : Nat := l.countP fun z => decide (z < n)

end Go.Proofs.YtlailhdmgehniaaGreat
