/-
  Contracts of functions of the program, over the engine.
  No condition.
-/
import Derived.Test.YtedocinehadodaaCW6
import Derived.Test.YtedocinehadodaaCQ0P11
namespace Go.Proofs.Ytedocinehadodaa
open Go.Eng
set_option linter.all false
attribute [local irreducible] DCallsG SWp Fct CallQ XCallQ LCallQ XLCallQ drun xrun

theorem floorT_hi {t : List Knot} {x : Int} (h : tabB t = true) (hk : knX t x < t.length) : floorT t x ≤ (t.getD (knX t x) default).y := by
  unfold floorT
  split
  · exact Int.le_refl _
  · next q =>
    split
    · omega
    · have hk0 : 0 < knX t x := Nat.pos_of_ne_zero fun z => q (.inr z)
      have a1 := knX_lo (t := t) (x := x) (j := knX t x - 1) (by omega)
      have a2 := knX_hi (t := t) (x := x) h (Nat.le_refl _) hk
      have a3 := tab_mono2 h (knX t x) (knX t x - 1) (by omega) hk
      generalize (t.getD (knX t x) default) = kb at *
      generalize (t.getD (knX t x - 1) default) = ka at *
      have hU : 0 ≤ kb.y - ka.y := by omega
      have hD : 0 < kb.x - ka.x := by omega
      have c2 : (kb.y - ka.y) * (x - ka.x) / (kb.x - ka.x) ≤ kb.y - ka.y := by
        have := Int.mul_le_mul_of_nonneg_left (show x - ka.x ≤ kb.x - ka.x by omega) hU
        calc (kb.y - ka.y) * (x - ka.x) / (kb.x - ka.x) ≤ (kb.y - ka.y) * (kb.x - ka.x) / (kb.x - ka.x) := Int.ediv_le_ediv hD this
          _ = kb.y - ka.y := Int.mul_ediv_cancel _ (by omega)
      omega
theorem floorT_lo {t : List Knot} {x : Int} {i : Nat} (h : tabB t = true) (hi : i < knX t x) : (t.getD i default).y ≤ floorT t x := by
  have hk := knX_le t x
  unfold floorT
  split
  · next q =>
    rcases q with q | q
    · exact (tab_mono2 h _ i (by omega) q.1).2
    · omega
  · next q =>
    split
    · next e => exact (tab_mono2 h _ i (by omega) (by omega)).2
    · next e =>
      have a1 := knX_lo (t := t) (x := x) (j := knX t x - 1) (by omega)
      have a2 := knX_hi (t := t) (x := x) h (Nat.le_refl _) (by omega)
      have a3 := tab_mono2 h (knX t x) (knX t x - 1) (by omega) (by omega)
      have a4 := tab_mono2 h (knX t x - 1) i (by omega) (by omega)
      generalize (t.getD (knX t x) default) = kb at *
      generalize (t.getD (knX t x - 1) default) = ka at *
      have hU : 0 ≤ kb.y - ka.y := by omega
      have hD : 0 < kb.x - ka.x := by omega
      have c1 : 0 ≤ (kb.y - ka.y) * (x - ka.x) / (kb.x - ka.x) := Int.ediv_nonneg (Int.mul_nonneg hU (by omega)) (by omega)
      omega
theorem floorT_mono {t : List Knot} {x y : Int} (h : tabB t = true) (hxy : x ≤ y) : floorT t x ≤ floorT t y := by
  have hl := (tab_in h).1
  have lx := knX_le t x
  have ly := knX_le t y
  have hkk : knX t x ≤ knX t y := by
    refine Nat.le_of_not_lt fun hlt => ?_
    have h1 := knX_lo hlt
    have h2 := knX_hi (x := y) h (Nat.le_refl _) (show knX t y < t.length by omega)
    omega
  rcases Nat.lt_or_ge (knX t x) (knX t y) with hlt | hge
  · exact Int.le_trans (floorT_hi h (by omega)) (floorT_lo h hlt)
  have e : knX t x = knX t y := by omega
  by_cases hk : knX t y < t.length
  · by_cases hy : (t.getD (knX t y) default).x = y
    · have e1 : floorT t y = (t.getD (knX t y) default).y := by unfold floorT; rw [if_pos (.inl ⟨hk, hy⟩)]
      rw [e1, ← e]
      exact floorT_hi h (by omega)
    · have h2 := knX_hi (x := y) h (Nat.le_refl _) hk
      have h3 : ¬ (t.getD (knX t y) default).x = x := by omega
      by_cases h0 : knX t y = 0
      · have e1 : floorT t y = (t.getD (knX t y) default).y := by unfold floorT; rw [if_pos (.inr h0)]
        have e2 : floorT t x = (t.getD (knX t x) default).y := by unfold floorT; rw [if_pos (.inr (by omega))]
        rw [e1, e2, e]; exact Int.le_refl _
      · have a1 := knX_lo (t := t) (x := x) (j := knX t x - 1) (by omega)
        have a3 := tab_mono2 h (knX t y) (knX t y - 1) (by omega) hk
        unfold floorT
        rw [e] at a1 ⊢
        rw [if_neg (fun q => q.elim (fun q => h3 q.2) h0), if_neg (show ¬ knX t y = t.length by omega), if_neg (fun q => q.elim (fun q => hy q.2) h0), if_neg (show ¬ knX t y = t.length by omega)]
        generalize (t.getD (knX t y) default) = kb at *
        generalize (t.getD (knX t y - 1) default) = ka at *
        have hU : 0 ≤ kb.y - ka.y := by omega
        have hD : 0 < kb.x - ka.x := by omega
        have := Int.ediv_le_ediv hD (Int.mul_le_mul_of_nonneg_left (show x - ka.x ≤ y - ka.x by omega) hU)
        omega
  · have e1 : knX t y = t.length := by omega
    have e2 : knX t x = t.length := by omega
    unfold floorT
    rw [e1, e2]
    have n1 : ∀ z : Int, ¬ ((t.length < t.length ∧ (t.getD t.length default).x = z) ∨ t.length = 0) := fun z q => by omega
    rw [if_neg (n1 x), if_pos rfl, if_neg (n1 y), if_pos rfl]
    exact Int.le_refl _
theorem rel_asc {p : Plan} (hp : planB p = true) {i j : Nat} (hij : i < j) (hj : j < p.rel.length) : p.rel.getD i default < p.rel.getD j default := by
  have hs : ∀ k, k + 1 < p.rel.length → p.rel.getD k default < p.rel.getD (k + 1) default := fun k hk => by
    have h := hp
    unfold planB at h
    simp only [Bool.and_eq_true, List.all_eq_true, List.mem_range] at h
    have := h.1.2 (k + 1) hk
    unfold relR at this
    simp only [Bool.and_eq_true, Bool.or_eq_true, decide_eq_true_eq] at this
    rcases this.2 with h | h
    · omega
    · simpa using h
  have key : ∀ d, i + d + 1 < p.rel.length → p.rel.getD i default < p.rel.getD (i + d + 1) default := fun d => by
    induction d with
    | zero => intro h; exact hs i h
    | succ d ih =>
      intro h
      have h1 := ih (by omega)
      have h2 := hs (i + d + 1) (by omega)
      rw [show i + (d + 1) + 1 = i + d + 1 + 1 by omega]
      omega
  have := key (j - i - 1) (by omega)
  rwa [show i + (j - i - 1) + 1 = j by omega] at this
def schB (p : Plan) (rs : List Int) : Prop := rs.length = p.inf.length ∧ ∀ i, i < rs.length → ∃ j, j < p.rel.length ∧ p.rel.getD j default = rs.getD i default
theorem schB_any {p : Plan} {rs : List Int} (h : schB p rs) : (rs.any fun r => !p.rel.any (eqB r)) = false := by
  rw [List.any_eq_false]
  intro r hr
  obtain ⟨i, hi, e⟩ := mem_getD (d := default) hr
  obtain ⟨j, hj, e2⟩ := h.2 i hi
  have : p.rel.any (eqB r) = true := List.any_eq_true.2 ⟨_, getD_mem hj, by rw [e2, e]; exact decide_eq_true rfl⟩
  simp [this]
theorem costR_sch {p : Plan} {rs : List Int} (hp : planB p = true) (h : schB p rs) : costR p rs = match pathC p rs rs.length with
    | none => (0, [], 27)
    | some a => (a.1, volsC p rs rs.length, 0) := by
  unfold costR
  rw [if_neg (by rw [hp]; decide), if_neg (fun k => k h.1), if_neg (by rw [schB_any h]; decide)]
  cases pathC p rs rs.length <;> rfl
theorem path_some {p : Plan} {rs : List Int} {a : Int × Int} : ∀ n, pathC p rs n = some a → ∀ i, i ≤ n → ∃ b, pathC p rs i = some b := fun n h i hi => by
  cases h2 : pathC p rs i with
  | none => rw [path_none h2 n hi] at h; cases h
  | some b => exact ⟨b, rfl⟩
theorem path_inC {p : Plan} {rs : List Int} (hp : planB p = true) : ∀ i {s v : Int}, pathC p rs i = some (s, v) → p.res ≤ v ∧ v ≤ p.cap
  | 0, s, v, h => by
    have e : (0, p.start) = (s, v) := Option.some.inj h
    obtain ⟨-, rfl⟩ := Prod.mk.inj e
    exact (planB_in hp).2.2.1
  | i + 1, s, v, h => by
    obtain ⟨⟨s0, v0⟩, h0⟩ := path_some (i + 1) h i (by omega)
    rw [path_next h0] at h
    split at h
    · next hpo =>
      have e := Option.some.inj h
      obtain ⟨-, rfl⟩ := Prod.mk.inj e
      exact aft_in hp hpo
    · cases h
theorem path_ge {p : Plan} {rs : List Int} (h : schB p rs) {c v : Int} (hc : pathC p rs p.inf.length = some (c, v)) : ∀ d, d ≤ p.inf.length → ∀ s w, pathC p rs (p.inf.length - d) = some (s, w) → ∃ x, vO p d w = some x ∧ s + x ≤ c
  | 0, _, s, w, hw => by
    rw [Nat.sub_zero, hc] at hw
    obtain ⟨rfl, rfl⟩ := Prod.mk.inj (Option.some.inj hw)
    exact ⟨0, rfl, by omega⟩
  | d + 1, hd, s, w, hw => by
    obtain ⟨j, hj, e⟩ := h.2 (p.inf.length - (d + 1)) (by rw [h.1]; omega)
    have hn := path_next hw
    rw [show p.inf.length - (d + 1) + 1 = p.inf.length - d by omega] at hn
    obtain ⟨⟨s2, w2⟩, h2⟩ := path_some p.inf.length hc (p.inf.length - d) (by omega)
    rw [h2] at hn
    split at hn
    · next hpo =>
      obtain ⟨rfl, rfl⟩ := Prod.mk.inj (Option.some.inj hn)
      obtain ⟨x, hx, hle⟩ := path_ge h hc d (by omega) _ _ h2
      rw [← e] at hpo hx hle
      obtain ⟨j2, c2, h3, h4, _⟩ := bestU_le p.rel.length j x hj hpo hx
      have h3 : bestO p (p.inf.length - (d + 1)) w (vO p d) = some (j2, c2) := h3
      exact ⟨c2, by rw [vO, h3]; rfl, by omega⟩
    · cases hn
theorem sch_ge {p : Plan} {rs : List Int} (h : schB p rs) {c v : Int} (hc : pathC p rs p.inf.length = some (c, v)) : ∃ x, vO p p.inf.length p.start = some x ∧ x ≤ c := by
  obtain ⟨x, h1, h2⟩ := path_ge h hc p.inf.length (Nat.le_refl _) 0 p.start (by rw [Nat.sub_self]; rfl)
  exact ⟨x, h1, by omega⟩
theorem goV_pre (p : Plan) (i : Nat) : ∀ n, i < n → (goV p n).1.getD i default = p.rel.getD (chN p i (goV p i).2) default
  | 0, h => by omega
  | n + 1, h => by
    rw [goV]
    have hl := goV_len p n
    by_cases e : i = n
    · subst e
      rw [List.getD_eq_getElem?_getD, List.getElem?_append_right (by omega), hl, Nat.sub_self]; rfl
    · rw [List.getD_eq_getElem?_getD, List.getElem?_append_left (by omega), ← List.getD_eq_getElem?_getD]
      exact goV_pre p i n (by omega)
theorem goV_ok {p : Plan} {c : Int} (h : vO p p.inf.length p.start = some c) : ∀ i, i ≤ p.inf.length → ∃ x, vO p (p.inf.length - i) (goV p i).2 = some x ∧ pathC p (goV p p.inf.length).1 i = some (c - x, (goV p i).2)
  | 0, _ => ⟨c, by rw [Nat.sub_zero]; exact h, by rw [show c - c = 0 by omega]; rfl⟩
  | i + 1, hi => by
    obtain ⟨x, h1, h2⟩ := goV_ok h i (by omega)
    obtain ⟨h3, h4, h5, y, h6, h7⟩ := ch_some (by omega : i < p.inf.length) h1
    refine ⟨y, h6, ?_⟩
    rw [path_next h2, goV_pre p i _ (by omega), if_pos h5, goV]
    rw [show c - x + costI p i (goV p i).2 (p.rel.getD (chN p i (goV p i).2) default) = c - y by omega]
theorem goV_sch {p : Plan} {c : Int} (h : vO p p.inf.length p.start = some c) : schB p (goV p p.inf.length).1 := by
  refine ⟨goV_len p _, fun i hi => ?_⟩
  rw [goV_len] at hi
  obtain ⟨x, h1, _⟩ := goV_ok h i (by omega)
  obtain ⟨_, h4, _⟩ := ch_some hi h1
  exact ⟨_, h4, (goV_pre p i _ hi).symm⟩
theorem goV_cost {p : Plan} {c : Int} (h : vO p p.inf.length p.start = some c) : pathC p (goV p p.inf.length).1 p.inf.length = some (c, (goV p p.inf.length).2) := by
  obtain ⟨x, h1, h2⟩ := goV_ok h p.inf.length (Nat.le_refl _)
  rw [Nat.sub_self] at h1
  obtain rfl : x = 0 := by simpa [vO, eq_comm] using h1
  rw [h2, show c - 0 = c by omega]
theorem path_same {p : Plan} {a b : List Int} : ∀ i, (∀ j, j < i → a.getD j default = b.getD j default) → pathC p a i = pathC p b i
  | 0, _ => rfl
  | i + 1, h => by
    rw [pathC, pathC, path_same i (fun j hj => h j (by omega)), h i (by omega)]
theorem sch_first {p : Plan} (hp : planB p = true) {rs : List Int} (h : schB p rs) {c v : Int} (hc : pathC p rs p.inf.length = some (c, v)) (hv : vO p p.inf.length p.start = some c) {i : Nat} (hi : i < p.inf.length)
    (hs : ∀ j, j < i → rs.getD j default = (goV p p.inf.length).1.getD j default) : ¬ rs.getD i default < (goV p p.inf.length).1.getD i default := by
  intro hlt
  obtain ⟨x, h1, h2⟩ := goV_ok hv i (by omega)
  obtain ⟨h3, h4, h5, y, h6, h7⟩ := ch_some hi h1
  rw [← path_same i hs] at h2
  obtain ⟨j, hj, e⟩ := h.2 i (by rw [h.1]; exact hi)
  have hn := path_next h2
  obtain ⟨⟨s2, w2⟩, hq⟩ := path_some p.inf.length hc (i + 1) (by omega)
  rw [hq] at hn
  split at hn
  · next hpo =>
    obtain ⟨rfl, rfl⟩ := Prod.mk.inj (Option.some.inj hn)
    obtain ⟨z, hz, hle⟩ := path_ge h hc (p.inf.length - (i + 1)) (by omega) _ _ (by rw [show p.inf.length - (p.inf.length - (i + 1)) = i + 1 by omega]; exact hq)
    rw [← e] at hpo hz hle hlt
    obtain ⟨j2, c2, k1, k2, k3⟩ := bestU_le p.rel.length j z hj hpo hz
    have k1 : bestO p i (goV p i).2 (vO p (p.inf.length - (i + 1))) = some (j2, c2) := k1
    rw [h3] at k1
    obtain ⟨rfl, rfl⟩ := Prod.mk.inj (Option.some.inj k1)
    rw [goV_pre p i _ hi] at hlt
    have : j < chN p i (goV p i).2 := by
      rcases Nat.lt_trichotomy j (chN p i (goV p i).2) with k | k | k
      · exact k
      · rw [k] at hlt; omega
      · have := rel_asc hp k hj; omega
    have := k3 this
    omega
  · cases hn
def sumI (l : List Int) : Nat → Int
  | 0 => 0
  | i + 1 => sumI l i + l.getD i default
theorem sumI_in {p : Plan} (hp : planB p = true) : ∀ i, i ≤ p.inf.length → 0 ≤ sumI p.inf i ∧ sumI p.inf i ≤ (i : Int) * 1099511627776
  | 0, _ => by simp [sumI]
  | i + 1, hi => by
    have ih := sumI_in hp i (by omega)
    have := (planB_in hp).2.2.2.2.2.2.2.1 i (by omega)
    rw [sumI]
    omega
def relP (p : Plan) : Int := (p.inf.length : Int) * floorT p.pen (p.rel.getD 0 default) + p.wei * max 0 (p.start - p.cap - (p.inf.length : Int) * p.rel.getD (p.rel.length - 1) default + sumI p.inf p.inf.length)
def relxR (p : Plan) : Int × Int := if planB p = false then (0, 1) else (relP p, 0)
set_option maxHeartbeats 4000000 in
theorem maxA_f (l : List Int) (m : Nat) (hl : l.length ≤ 1048576) (h1 : 1 ≤ l.length) (ha : ∀ i, i + 1 < l.length → l.getD i default < l.getD (i + 1) default) : DCalls Try.prog 58 [ints l] (hget []) m (li (l.getD (l.length - 1) default)) (hget []) := by
  have h0 : 0 < l.length := h1
  have h0i : ¬ (l.length : Int) < 1 := by omega
  (have := Nonempty.intro h0)
  (have := Nonempty.intro h0i)
  refine pureC (n := 25) (rs := [.tmp 2]) (ts := [3]) Try.func58 rfl (by decide) [] (by (exact SD)) ?_
  (repeat' (first | refine swp_seq [0, 2, 3, 4, 7, 15] ?_ | refine st2 ?_ | (show Fct ..; refine fctI (fun hf => ?_)) | (show SWp _ _ _ (.cond _ _ _) _ _ _ _; first | refine cB (fun hc => ?_) (fun hc => ?_) | refine cU ?_ ?_)))
  refine loop_swp [0, 3, 4] [] 0 (fun q A H => ∃ i : Nat, i + 1 ≤ l.length ∧ q = l.length - i ∧ A = [(0, ints l), (3, li (l.getD i default)), (4, li ((i + 1 : Nat) : Int))] ∧ H = []) (by omega) ?_ ?_ ?_
  · rintro q A H ⟨i, h1, h2, rfl, rfl⟩
    exact ⟨by (exact SD), by (exact SD)⟩
  · refine ⟨_, 0, by omega, rfl, ?_, ?_⟩
    · exact DVR
    · exact DVR
  rintro q A H ⟨i, h1, h2, rfl, rfl⟩
  by_cases hi : i + 1 < l.length
  · have hi3 : (i : Int) + 1 < (l.length : Int) := by omega
    have hai := ha i hi
    have hmx : (if l.getD i default < l.getD (i + 1) default then l.getD (i + 1) default else l.getD i default) = l.getD (i + 1) default := if_pos hai
    (have := Nonempty.intro hi)
    (have := Nonempty.intro hi3)
    (repeat' (first | refine swp_seq [0, 2, 3, 4, 7, 15] ?_ | refine st2 ?_ | (show Fct ..; refine fctI (fun hf => ?_)) | (show SWp _ _ _ (.cond _ _ _) _ _ _ _; first | refine cB (fun hc => ?_) (fun hc => ?_) | refine cU ?_ ?_)))
    (refine lN [] ?_)
    exact ⟨_, by omega, i + 1, by omega, rfl, by rw [hmx]; rfl, rfl⟩
  · obtain rfl : i = l.length - 1 := by omega
    have hi3 : ¬ ((l.length - 1 : Nat) : Int) + 1 < (l.length : Int) := by omega
    (have := Nonempty.intro hi3)
    (repeat' (first | refine swp_seq [0, 2, 3, 4, 7, 15] ?_ | refine st2 ?_ | (show Fct ..; refine fctI (fun hf => ?_)) | (show SWp _ _ _ (.cond _ _ _) _ _ _ _; first | refine cB (fun hc => ?_) (fun hc => ?_) | refine cU ?_ ?_)))
    exact DVR
set_option maxHeartbeats 4000000 in
theorem minA_f (l : List Int) (m : Nat) (hl : l.length ≤ 1048576) (h1 : 1 ≤ l.length) (ha : ∀ i, i < l.length → l.getD 0 default ≤ l.getD i default) : DCalls Try.prog 59 [ints l] (hget []) m (li (l.getD 0 default)) (hget []) := by
  have h0 : 0 < l.length := h1
  have h0i : ¬ (l.length : Int) < 1 := by omega
  (have := Nonempty.intro h0)
  (have := Nonempty.intro h0i)
  refine pureC (n := 25) (rs := [.tmp 2]) (ts := [3]) Try.func59 rfl (by decide) [] (by (exact SD)) ?_
  (repeat' (first | refine swp_seq [0, 2, 3, 4, 7, 15] ?_ | refine st2 ?_ | (show Fct ..; refine fctI (fun hf => ?_)) | (show SWp _ _ _ (.cond _ _ _) _ _ _ _; first | refine cB (fun hc => ?_) (fun hc => ?_) | refine cU ?_ ?_)))
  refine loop_swp [0, 3, 4] [] 0 (fun q A H => ∃ i : Nat, i + 1 ≤ l.length ∧ q = l.length - i ∧ A = [(0, ints l), (3, li (l.getD 0 default)), (4, li ((i + 1 : Nat) : Int))] ∧ H = []) (by omega) ?_ ?_ ?_
  · rintro q A H ⟨i, h1, h2, rfl, rfl⟩
    exact ⟨by (exact SD), by (exact SD)⟩
  · refine ⟨_, 0, by omega, rfl, ?_, ?_⟩
    · exact DVR
    · exact DVR
  rintro q A H ⟨i, h1, h2, rfl, rfl⟩
  by_cases hi : i + 1 < l.length
  · have hi3 : (i : Int) + 1 < (l.length : Int) := by omega
    have hai := ha (i + 1) hi
    have hmx : (if l.getD (i + 1) default < l.getD 0 default then l.getD (i + 1) default else l.getD 0 default) = l.getD 0 default := if_neg (by omega)
    (have := Nonempty.intro hi)
    (have := Nonempty.intro hi3)
    (repeat' (first | refine swp_seq [0, 2, 3, 4, 7, 15] ?_ | refine st2 ?_ | (show Fct ..; refine fctI (fun hf => ?_)) | (show SWp _ _ _ (.cond _ _ _) _ _ _ _; first | refine cB (fun hc => ?_) (fun hc => ?_) | refine cU ?_ ?_)))
    (refine lN [] ?_)
    exact ⟨_, by omega, i + 1, by omega, rfl, by rw [hmx]; rfl, rfl⟩
  · have hi3 : ¬ (i : Int) + 1 < (l.length : Int) := by omega
    (have := Nonempty.intro hi3)
    (repeat' (first | refine swp_seq [0, 2, 3, 4, 7, 15] ?_ | refine st2 ?_ | (show Fct ..; refine fctI (fun hf => ?_)) | (show SWp _ _ _ (.cond _ _ _) _ _ _ _; first | refine cB (fun hc => ?_) (fun hc => ?_) | refine cU ?_ ?_)))
    exact DVR
set_option maxRecDepth 20000 in
set_option maxHeartbeats 8000000 in
theorem relax_f (p : Plan) (m : Nat) (hq : planOk p) : DCalls Try.prog 25 [planD p] (hget []) m (.tup [li (relxR p).1, li (relxR p).2]) (hget []) := by
  cases hp : planB p
  · rw [show relxR p = (0, 1) by unfold relxR; rw [if_pos hp]]
    have ct := fun m => tank_no p m hq hp
    refine pureC (n := 55) (rs := [.tmp 2, .tmp 3]) (ts := [3, 29]) Try.func25 rfl (by decide) [] (by (exact SD)) ?_
    (repeat' (first | refine swp_seq [0, 1, 2, 3, 4, 5, 6, 7, 9, 16, 32, 33, 34, 35] ?_ | refine st2 ?_ | (show CallQ ..; first | refine cQ (fun hcc => (by first | exact ct _)) ?_ | (refine lP ?_; refine lQ (fun hcc m => (by first | exact ct _)) ?_)) | (show XCallQ ..; first | refine xQ (fun hcc => (by first | exact ct _)) ?_ | (refine xlP ?_; refine xlQ (fun hcc m => (by first | exact ct _)) ?_)) | (show Fct ..; refine fctI (fun hf => ?_)) | (show SWp _ _ _ (.cond _ _ _) _ _ _ _; first | refine cB (fun hc => ?_) (fun hc => ?_) | refine cU ?_ ?_)))
    exact DVR
  unfold relxR
  rw [if_neg (by rw [hp]; decide)]
  have hin := planB_in hp
  have hil := hin.2.2.2.1
  have hrl := hin.2.2.2.2.1
  have hw := hin.2.2.2.2.2.1
  have ct := fun m => tank_f p m hq hp
  have cM := fun m => maxA_f p.rel m (by omega) hrl.1 (fun i hi => rel_asc hp (by omega) hi)
  have hg0 : ∀ i, i < p.rel.length → (p.rel.map (floorT p.pen)).getD i default = floorT p.pen (p.rel.getD i default) := fun i hi => by
    rw [List.getD_eq_getElem?_getD, List.getD_eq_getElem?_getD, List.getElem?_map, List.getElem?_eq_getElem hi]; rfl
  have cN := fun m => minA_f (p.rel.map (floorT p.pen)) m (by rw [List.length_map]; omega) (by rw [List.length_map]; omega) (fun i hi => by
    rw [List.length_map] at hi
    rw [hg0 0 (by omega), hg0 i hi]
    refine floorT_mono hin.2.2.2.2.2.2.1 ?_
    by_cases e : i = 0
    · rw [e]; exact Int.le_refl _
    · have := rel_asc hp (show 0 < i by omega) hi; omega)
  rw [hg0 0 (by omega)] at cN
  have hF := hin.2.2.2.2.2.2.2.2.2 (p.rel.getD 0 default)
  have hM := hin.2.2.2.2.2.2.2.2.1 (p.rel.length - 1) (by omega)
  unfold relP
  generalize floorT p.pen (p.rel.getD 0 default) = F at *
  generalize p.rel.getD (p.rel.length - 1) default = M at *
  have hnM : 0 ≤ (p.inf.length : Int) * M ∧ (p.inf.length : Int) * M ≤ 200 * 1099511627776 := ⟨Int.mul_nonneg (by omega) hM.1, Int.mul_le_mul (by omega) hM.2 hM.1 (by omega)⟩
  have hnF : 0 ≤ (p.inf.length : Int) * F ∧ (p.inf.length : Int) * F ≤ 200 * 1099511627776 := ⟨Int.mul_nonneg (by omega) hF.1, Int.mul_le_mul (by omega) hF.2 hF.1 (by omega)⟩
  have hsm := fun i => @sumI_in p hp i
  refine pureC (n := 55) (rs := [.tmp 2, .tmp 3]) (ts := [3, 29]) Try.func25 rfl (by decide) [] (by (exact SD)) ?_
  (repeat' (first | refine swp_seq [0, 1, 2, 3, 4, 5, 6, 7, 9, 16, 32, 33, 34, 35] ?_ | refine st2 ?_ | (show CallQ ..; first | refine cQ (fun hcc => (by first | exact ct _ | exact cM _)) ?_ | (refine lP ?_; refine lQ (fun hcc m => (by first | exact ct _ | exact cM _)) ?_)) | (show XCallQ ..; first | refine xQ (fun hcc => (by first | exact ct _ | exact cM _)) ?_ | (refine xlP ?_; refine xlQ (fun hcc m => (by first | exact ct _ | exact cM _)) ?_)) | (show Fct ..; refine fctI (fun hf => ?_)) | (show SWp _ _ _ (.cond _ _ _) _ _ _ _; first | refine cB (fun hc => ?_) (fun hc => ?_) | refine cU ?_ ?_)))
  refine loop_swp [1, 4, 6, 7, 32, 33, 34] [0, 32] 33 (fun q A H => ∃ i : Nat, i ≤ p.inf.length ∧ q = p.inf.length - i ∧ A = [(1, .ptr 0 0), (4, .ptr 32 0), (6, li p.inf.length), (7, li (p.start - p.cap - (p.inf.length : Int) * M + sumI p.inf i)), (32, ints p.inf), (33, li p.inf.length), (34, li i)] ∧ H = [(0, .blk 26 (planC p)), (32, .blk 90 (tkC p (ints (p.rel.map (floorT p.pen)))))]) (by omega) ?_ ?_ ?_
  · rintro q A H ⟨i, h1, h2, rfl, rfl⟩
    exact ⟨by (exact SD), by (exact SD)⟩
  · refine ⟨_, 0, by omega, rfl, ?_, ?_⟩
    · rw [show p.start - p.cap - (p.inf.length : Int) * M + sumI p.inf 0 = p.start - p.cap - (p.inf.length : Int) * M by rw [sumI]; omega]
      exact DVR
    · exact DVR
  rintro q A H ⟨i, h1, h2, rfl, rfl⟩
  have hsi := hsm i h1
  by_cases hi : i < p.inf.length
  · have hi3 : (i : Int) < (p.inf.length : Int) := by omega
    have hii := hin.2.2.2.2.2.2.2.1 i hi
    have hsn : sumI p.inf (i + 1) = sumI p.inf i + p.inf.getD i default := rfl
    generalize sumI p.inf i = SI at *
    generalize (p.inf.length : Int) * M = NM at *
    (have := Nonempty.intro hi)
    (have := Nonempty.intro hi3)
    (repeat' (first | refine swp_seq [0, 1, 2, 3, 4, 5, 6, 7, 9, 16, 32, 33, 34, 35] ?_ | refine st2 ?_ | (show Fct ..; refine fctI (fun hf => ?_)) | (show SWp _ _ _ (.cond _ _ _) _ _ _ _; first | refine cB (fun hc => ?_) (fun hc => ?_) | refine cU ?_ ?_)))
    (refine lN [0, 32] ?_)
    exact ⟨_, by omega, i + 1, by omega, rfl, by rw [hsn, ← Int.add_assoc]; rfl, rfl⟩
  · obtain rfl : i = p.inf.length := by omega
    have hi3 : ¬ (p.inf.length : Int) < (p.inf.length : Int) := by omega
    generalize sumI p.inf p.inf.length = SI at *
    have hov : p.start - p.cap - (p.inf.length : Int) * M + SI ≤ 1000 * 1099511627776 := by omega
    generalize p.start - p.cap - (p.inf.length : Int) * M + SI = OV at *
    have hmx : (if 0 < OV then OV else 0) = max 0 OV := by rw [Int.max_def]; split <;> split <;> omega
    have hm0 : 0 ≤ max 0 OV ∧ max 0 OV ≤ 1000 * 1099511627776 := by omega
    have hwm : 0 ≤ p.wei * max 0 OV ∧ p.wei * max 0 OV ≤ 1000 * (1000 * 1099511627776) := ⟨Int.mul_nonneg hw.1 hm0.1, Int.mul_le_mul hw.2 hm0.2 hm0.1 (by omega)⟩
    (have := Nonempty.intro hi3)
    rw [← hmx] at hwm ⊢
    (repeat' (first | refine swp_seq [0, 1, 2, 3, 4, 5, 6, 7, 9, 16, 32, 33, 34, 35] ?_ | refine st2 ?_ | (show CallQ ..; first | refine cQ (fun hcc => (by first | exact cN _)) ?_ | (refine lP ?_; refine lQ (fun hcc m => (by first | exact cN _)) ?_)) | (show XCallQ ..; first | refine xQ (fun hcc => (by first | exact cN _)) ?_ | (refine xlP ?_; refine xlQ (fun hcc m => (by first | exact cN _)) ?_)) | (show Fct ..; refine fctI (fun hf => ?_)) | (show SWp _ _ _ (.cond _ _ _) _ _ _ _; first | refine cB (fun hc => ?_) (fun hc => ?_) | refine cU ?_ ?_)))
    exact DVR
def zO : Int → Option Int := fun _ => some 0
def goM (p : Plan) : Nat → Option (Int × List Int × Int)
  | 0 => some (0, [], p.start)
  | i + 1 => match goM p i with
    | none => none
    | some (s, l, v) => match bestO p i v zO with
      | none => none
      | some (k, c) => some (s + c, l ++ [p.rel.getD k default], aftI p i v (p.rel.getD k default))
def myoR (p : Plan) : Int × List Int × Int := if planB p = false then (0, [], 1) else match goM p p.inf.length with
  | none => (0, [], 12)
  | some (s, l, _) => (s, l, 0)
theorem goM_none {p : Plan} {i : Nat} (h : goM p i = none) : ∀ n, i ≤ n → goM p n = none := by
  intro n
  induction n with
  | zero => intro hi; obtain rfl : i = 0 := by omega
            exact h
  | succ n ih =>
    intro hi
    by_cases e : i = n + 1
    · rw [← e]; exact h
    · rw [goM, ih (by omega)]
theorem goM_next {p : Plan} {i : Nat} {s v : Int} {l : List Int} (h : goM p i = some (s, l, v)) : goM p (i + 1) = match bestO p i v zO with
      | none => none
      | some (k, c) => some (s + c, l ++ [p.rel.getD k default], aftI p i v (p.rel.getD k default)) := by rw [goM, h]
theorem goM_in {p : Plan} (hp : planB p = true) : ∀ i, i ≤ p.inf.length → ∀ {s v : Int} {l : List Int}, goM p i = some (s, l, v) → (0 ≤ s ∧ s ≤ (i : Int) * 4398046511104000) ∧ (p.res ≤ v ∧ v ≤ p.cap) ∧ l.length = i
  | 0, _, s, v, l, h => by
    simp only [goM, Option.some.injEq, Prod.mk.injEq] at h
    obtain ⟨rfl, rfl, rfl⟩ := h
    exact ⟨⟨by omega, by omega⟩, (planB_in hp).2.2.1, rfl⟩
  | i + 1, hi, s, v, l, h => by
    cases h0 : goM p i with
    | none => rw [goM, h0] at h; cases h
    | some a =>
      obtain ⟨s0, l0, v0⟩ := a
      obtain ⟨h1, h2, h3⟩ := goM_in hp i (by omega) h0
      rw [goM_next h0] at h
      cases hb : bestO p i v0 zO with
      | none => rw [hb] at h; cases h
      | some b =>
        obtain ⟨k, c⟩ := b
        rw [hb] at h
        obtain ⟨k1, k2, x, k3, k4⟩ := bestU_some _ hb
        simp only [Option.some.injEq, Prod.mk.injEq] at h
        obtain ⟨rfl, rfl, rfl⟩ := h
        have hx : x = 0 := (Option.some.inj k3).symm
        have hin := planB_in hp
        have hc := (cost_in hp (by omega : i < p.inf.length) (v := v0) (by omega) k1).2.2.2
        exact ⟨⟨by omega, by omega⟩, aft_in hp k2, by simp [h3]⟩
def zeroN (p : Plan) (k : Nat) (v : Int) (i : Nat) : List (Int × Int) := (List.range i).foldl (fun l j => if possB p k v (p.rel.getD j default) then insV l (aftI p k v (p.rel.getD j default)) 0 else l) []
theorem zeroN_next (p : Plan) (k : Nat) (v : Int) (i : Nat) : zeroN p k v (i + 1) = if possB p k v (p.rel.getD i default) then insV (zeroN p k v i) (aftI p k v (p.rel.getD i default)) 0 else zeroN p k v i := by
  unfold zeroN; rw [List.range_succ, List.foldl_append]; rfl
theorem zeroN_zero (p : Plan) (k : Nat) (v : Int) (z : Int) : ∀ i, (zeroN p k v i).lookup z = none ∨ (zeroN p k v i).lookup z = some 0
  | 0 => .inl rfl
  | i + 1 => by
    rw [zeroN_next]
    split
    · rw [insV_look]
      split
      · exact .inr rfl
      · exact zeroN_zero p k v z i
    · exact zeroN_zero p k v z i
theorem zeroN_has {p : Plan} {k : Nat} {v : Int} {j : Nat} (hp : possB p k v (p.rel.getD j default) = true) : ∀ i, j < i → (zeroN p k v i).lookup (aftI p k v (p.rel.getD j default)) = some 0
  | 0, h => by omega
  | i + 1, h => by
    rw [zeroN_next]
    by_cases e : j = i
    · subst e
      rw [if_pos hp, insV_look, if_pos rfl]
    · have ih := zeroN_has hp i (by omega)
      split
      · rw [insV_look]
        split
        · rfl
        · exact ih
      · exact ih
theorem bestI_zero (p : Plan) (k : Nat) (v : Int) : bestI p k v (zeroN p k v p.rel.length) = stO (bestO p k v zO) := by
  rw [bestI_stO]
  congr 1
  exact bestU_congr _ fun i hi hp => zeroN_has hp _ hi
set_option maxRecDepth 20000 in
set_option maxHeartbeats 16000000 in
theorem myopic_f (p : Plan) (m : Nat) (hq : planOk p) : DCalls Try.prog 26 [planD p] (hget []) m (.tup [li (myoR p).1, ints (myoR p).2.1, li (myoR p).2.2]) (hget []) := by
  cases hp : planB p
  · rw [show myoR p = (0, [], 1) by unfold myoR; rw [if_pos hp]]
    have ct := fun m => tank_no p m hq hp
    refine pureC (n := 88) (rs := [.tmp 2, .tmp 3, .tmp 4]) (ts := [3, 22, 29]) Try.func26 rfl (by decide) [] (by (exact SD)) ?_
    (repeat' (first | refine swp_seq [0, 1, 2, 3, 4, 5, 6, 7, 8, 9, 10, 11, 12, 13, 15, 16, 17, 18, 25, 30, 31, 32, 37, 38, 39, 50, 64] ?_ | refine st2 ?_ | (show CallQ ..; first | refine cQ (fun hcc => (by first | exact ct _)) ?_ | (refine lP ?_; refine lQ (fun hcc m => (by first | exact ct _)) ?_)) | (show XCallQ ..; first | refine xQ (fun hcc => (by first | exact ct _)) ?_ | (refine xlP ?_; refine xlQ (fun hcc m => (by first | exact ct _)) ?_)) | (show Fct ..; refine fctI (fun hf => ?_)) | (show SWp _ _ _ (.cond _ _ _) _ _ _ _; first | refine cB (fun hc => ?_) (fun hc => ?_) | refine cU ?_ ?_)))
    exact DVR
  unfold myoR
  rw [if_neg (by rw [hp]; decide)]
  have hin := planB_in hp
  have hil := hin.2.2.2.1
  have ct := fun m => tank_f p m hq hp
  refine pureC (n := 88) (rs := [.tmp 2, .tmp 3, .tmp 4]) (ts := [3, 22, 29]) Try.func26 rfl (by decide) [176] (by (exact SD)) ?_
  (repeat' (first | refine swp_seq [0, 1, 2, 3, 4, 5, 6, 7, 8, 9, 10, 11, 12, 13, 15, 16, 17, 18, 25, 30, 31, 32, 37, 38, 39, 50, 64] ?_ | refine st2 ?_ | (show CallQ ..; first | refine cQ (fun hcc => (by first | exact ct _)) ?_ | (refine lP ?_; refine lQ (fun hcc m => (by first | exact ct _)) ?_)) | (show XCallQ ..; first | refine xQ (fun hcc => (by first | exact ct _)) ?_ | (refine xlP ?_; refine xlQ (fun hcc m => (by first | exact ct _)) ?_)) | (show Fct ..; refine fctI (fun hf => ?_)) | (show SWp _ _ _ (.cond _ _ _) _ _ _ _; first | refine cB (fun hc => ?_) (fun hc => ?_) | refine cU ?_ ?_)))
  (refine sN 9 3 1 ?_)
  refine loop_swp [1, 5, 7, 8, 9, 30, 31] [0, 40, 176] 177 (fun q A H => ∃ (i : Nat) (s v : Int) (l : List Int), i ≤ p.inf.length ∧ q = p.inf.length - i ∧ goM p i = some (s, l, v) ∧ A = [(1, .ptr 0 0), (5, .ptr 40 0), (7, li s), (8, li v), (9, .gl 176), (30, li p.inf.length), (31, li i)] ∧ H = [(0, .blk 26 (planC p)), (40, .blk 90 (tkC p (ints (p.rel.map (floorT p.pen))))), (176, inLt l)]) (by omega) ?_ ?_ ?_
  · rintro q A H ⟨i, s, v, l, h1, h2, h3, rfl, rfl⟩
    exact ⟨by (exact SD), by (exact SD)⟩
  · refine ⟨_, 0, 0, p.start, [], by omega, rfl, rfl, ?_, ?_⟩
    · exact DVR
    · exact DVR
  rintro q A H ⟨i, s, v, l, h1, h2, h3, rfl, rfl⟩
  obtain ⟨hs, hv, hll⟩ := goM_in hp i h1 h3
  have hnx := goM_next h3
  by_cases hi : i < p.inf.length
  · have hi3 : (i : Int) < (p.inf.length : Int) := by omega
    have hvi : 0 ≤ v ∧ v ≤ 1099511627776 := by omega
    (have := Nonempty.intro hi)
    (have := Nonempty.intro hi3)
    (repeat' (first | refine swp_seq [0, 1, 2, 3, 4, 5, 6, 7, 8, 9, 10, 11, 12, 13, 15, 16, 17, 18, 25, 30, 31, 32, 37, 38, 39, 50, 64] ?_ | refine st2 ?_ | (show Fct ..; refine fctI (fun hf => ?_)) | (show SWp _ _ _ (.cond _ _ _) _ _ _ _; first | refine cB (fun hc => ?_) (fun hc => ?_) | refine cU ?_ ?_)))
    refine loop_swp [1, 5, 7, 8, 9, 10, 11, 30, 31, 37, 38] [0, 40, 176, 201] 202 (fun q A H => ∃ r : Nat, r ≤ p.rel.length ∧ q = p.rel.length - r ∧ A = [(1, .ptr 0 0), (5, .ptr 40 0), (7, li s), (8, li v), (9, .gl 176), (10, li i), (11, .mref 201), (30, li p.inf.length), (31, li i), (37, li p.rel.length), (38, li r)] ∧ H = [(0, .blk 26 (planC p)), (40, .blk 90 (tkC p (ints (p.rel.map (floorT p.pen))))), (176, inLt l), (201, .map (intE (zeroN p i v r)))]) (by omega) ?_ ?_ ?_
    · rintro q A H ⟨r, k1, k2, rfl, rfl⟩
      exact ⟨by (exact SD), by (exact SD)⟩
    · refine ⟨_, 0, by omega, rfl, ?_, ?_⟩
      · exact DVR
      · rw [show zeroN p i v 0 = [] from rfl, intE_nil]
        exact DVR
    rintro q A H ⟨r, k1, k2, rfl, rfl⟩
    by_cases hr : r < p.rel.length
    · have hr3 : (r : Int) < (p.rel.length : Int) := by omega
      have hzn := zeroN_next p i v r
      generalize zeroN p i v r = ZN at *
      (have := Nonempty.intro hr)
      (have := Nonempty.intro hr3)
      cases hpo : possB p i v (p.rel.getD r default)
      · have cs := fun m => step_no p i r v m hp hi hr hvi hpo
        rw [hpo, if_neg (by decide)] at hzn
        (repeat' (first | refine swp_seq [0, 1, 2, 3, 4, 5, 6, 7, 8, 9, 10, 11, 12, 13, 15, 16, 17, 18, 25, 30, 31, 32, 37, 38, 39, 50, 64] ?_ | refine st2 ?_ | (show Fct ..; refine fctI (fun hf => ?_)) | (show SWp _ _ _ (.cond _ _ _) _ _ _ _; first | refine cB (fun hc => ?_) (fun hc => ?_) | refine cU ?_ ?_)))
        (refine cQT [40] (fun hcc => (cs _)) ?_)
        (repeat' (first | refine swp_seq [0, 1, 2, 3, 4, 5, 6, 7, 8, 9, 10, 11, 12, 13, 15, 16, 17, 18, 25, 30, 31, 32, 37, 38, 39, 50, 64] ?_ | refine st2 ?_ | (show Fct ..; refine fctI (fun hf => ?_)) | (show SWp _ _ _ (.cond _ _ _) _ _ _ _; first | refine cB (fun hc => ?_) (fun hc => ?_) | refine cU ?_ ?_)))
        rw [← hzn]
        (refine lN [0, 40, 176, 201] ?_)
        exact ⟨_, by omega, r + 1, by omega, rfl, rfl, rfl⟩
      · have cs := fun m => step_yes p i r v m hp hi hr hvi hpo
        rw [hpo, if_pos rfl] at hzn
        (repeat' (first | refine swp_seq [0, 1, 2, 3, 4, 5, 6, 7, 8, 9, 10, 11, 12, 13, 15, 16, 17, 18, 25, 30, 31, 32, 37, 38, 39, 50, 64] ?_ | refine st2 ?_ | (show Fct ..; refine fctI (fun hf => ?_)) | (show SWp _ _ _ (.cond _ _ _) _ _ _ _; first | refine cB (fun hc => ?_) (fun hc => ?_) | refine cU ?_ ?_)))
        (refine cQT [40] (fun hcc => (cs _)) ?_)
        (repeat' (first | refine swp_seq [0, 1, 2, 3, 4, 5, 6, 7, 8, 9, 10, 11, 12, 13, 15, 16, 17, 18, 25, 30, 31, 32, 37, 38, 39, 50, 64] ?_ | refine st2 ?_ | (show Fct ..; refine fctI (fun hf => ?_)) | (show SWp _ _ _ (.cond _ _ _) _ _ _ _; first | refine cB (fun hc => ?_) (fun hc => ?_) | refine cU ?_ ?_)))
        rw [← hzn]
        (refine lN [0, 40, 176, 201] ?_)
        exact ⟨_, by omega, r + 1, by omega, rfl, rfl, rfl⟩
    obtain rfl : r = p.rel.length := by omega
    have hr3 : ¬ (p.rel.length : Int) < (p.rel.length : Int) := by omega
    (have := Nonempty.intro hr3)
    have hbz := bestI_zero p i v
    have cb := fun m => best_f p i v (zeroN p i v p.rel.length) m hp hi hvi (fun z => by
      rw [valI_eq]
      rcases zeroN_zero p i v z p.rel.length with h | h <;> rw [h] <;> exact ⟨by decide, by decide⟩)
    rw [hbz] at cb
    have hfv := intE_fv (zeroN p i v p.rel.length)
    generalize zeroN p i v p.rel.length = ZN at *
    (repeat' (first | (show SWp _ _ _ (.region 17 _ _) _ _ _ _; refine (stop_in ?_)) | refine swp_seq [0, 1, 2, 3, 4, 5, 6, 7, 8, 9, 10, 11, 12, 13, 15, 16, 17, 18, 25, 30, 31, 32, 37, 38, 39, 50, 64] ?_ | (show SWp _ _ _ (.region _ _ true) _ _ _ _; refine xG mixed [] ?_) | refine st2 ?_ | (show CallQ ..; first | refine cQ (fun hcc => (by fail)) ?_ | (refine lP ?_; refine lQ (fun hcc m => (by fail)) ?_)) | (show XCallQ ..; first | refine xQ (fun hcc => (by fail)) ?_ | (refine xlP ?_; refine xlQ (fun hcc m => (by fail)) ?_)) | (show Fct ..; refine fctI (fun hf => ?_)) | (show SWp _ _ _ (.cond _ _ _) _ _ _ _; first | refine cB (fun hc => ?_) (fun hc => ?_) | refine cU ?_ ?_)))
    refine stop_out ?_
    refine sF 201 (v := .map (intE ZN)) (x := .mp (ZN.map fun e => .int .i64 e.1) (ZN.map fun e => .lit (.int .i64 e.2))) ?_ (hx := intE_fv ZN)
    cases hb : bestO p i v zO with
    | none =>
      rw [hb] at cb hnx
      simp only [stO] at cb
      rw [goM_none hnx p.inf.length (by omega)]
      (repeat' (first | refine swp_seq [0, 1, 2, 3, 4, 5, 6, 7, 8, 9, 10, 11, 12, 13, 15, 16, 17, 18, 25, 30, 31, 32, 37, 38, 39, 50, 64] ?_ | refine st2 ?_ | (show Fct ..; refine fctI (fun hf => ?_)) | (show SWp _ _ _ (.cond _ _ _) _ _ _ _; first | refine cB (fun hc => ?_) (fun hc => ?_) | refine cU ?_ ?_)))
      rw [mapE_eq]
      (refine cQT [40] (fun hcc => (cb _)) ?_)
      (repeat' (first | refine swp_seq [0, 1, 2, 3, 4, 5, 6, 7, 8, 9, 10, 11, 12, 13, 15, 16, 17, 18, 25, 30, 31, 32, 37, 38, 39, 50, 64] ?_ | refine st2 ?_ | (show Fct ..; refine fctI (fun hf => ?_)) | (show SWp _ _ _ (.cond _ _ _) _ _ _ _; first | refine cB (fun hc => ?_) (fun hc => ?_) | refine cU ?_ ?_)))
      exact DVR
    | some b =>
      obtain ⟨k, c⟩ := b
      rw [hb] at cb hnx
      simp only [stO] at cb
      have hnx : goM p (i + 1) = some (s + c, l ++ [p.rel.getD k default], aftI p i v (p.rel.getD k default)) := hnx
      obtain ⟨k1, k2, x, k3, k4⟩ := bestU_some _ hb
      have cs := fun m => step_yes p i k v m hp hi k1 hvi k2
      have hcb := (goM_in hp (i + 1) (by omega) hnx).1
      generalize aftI p i v (p.rel.getD k default) = W at *
      generalize costI p i v (p.rel.getD k default) = CO at *
      have hx : x = 0 := (Option.some.inj k3).symm
      (have := Nonempty.intro k1)
      (repeat' (first | refine swp_seq [0, 1, 2, 3, 4, 5, 6, 7, 8, 9, 10, 11, 12, 13, 15, 16, 17, 18, 25, 30, 31, 32, 37, 38, 39, 50, 64] ?_ | refine st2 ?_ | (show Fct ..; refine fctI (fun hf => ?_)) | (show SWp _ _ _ (.cond _ _ _) _ _ _ _; first | refine cB (fun hc => ?_) (fun hc => ?_) | refine cU ?_ ?_)))
      rw [mapE_eq]
      (refine cQT [40] (fun hcc => (cb _)) ?_)
      (repeat' (first | refine swp_seq [0, 1, 2, 3, 4, 5, 6, 7, 8, 9, 10, 11, 12, 13, 15, 16, 17, 18, 25, 30, 31, 32, 37, 38, 39, 50, 64] ?_ | refine st2 ?_ | (show Fct ..; refine fctI (fun hf => ?_)) | (show SWp _ _ _ (.cond _ _ _) _ _ _ _; first | refine cB (fun hc => ?_) (fun hc => ?_) | refine cU ?_ ?_)))
      (refine cQT [40] (fun hcc => (cs _)) ?_)
      (repeat' (first | refine swp_seq [0, 1, 2, 3, 4, 5, 6, 7, 8, 9, 10, 11, 12, 13, 15, 16, 17, 18, 25, 30, 31, 32, 37, 38, 39, 50, 64] ?_ | refine st2 ?_ | (show Fct ..; refine fctI (fun hf => ?_)) | (show SWp _ _ _ (.cond _ _ _) _ _ _ _; first | refine cB (fun hc => ?_) (fun hc => ?_) | refine cU ?_ ?_)))
      (refine lN [0, 40, 176] ?_)
      exact ⟨_, by omega, i + 1, s + c, W, _, by omega, rfl, hnx, rfl, rfl⟩
  obtain rfl : i = p.inf.length := by omega
  have hi3 : ¬ ((p.inf.length : Int) < (p.inf.length : Int)) := by omega
  (have := Nonempty.intro hi3)
  rw [h3]
  (repeat' (first | refine swp_seq [0, 1, 2, 3, 4, 5, 6, 7, 8, 9, 10, 11, 12, 13, 15, 16, 17, 18, 25, 30, 31, 32, 37, 38, 39, 50, 64] ?_ | refine st2 ?_ | (show Fct ..; refine fctI (fun hf => ?_)) | (show SWp _ _ _ (.cond _ _ _) _ _ _ _; first | refine cB (fun hc => ?_) (fun hc => ?_) | refine cU ?_ ?_)))
  exact DVR

end Go.Proofs.Ytedocinehadodaa
