/-
  Contracts of functions of the program, over the engine.
  No condition.
-/
import Derived.Test.YtedocinehadodaaCC0C1
import Derived.Test.YtedocinehadodaaCU4CLU6
namespace Go.Proofs.Ytedocinehadodaa
open Go.Eng
set_option linter.all false
attribute [local irreducible] DCallsG SWp Fct CallQ XCallQ LCallQ XLCallQ drun xrun

def revN (l : List Int) (i : Nat) : List Int := (List.range l.length).map fun k => if k < i ∨ l.length ≤ k + i then l.getD (l.length - 1 - k) default else l.getD k default
theorem revN_len (l : List Int) (i : Nat) : (revN l i).length = l.length := by simp [revN]
theorem revN_get (l : List Int) (i : Nat) {k : Nat} (hk : k < l.length) : (revN l i).getD k default = if k < i ∨ l.length ≤ k + i then l.getD (l.length - 1 - k) default else l.getD k default := by
  unfold revN
  rw [List.getD_eq_getElem?_getD (l := List.map _ _), List.getElem?_map, List.getElem?_range hk]; rfl
theorem list_ext {a b : List Int} (hl : a.length = b.length) (h : ∀ k, k < a.length → a.getD k default = b.getD k default) : a = b := by
  refine List.ext_getElem hl fun k h1 h2 => ?_
  have := h k h1
  rw [List.getD_eq_getElem?_getD, List.getD_eq_getElem?_getD, List.getElem?_eq_getElem h1, List.getElem?_eq_getElem h2] at this
  exact this
theorem revN_zero (l : List Int) : revN l 0 = l := list_ext (revN_len l 0) fun k hk => by
  rw [revN_len] at hk
  rw [revN_get l 0 hk, if_neg (by omega)]
theorem revN_end {l : List Int} {i : Nat} (h : l.length ≤ 2 * i + 1) : revN l i = l.reverse := list_ext (by rw [revN_len, List.length_reverse]) fun k hk => by
  rw [revN_len] at hk
  rw [revN_get l i hk, List.getD_eq_getElem?_getD (l := l.reverse), List.getElem?_reverse hk, ← List.getD_eq_getElem?_getD]
  by_cases h2 : k < i ∨ l.length ≤ k + i
  · rw [if_pos h2]
  · rw [if_neg h2, show l.length - 1 - k = k by omega]
theorem set_get {l : List Int} {i k : Nat} {x : Int} (hi : i < l.length) : (l.set i x).getD k default = if i = k then x else l.getD k default := by
  by_cases e : i = k
  · subst e
    rw [if_pos rfl, List.getD_eq_getElem?_getD, List.getElem?_set_self hi]; rfl
  · rw [if_neg e, List.getD_eq_getElem?_getD, List.getElem?_set_ne e, ← List.getD_eq_getElem?_getD]
theorem revN_next {l : List Int} {i : Nat} (h : 2 * i + 1 < l.length) : ((revN l i).set i ((revN l i).getD (l.length - 1 - i) default)).set (l.length - 1 - i) ((revN l i).getD i default) = revN l (i + 1) := by
  have hl := revN_len l i
  refine list_ext (by rw [List.length_set, List.length_set, revN_len, revN_len]) fun k hk => ?_
  rw [List.length_set, List.length_set, revN_len] at hk
  rw [set_get (by rw [List.length_set]; omega), set_get (by omega), revN_get l (i + 1) hk]
  by_cases h1 : l.length - 1 - i = k
  · rw [if_pos h1, if_pos (by omega), revN_get l i (by omega), if_neg (by omega), ← h1, show l.length - 1 - (l.length - 1 - i) = i by omega]
  rw [if_neg h1]
  by_cases h2 : i = k
  · rw [if_pos h2, if_pos (by omega), revN_get l i (by omega), if_neg (by omega), ← h2]
  rw [if_neg h2, revN_get l i hk]
  by_cases h3 : k < i ∨ l.length ≤ k + i
  · rw [if_pos h3, if_pos (by omega)]
  · rw [if_neg h3, if_neg (by omega)]
set_option maxRecDepth 20000 in
set_option maxHeartbeats 4000000 in
theorem rev_f (l : List Int) (hl : l.length ≤ 1048576) : DCallsG Try.prog 19 [] [.gl 0] (hget [(0, inLt l)]) 1 (.tup []) (hget [(0, inLt l.reverse)]) := by
  refine contract (n := 28) (rs := []) (ts := []) Try.func19 rfl (by decide) 1 1 [] [] [] (.tup []) [(0, inLt l.reverse)] (by (exact SD)) (by (exact SD)) ?_
  (repeat' (first | refine swp_seq [0, 2, 3, 9] ?_ | refine st2 ?_ | (show Fct ..; refine fctI (fun hf => ?_)) | (show SWp _ _ _ (.cond _ _ _) _ _ _ _; first | refine cB (fun hc => ?_) (fun hc => ?_) | refine cU ?_ ?_)))
  refine loop_swp [0, 2, 3] [0] 1 (fun q A H => ∃ i : Nat, 2 * i ≤ l.length + 1 ∧ q = l.length + 1 - i ∧ A = [(0, .gl 0), (2, li i), (3, li ((l.length : Int) - 1 - i))] ∧ H = [(0, inLt (revN l i))]) (by omega) ?_ ?_ ?_
  · rintro q A H ⟨i, h1, h2, rfl, rfl⟩
    exact ⟨by (exact SD), by (exact SD)⟩
  · refine ⟨_, 0, by omega, rfl, ?_, ?_⟩
    · rw [show (l.length : Int) - 1 - ((0 : Nat) : Int) = (l.length : Int) - 1 by omega]
      exact DVR
    · rw [revN_zero]
      exact DVR
  rintro q A H ⟨i, h1, h2, rfl, rfl⟩
  by_cases hi : 2 * i + 1 < l.length
  · have hnx := revN_next hi
    have hln := revN_len l i
    have hj : (l.length : Int) - 1 - i = ((l.length - 1 - i : Nat) : Int) := by omega
    rw [hj]
    have hjl : l.length - 1 - i < l.length := by omega
    have hij : (i : Int) < ((l.length - 1 - i : Nat) : Int) := by omega
    generalize hJ : l.length - 1 - i = J at *
    generalize revN l i = X at *
    have hiX : i < X.length := by omega
    have hjX : J < X.length := by omega
    (have := Nonempty.intro hij)
    (have := Nonempty.intro hiX)
    have hjY : J < (X.set i (X.getD J default)).length := by rw [List.length_set]; exact hjX
    (have := Nonempty.intro hjX)
    (have := Nonempty.intro hjY)
    (repeat' (first | refine swp_seq [0, 2, 3, 9] ?_ | (show SWp _ _ _ (.region _ _ true) _ _ _ _; refine xG mixed [0] ?_) | refine st2 ?_ | (show Fct ..; refine fctI (fun hf => ?_)) | (show SWp _ _ _ (.cond _ _ _) _ _ _ _; first | refine cB (fun hc => ?_) (fun hc => ?_) | refine cU ?_ ?_)))
    rw [hnx]
    (refine lN [0] ?_)
    exact ⟨_, by omega, i + 1, by omega, rfl, by rw [show (l.length : Int) - 1 - ((i + 1 : Nat) : Int) = (J : Int) - 1 by omega]; rfl, rfl⟩
  · have hij : ¬ (i : Int) < (l.length : Int) - 1 - i := by omega
    (have := Nonempty.intro hij)
    rw [revN_end (by omega)]
    (repeat' (first | refine swp_seq [0, 2, 3, 9] ?_ | refine st2 ?_ | (show Fct ..; refine fctI (fun hf => ?_)) | (show SWp _ _ _ (.cond _ _ _) _ _ _ _; first | refine cB (fun hc => ?_) (fun hc => ?_) | refine cU ?_ ?_)))
    exact DVR
def digN (b n k i : Nat) : Nat := k / b ^ (n - 1 - i) % b
theorem dig_tail {b n k i : Nat} (hb : 0 < b) (hi : i < n) : digN b (n + 1) k (i + 1) = digN b n (k % b ^ n) i := by
  unfold digN
  rw [show n + 1 - 1 - (i + 1) = n - 1 - i by omega]
  have e : b ^ n = b ^ (n - 1 - i) * b ^ (i + 1) := by rw [← Nat.pow_add, show n - 1 - i + (i + 1) = n by omega]
  rw [e, Nat.mod_mul_right_div_self, Nat.mod_mod_of_dvd _ (Nat.dvd_of_mod_eq_zero (by rw [Nat.pow_succ]; exact Nat.mul_mod_left _ _))]
theorem dig_head {b n k : Nat} (hk : k < b ^ (n + 1)) : digN b (n + 1) k 0 = k / b ^ n := by
  unfold digN
  rw [show n + 1 - 1 - 0 = n by omega]
  refine Nat.mod_eq_of_lt ?_
  refine Nat.div_lt_of_lt_mul ?_
  rw [Nat.pow_succ] at hk; exact hk
theorem dig_lt {b : Nat} (hb : 0 < b) : ∀ {n k k0 : Nat}, k < k0 → k0 < b ^ n → ∃ i, i < n ∧ (∀ j, j < i → digN b n k j = digN b n k0 j) ∧ digN b n k i < digN b n k0 i
  | 0, k, k0, h, h0 => by rw [Nat.pow_zero] at h0; omega
  | n + 1, k, k0, h, h0 => by
    have hq : k / b ^ n ≤ k0 / b ^ n := Nat.div_le_div_right (by omega)
    by_cases e : k / b ^ n = k0 / b ^ n
    · have hpos : 0 < b ^ n := Nat.pow_pos hb
      have d1 := Nat.div_add_mod k (b ^ n)
      have d2 := Nat.div_add_mod k0 (b ^ n)
      rw [e] at d1
      obtain ⟨i, h1, h2, h3⟩ := dig_lt hb (n := n) (k := k % b ^ n) (k0 := k0 % b ^ n) (by omega) (Nat.mod_lt _ hpos)
      refine ⟨i + 1, by omega, fun j hj => ?_, ?_⟩
      · cases j with
        | zero => rw [dig_head (by omega), dig_head h0, e]
        | succ j => rw [dig_tail hb (by omega), dig_tail hb (by omega)]; exact h2 j (by omega)
      · rw [dig_tail hb h1, dig_tail hb h1]; exact h3
    · exact ⟨0, by omega, fun j hj => by omega, by rw [dig_head (by omega), dig_head h0]; omega⟩
theorem dig_some {b : Nat} (hb : 0 < b) : ∀ (n : Nat) (d : Nat → Nat), (∀ i, i < n → d i < b) → ∃ k, k < b ^ n ∧ ∀ i, i < n → digN b n k i = d i
  | 0, d, _ => ⟨0, by simp, fun i hi => by omega⟩
  | n + 1, d, h => by
    obtain ⟨k, h1, h2⟩ := dig_some hb n (fun i => d (i + 1)) fun i hi => h (i + 1) (by omega)
    have hd := h 0 (by omega)
    have hpos : 0 < b ^ n := Nat.pow_pos hb
    have hlt : d 0 * b ^ n + k < b ^ (n + 1) := by
      have : (d 0 + 1) * b ^ n ≤ b * b ^ n := Nat.mul_le_mul_right _ hd
      rw [Nat.pow_succ, Nat.mul_comm (b ^ n) b]
      rw [Nat.add_mul, Nat.one_mul] at this
      omega
    refine ⟨d 0 * b ^ n + k, hlt, fun i hi => ?_⟩
    cases i with
    | zero => rw [dig_head hlt, Nat.add_comm, Nat.add_mul_div_right _ _ hpos, Nat.div_eq_of_lt h1, Nat.zero_add]
    | succ i =>
      rw [dig_tail hb (by omega), Nat.add_comm, Nat.add_mul_mod_self_right, Nat.mod_eq_of_lt h1]
      exact h2 i (by omega)
def lowN (p : Plan) (k i : Nat) : List Int := (List.range i).map fun j => p.rel.getD (k / p.rel.length ^ j % p.rel.length) default
theorem lowN_next (p : Plan) (k i : Nat) : lowN p k (i + 1) = lowN p k i ++ [p.rel.getD (k / p.rel.length ^ i % p.rel.length) default] := by
  unfold lowN; rw [List.range_succ, List.map_append]; rfl
theorem lowN_len (p : Plan) (k i : Nat) : (lowN p k i).length = i := by simp [lowN]
def schK (p : Plan) (k : Nat) : List Int := (lowN p k p.inf.length).reverse
theorem schK_len (p : Plan) (k : Nat) : (schK p k).length = p.inf.length := by rw [schK, List.length_reverse, lowN_len]
theorem schK_get (p : Plan) (k : Nat) {i : Nat} (hi : i < p.inf.length) : (schK p k).getD i default = p.rel.getD (digN p.rel.length p.inf.length k i) default := by
  unfold schK
  rw [List.getD_eq_getElem?_getD, List.getElem?_reverse (by rw [lowN_len]; exact hi), lowN_len]
  unfold lowN digN
  rw [List.getElem?_map, List.getElem?_range (by omega)]; rfl
theorem schK_sch {p : Plan} (hp : planB p = true) (k : Nat) : schB p (schK p k) := by
  refine ⟨schK_len p k, fun i hi => ?_⟩
  rw [schK_len] at hi
  exact ⟨_, Nat.mod_lt _ (by have := (planB_in hp).2.2.2.2.1; omega), (schK_get p k hi).symm⟩
theorem schK_some {p : Plan} (hp : planB p = true) {rs : List Int} (h : schB p rs) : ∃ k, k < p.rel.length ^ p.inf.length ∧ schK p k = rs := by
  have hr := (planB_in hp).2.2.2.2.1
  have hd : ∃ d : Nat → Nat, ∀ i, i < rs.length → d i < p.rel.length ∧ p.rel.getD (d i) default = rs.getD i default := by
    obtain ⟨_, h2⟩ := h
    refine ⟨fun i => if hi : i < rs.length then (h2 i hi).choose else 0, fun i hi => ?_⟩
    dsimp only
    rw [dif_pos hi]
    exact (h2 i hi).choose_spec
  obtain ⟨d, hd⟩ := hd
  obtain ⟨k, h1, h2⟩ := dig_some (by omega : 0 < p.rel.length) p.inf.length d fun i hi => (hd i (by rw [h.1]; exact hi)).1
  refine ⟨k, h1, list_ext (by rw [schK_len, h.1]) fun i hi => ?_⟩
  rw [schK_len] at hi
  rw [schK_get p k hi, h2 i hi]
  exact (hd i (by rw [h.1]; exact hi)).2
def allS (p : Plan) : Nat → Int × List Int
  | 0 => (-1, [])
  | k + 1 => if (costR p (schK p k)).2.2 = 0 ∧ ((allS p k).1 < 0 ∨ (costR p (schK p k)).1 < (allS p k).1) then ((costR p (schK p k)).1, schK p k) else allS p k
theorem allS_none {p : Plan} (hp : planB p = true) (hv : vO p p.inf.length p.start = none) : ∀ k, allS p k = (-1, [])
  | 0 => rfl
  | k + 1 => by
    have h : costR p (schK p k) = (0, [], 27) := by
      rcases sch_some hp (schK_sch hp k) with ⟨c, v, _, _, x, hx, _⟩ | h
      · rw [hv] at hx; cases hx
      · exact h
    rw [allS, h, if_neg (fun q => by have := q.1; simp at this)]
    exact allS_none hp hv k
theorem allS_some {p : Plan} (hp : planB p = true) {c : Int} (hv : vO p p.inf.length p.start = some c) : allS p (p.rel.length ^ p.inf.length) = (c, (goV p p.inf.length).1) := by
  obtain ⟨k0, h1, h2⟩ := schK_some hp (goV_sch hv)
  have hr := (planB_in hp).2.2.2.2.1
  have hc0 := (vO_in hp p.inf.length (Nat.le_refl _) p.start (planB_in hp).2.2.1 c hv).1
  have hk0 : costR p (schK p k0) = (c, volsC p (schK p k0) p.inf.length, 0) := by
    rw [costR_sch hp (schK_sch hp k0), schK_len, h2, goV_cost hv]
  have hlo : ∀ k, k ≤ k0 → (allS p k).1 = -1 ∨ c < (allS p k).1 := fun k => by
    induction k with
    | zero => intro _; exact .inl rfl
    | succ k ih =>
      intro hk
      have ih := ih (by omega)
      rw [allS]
      rcases sch_some hp (schK_sch hp k) with ⟨d, v, hpv, hcd, x, hx, hxd⟩ | h
      · rw [hv] at hx
        obtain rfl := Option.some.inj hx
        have hne : ¬ d = c := fun e => by
          subst e
          obtain ⟨i, q1, q2, q3⟩ := dig_lt (by omega : 0 < p.rel.length) (show k < k0 by omega) h1
          refine sch_first hp (schK_sch hp k) hpv hv q1 (fun j hj => ?_) ?_
          · rw [← h2, schK_get p k (by omega), schK_get p k0 (by omega), q2 j hj]
          · rw [← h2, schK_get p k q1, schK_get p k0 q1]
            exact rel_asc hp q3 (Nat.mod_lt _ (by omega))
        split
        · rw [hcd]; exact .inr (by show c < d; omega)
        · exact ih
      · rw [h, if_neg (fun q => by have := q.1; simp at this)]; exact ih
  have hhi : ∀ d, allS p (k0 + 1 + d) = (c, (goV p p.inf.length).1) := fun d => by
    induction d with
    | zero =>
      have hq : (c, volsC p (schK p k0) p.inf.length, (0 : Int)).2.2 = 0 ∧ ((allS p k0).1 < 0 ∨ (c, volsC p (schK p k0) p.inf.length, (0 : Int)).1 < (allS p k0).1) := by
        have := hlo k0 (Nat.le_refl _)
        refine ⟨rfl, ?_⟩
        show (allS p k0).1 < 0 ∨ c < (allS p k0).1
        omega
      rw [Nat.add_zero, allS, hk0, if_pos hq, h2]
    | succ d ih =>
      rw [← Nat.add_assoc, allS, ih, if_neg]
      rintro ⟨q1, q2⟩
      rcases sch_some hp (schK_sch hp (k0 + 1 + d)) with ⟨e, v, hpv, hcd, x, hx, hxd⟩ | h
      · rw [hv] at hx
        obtain rfl := Option.some.inj hx
        rw [hcd] at q2
        dsimp only at q2
        omega
      · rw [h] at q1; simp at q1
  have := hhi (p.rel.length ^ p.inf.length - (k0 + 1))
  rwa [show k0 + 1 + (p.rel.length ^ p.inf.length - (k0 + 1)) = p.rel.length ^ p.inf.length by omega] at this
def cntK (b i : Nat) : Nat := b ^ i
theorem cntK_zero (b : Nat) : cntK b 0 = 1 := rfl
theorem cntK_next (b i : Nat) : cntK b (i + 1) = cntK b i * b := by unfold cntK; exact Nat.pow_succ ..
theorem cntK_le {b i : Nat} (hb : 1 ≤ b) (hb3 : b ≤ 3) (hi : i ≤ 5) : 1 ≤ cntK b i ∧ cntK b i ≤ 243 := by
  unfold cntK
  refine ⟨Nat.pow_pos hb, ?_⟩
  have h1 : b ^ i ≤ 3 ^ i := Nat.pow_le_pow_left hb3 i
  have h2 : 3 ^ i ≤ 3 ^ 5 := Nat.pow_le_pow_right (by decide) hi
  have h3 : (3 : Nat) ^ 5 = 243 := by decide
  omega
theorem cntK_int (b i : Nat) : ((cntK b i : Nat) : Int) * (b : Int) = ((cntK b (i + 1) : Nat) : Int) := by rw [cntK_next]; simp
def restK (k b i : Nat) : Nat := k / b ^ i
theorem restK_zero (k b : Nat) : restK k b 0 = k := by simp [restK]
theorem restK_le (k b i : Nat) : restK k b i ≤ k := Nat.div_le_self _ _
theorem restK_div (k b i : Nat) : ((restK k b i : Nat) : Int).tdiv (b : Int) = ((restK k b (i + 1) : Nat) : Int) := by
  rw [Int.tdiv_eq_ediv_of_nonneg (by omega)]
  unfold restK
  rw [Nat.pow_succ, ← Nat.div_div_eq_div_mul]; simp
theorem restK_mod (k b i : Nat) : tmM ((restK k b i : Nat) : Int) b = k / b ^ i % b := by
  unfold tmM restK
  rw [Int.toNat_natCast]
attribute [irreducible] cntK restK
attribute [push_cast] restK_div cntK_int
theorem solR_ln {p : Plan} : (solR p).2.1.length ≤ 200 := by
  unfold solR
  split
  · exact Nat.zero_le _
  next h =>
  split
  · exact Nat.zero_le _
  split
  · exact Nat.zero_le _
  · have := (planB_in (by simpa using h)).2.2.2.1
    rw [goV_len]; exact this
theorem lowN_rest (p : Plan) (k i : Nat) : lowN p k (i + 1) = lowN p k i ++ [p.rel.getD (tmM ((restK k p.rel.length i : Nat) : Int) p.rel.length) default] := by rw [lowN_next, restK_mod]
set_option maxRecDepth 20000 in
set_option maxHeartbeats 40000000 in
theorem pall_f (p : Plan) (m : Nat) (hq : planOk p) : DCalls Try.prog 4 [planD p] (hget []) m (lb true) (hget []) := by
  by_cases h5 : (5 : Int) < (p.inf.length : Int)
  · (have := Nonempty.intro h5)
    refine pureC (n := 138) (rs := [.tmp 2]) (ts := [4]) Try.func4 rfl (by decide) [] (by (exact SD)) ?_
    (repeat' (first | refine swp_seq [0, 1, 2, 3, 4, 5, 6, 7, 8, 9, 10, 11, 12, 14, 16, 32, 46, 57, 58, 59, 67, 68, 69, 74, 75, 76, 114, 119] ?_ | refine st2 ?_ | (show CallQ ..; first | refine cQ (fun hcc => (by first | exact awake45_f _)) ?_ | (refine lP ?_; refine lQ (fun hcc m => (by first | exact awake45_f _)) ?_)) | (show XCallQ ..; first | refine xQ (fun hcc => (by first | exact awake45_f _)) ?_ | (refine xlP ?_; refine xlQ (fun hcc m => (by first | exact awake45_f _)) ?_)) | (show Fct ..; refine fctI (fun hf => ?_)) | (show SWp _ _ _ (.cond _ _ _) _ _ _ _; first | refine cB (fun hc => ?_) (fun hc => ?_) | refine cU ?_ ?_)))
    exact DVR
  by_cases h3 : (3 : Int) < (p.rel.length : Int)
  · (have := Nonempty.intro h5)
    (have := Nonempty.intro h3)
    refine pureC (n := 138) (rs := [.tmp 2]) (ts := [4]) Try.func4 rfl (by decide) [] (by (exact SD)) ?_
    (repeat' (first | refine swp_seq [0, 1, 2, 3, 4, 5, 6, 7, 8, 9, 10, 11, 12, 14, 16, 32, 46, 57, 58, 59, 67, 68, 69, 74, 75, 76, 114, 119] ?_ | refine st2 ?_ | (show CallQ ..; first | refine cQ (fun hcc => (by first | exact awake45_f _)) ?_ | (refine lP ?_; refine lQ (fun hcc m => (by first | exact awake45_f _)) ?_)) | (show XCallQ ..; first | refine xQ (fun hcc => (by first | exact awake45_f _)) ?_ | (refine xlP ?_; refine xlQ (fun hcc m => (by first | exact awake45_f _)) ?_)) | (show Fct ..; refine fctI (fun hf => ?_)) | (show SWp _ _ _ (.cond _ _ _) _ _ _ _; first | refine cB (fun hc => ?_) (fun hc => ?_) | refine cU ?_ ?_)))
    exact DVR
  by_cases h30 : (30 : Int) < (p.pen.length : Int)
  · (have := Nonempty.intro h5)
    (have := Nonempty.intro h3)
    (have := Nonempty.intro h30)
    refine pureC (n := 138) (rs := [.tmp 2]) (ts := [4]) Try.func4 rfl (by decide) [] (by (exact SD)) ?_
    (repeat' (first | refine swp_seq [0, 1, 2, 3, 4, 5, 6, 7, 8, 9, 10, 11, 12, 14, 16, 32, 46, 57, 58, 59, 67, 68, 69, 74, 75, 76, 114, 119] ?_ | refine st2 ?_ | (show CallQ ..; first | refine cQ (fun hcc => (by first | exact awake45_f _)) ?_ | (refine lP ?_; refine lQ (fun hcc m => (by first | exact awake45_f _)) ?_)) | (show XCallQ ..; first | refine xQ (fun hcc => (by first | exact awake45_f _)) ?_ | (refine xlP ?_; refine xlQ (fun hcc m => (by first | exact awake45_f _)) ?_)) | (show Fct ..; refine fctI (fun hf => ?_)) | (show SWp _ _ _ (.cond _ _ _) _ _ _ _; first | refine cB (fun hc => ?_) (fun hc => ?_) | refine cU ?_ ?_)))
    exact DVR
  (have := Nonempty.intro h5)
  (have := Nonempty.intro h3)
  (have := Nonempty.intro h30)
  have c1 := fun m => solve_f p m hq
  have cp := fun m => pValid_f p m hq
  cases hp : planB p <;> simp only [hp] at cp
  · rw [show solR p = (0, [], 1) by unfold solR; rw [if_pos hp]] at c1
    refine pureC (n := 138) (rs := [.tmp 2]) (ts := [4]) Try.func4 rfl (by decide) [] (by (exact SD)) ?_
    (repeat' (first | refine swp_seq [0, 1, 2, 3, 4, 5, 6, 7, 8, 9, 10, 11, 12, 14, 16, 32, 46, 57, 58, 59, 67, 68, 69, 74, 75, 76, 114, 119] ?_ | refine st2 ?_ | (show CallQ ..; first | refine cQ (fun hcc => (by first | exact awake45_f _ | exact c1 _ | exact cp _)) ?_ | (refine lP ?_; refine lQ (fun hcc m => (by first | exact awake45_f _ | exact c1 _ | exact cp _)) ?_)) | (show XCallQ ..; first | refine xQ (fun hcc => (by first | exact awake45_f _ | exact c1 _ | exact cp _)) ?_ | (refine xlP ?_; refine xlQ (fun hcc m => (by first | exact awake45_f _ | exact c1 _ | exact cp _)) ?_)) | (show Fct ..; refine fctI (fun hf => ?_)) | (show SWp _ _ _ (.cond _ _ _) _ _ _ _; first | refine cB (fun hc => ?_) (fun hc => ?_) | refine cU ?_ ?_)))
    exact DVR
  have hin := planB_in hp
  have hrl := hin.2.2.2.2.1
  have hfw : fewS p = true := by
    unfold fewS
    simp only [Bool.and_eq_true, Bool.or_eq_true, decide_eq_true_eq]
    omega
  have hso := solR_few hfw hp
  have hr0 : ¬ (p.rel.length : Int) = 0 := by omega
  (have := Nonempty.intro hr0)
  have han := allS_none hp
  have has := fun c => @allS_some p hp c
  have hsl := @solR_ln p
  generalize solR p = R at *
  obtain ⟨c, l, e⟩ := R
  have hcs : (e = 12 ∧ c = 0 ∧ l = [] ∧ vO p p.inf.length p.start = none) ∨ (e = 0 ∧ vO p p.inf.length p.start = some c ∧ l = (goV p p.inf.length).1) := by
    cases hv : vO p p.inf.length p.start with
    | none =>
      rw [hv] at hso
      simp only [Prod.mk.injEq] at hso
      exact .inl ⟨hso.2.2, hso.1, hso.2.1, rfl⟩
    | some x =>
      rw [hv] at hso
      simp only [Prod.mk.injEq] at hso
      exact .inr ⟨hso.2.2, by rw [hso.1], hso.2.1⟩
  clear hso
  have he1 : ¬ e = 1 := by rcases hcs with h | h <;> omega
  (have := Nonempty.intro he1)
  refine pureC (n := 138) (rs := [.tmp 2]) (ts := [4]) Try.func4 rfl (by decide) [] (by (exact SD)) ?_
  (repeat' (first | refine swp_seq [0, 1, 2, 3, 4, 5, 6, 7, 8, 9, 10, 11, 12, 14, 16, 32, 46, 57, 58, 59, 67, 68, 69, 74, 75, 76, 114, 119] ?_ | refine st2 ?_ | (show CallQ ..; first | refine cQ (fun hcc => (by first | exact awake45_f _ | exact c1 _)) ?_ | (refine lP ?_; refine lQ (fun hcc m => (by first | exact awake45_f _ | exact c1 _)) ?_)) | (show XCallQ ..; first | refine xQ (fun hcc => (by first | exact awake45_f _ | exact c1 _)) ?_ | (refine xlP ?_; refine xlQ (fun hcc m => (by first | exact awake45_f _ | exact c1 _)) ?_)) | (show Fct ..; refine fctI (fun hf => ?_)) | (show SWp _ _ _ (.cond _ _ _) _ _ _ _; first | refine cB (fun hc => ?_) (fun hc => ?_) | refine cU ?_ ?_)))
  refine loop_swp [1, 3, 4, 5, 6, 57, 58] [0] 1 (fun q A H => ∃ i : Nat, i ≤ p.inf.length ∧ q = p.inf.length - i ∧ A = [(1, .ptr 0 0), (3, li c), (4, ints l), (5, li e), (6, li ((cntK p.rel.length i : Nat) : Int)), (57, li p.inf.length), (58, li i)] ∧ H = [(0, .blk 26 (planC p))]) (by omega) ?_ ?_ ?_
  · rintro q A H ⟨i, h1, h2, rfl, rfl⟩
    exact ⟨by (exact SD), by (exact SD)⟩
  · refine ⟨_, 0, by omega, rfl, ?_, ?_⟩
    · rw [cntK_zero]
      exact DVR
    · exact DVR
  rintro q A H ⟨i, h1, h2, rfl, rfl⟩
  by_cases hi : i < p.inf.length
  · have hi3 : (i : Int) < (p.inf.length : Int) := by omega
    have hk1 := cntK_le hrl.1 (by omega) (show i + 1 ≤ 5 by omega)
    (have := Nonempty.intro hi3)
    (repeat' (first | refine swp_seq [0, 1, 2, 3, 4, 5, 6, 7, 8, 9, 10, 11, 12, 14, 16, 32, 46, 57, 58, 59, 67, 68, 69, 74, 75, 76, 114, 119] ?_ | refine st2 ?_ | (show Fct ..; refine fctI (fun hf => ?_)) | (show SWp _ _ _ (.cond _ _ _) _ _ _ _; first | refine cB (fun hc => ?_) (fun hc => ?_) | refine cU ?_ ?_)))
    (refine lN [0] ?_)
    exact ⟨_, by omega, i + 1, by omega, rfl, rfl, rfl⟩
  obtain rfl : i = p.inf.length := by omega
  have hi3 : ¬ (p.inf.length : Int) < (p.inf.length : Int) := by omega
  (have := Nonempty.intro hi3)
  have hk1 := cntK_le hrl.1 (by omega) (show p.inf.length ≤ 5 by omega)
  have hkp : cntK p.rel.length p.inf.length = p.rel.length ^ p.inf.length := by unfold cntK; rfl
  generalize hKN : cntK p.rel.length p.inf.length = KN at *
  (repeat' (first | (show SWp _ _ _ (.region 14 _ _) _ _ _ _; refine (stop_in ?_)) | refine swp_seq [0, 1, 2, 3, 4, 5, 6, 7, 8, 9, 10, 11, 12, 14, 16, 32, 46, 57, 58, 59, 67, 68, 69, 74, 75, 76, 114, 119] ?_ | (show SWp _ _ _ (.region _ _ true) _ _ _ _; refine xG mixed [] ?_) | refine st2 ?_ | (show CallQ ..; first | refine cQ (fun hcc => (by fail)) ?_ | (refine lP ?_; refine lQ (fun hcc m => (by fail)) ?_)) | (show XCallQ ..; first | refine xQ (fun hcc => (by fail)) ?_ | (refine xlP ?_; refine xlQ (fun hcc m => (by fail)) ?_)) | (show Fct ..; refine fctI (fun hf => ?_)) | (show SWp _ _ _ (.cond _ _ _) _ _ _ _; first | refine cB (fun hc => ?_) (fun hc => ?_) | refine cU ?_ ?_)))
  refine stop_out ?_
  (refine sF 9 ?_)
  (repeat' (first | refine swp_seq [0, 1, 2, 3, 4, 5, 6, 7, 8, 9, 10, 11, 12, 14, 16, 32, 46, 57, 58, 59, 67, 68, 69, 74, 75, 76, 114, 119] ?_ | refine st2 ?_ | (show Fct ..; refine fctI (fun hf => ?_)) | (show SWp _ _ _ (.cond _ _ _) _ _ _ _; first | refine cB (fun hc => ?_) (fun hc => ?_) | refine cU ?_ ?_)))
  refine loop_swp [1, 3, 4, 5, 7, 8, 67, 68] [0] 1 (fun q A H => ∃ k : Nat, k ≤ KN ∧ q = KN - k ∧ A = [(1, .ptr 0 0), (3, li c), (4, ints l), (5, li e), (7, li (allS p k).1), (8, ints (allS p k).2), (67, li KN), (68, li k)] ∧ H = [(0, .blk 26 (planC p))]) (by omega) ?_ ?_ ?_
  · rintro q A H ⟨k, h1, h2, rfl, rfl⟩
    exact ⟨by (exact SD), by (exact SD)⟩
  · refine ⟨_, 0, by omega, rfl, ?_, ?_⟩
    · exact DVR
    · exact DVR
  rintro q A H ⟨k, h1, h2, rfl, rfl⟩
  by_cases hk : k < KN
  · have hk3 : (k : Int) < (KN : Int) := by omega
    have hst : allS p (k + 1) = if (costR p (schK p k)).2.2 = 0 ∧ ((allS p k).1 < 0 ∨ (costR p (schK p k)).1 < (allS p k).1) then ((costR p (schK p k)).1, schK p k) else allS p k := rfl
    have hsl2 := schK_len p k
    have cg := fun m => cost_f p (schK p k) m hq (by omega)
    (have := Nonempty.intro hk3)
    (repeat' (first | refine swp_seq [0, 1, 2, 3, 4, 5, 6, 7, 8, 9, 10, 11, 12, 14, 16, 32, 46, 57, 58, 59, 67, 68, 69, 74, 75, 76, 114, 119] ?_ | refine st2 ?_ | (show Fct ..; refine fctI (fun hf => ?_)) | (show SWp _ _ _ (.cond _ _ _) _ _ _ _; first | refine cB (fun hc => ?_) (fun hc => ?_) | refine cU ?_ ?_)))
    (refine sN 10 3 1 ?_)
    refine loop_swp [1, 3, 4, 5, 7, 8, 10, 11, 67, 68, 74, 75] [0, 81] 82 (fun q A H => ∃ i : Nat, i ≤ p.inf.length ∧ q = p.inf.length - i ∧ A = [(1, .ptr 0 0), (3, li c), (4, ints l), (5, li e), (7, li (allS p k).1), (8, ints (allS p k).2), (10, .gl 81), (11, li ((restK k p.rel.length i : Nat) : Int)), (67, li KN), (68, li k), (74, li p.inf.length), (75, li i)] ∧ H = [(0, .blk 26 (planC p)), (81, inLt (lowN p k i))]) (by omega) ?_ ?_ ?_
    · rintro q A H ⟨i, g1, g2, rfl, rfl⟩
      exact ⟨by (exact SD), by (exact SD)⟩
    · refine ⟨_, 0, by omega, rfl, ?_, ?_⟩
      · rw [restK_zero]
        exact DVR
      · exact DVR
    rintro q A H ⟨i, g1, g2, rfl, rfl⟩
    by_cases hi : i < p.inf.length
    · have hi4 : (i : Int) < (p.inf.length : Int) := by omega
      have hnx := lowN_rest p k i
      have hll := lowN_len p k i
      have hrk := restK_le k p.rel.length i
      have hrk1 := restK_le k p.rel.length (i + 1)
      have hnn : (0 : Int) ≤ ((restK k p.rel.length i : Nat) : Int) := by omega
      have htm : tmM ((restK k p.rel.length i : Nat) : Int) p.rel.length < p.rel.length := Nat.mod_lt _ (by omega)
      have hdv := restK_div k p.rel.length i
      generalize lowN p k i = LW at *
      (have := Nonempty.intro hi)
      (have := Nonempty.intro hi4)
      (have := Nonempty.intro hnn)
      (have := Nonempty.intro htm)
      (repeat' (first | refine swp_seq [0, 1, 2, 3, 4, 5, 6, 7, 8, 9, 10, 11, 12, 14, 16, 32, 46, 57, 58, 59, 67, 68, 69, 74, 75, 76, 114, 119] ?_ | (show SWp _ _ _ (.region _ _ true) _ _ _ _; refine xG mixed [81] ?_) | refine st2 ?_ | (show Fct ..; refine fctI (fun hf => ?_)) | (show SWp _ _ _ (.cond _ _ _) _ _ _ _; first | refine cB (fun hc => ?_) (fun hc => ?_) | refine cU ?_ ?_)))
      rw [← hnx]
      (refine lR 178 81 [0, 178] ?_)
      exact ⟨_, by omega, i + 1, by omega, rfl, rfl, rfl⟩
    obtain rfl : i = p.inf.length := by omega
    have hi4 : ¬ (p.inf.length : Int) < (p.inf.length : Int) := by omega
    have hll := lowN_len p k p.inf.length
    have crv := rev_f (lowN p k p.inf.length) (by omega)
    rw [show (lowN p k p.inf.length).reverse = schK p k from rfl] at crv
    (have := Nonempty.intro hi4)
    generalize lowN p k p.inf.length = LW at *
    (repeat' (first | refine swp_seq [0, 1, 2, 3, 4, 5, 6, 7, 8, 9, 10, 11, 12, 14, 16, 32, 46, 57, 58, 59, 67, 68, 69, 74, 75, 76, 114, 119] ?_ | refine st2 ?_ | (show Fct ..; refine fctI (fun hf => ?_)) | (show SWp _ _ _ (.cond _ _ _) _ _ _ _; first | refine cB (fun hc => ?_) (fun hc => ?_) | refine cU ?_ ?_)))
    (refine cQT [81] (fun hcc => crv) ?_)
    (repeat' (first | (show SWp _ _ _ (.region 25 _ _) _ _ _ _; refine (stop_in ?_)) | refine swp_seq [0, 1, 2, 3, 4, 5, 6, 7, 8, 9, 10, 11, 12, 14, 16, 32, 46, 57, 58, 59, 67, 68, 69, 74, 75, 76, 114, 119] ?_ | (show SWp _ _ _ (.region _ _ true) _ _ _ _; refine xG mixed [] ?_) | refine st2 ?_ | (show CallQ ..; first | refine cQ (fun hcc => (by fail)) ?_ | (refine lP ?_; refine lQ (fun hcc m => (by fail)) ?_)) | (show XCallQ ..; first | refine xQ (fun hcc => (by fail)) ?_ | (refine xlP ?_; refine xlQ (fun hcc m => (by fail)) ?_)) | (show Fct ..; refine fctI (fun hf => ?_)) | (show SWp _ _ _ (.cond _ _ _) _ _ _ _; first | refine cB (fun hc => ?_) (fun hc => ?_) | refine cU ?_ ?_)))
    refine stop_out ?_
    (refine sF 81 ?_)
    generalize schK p k = SK at *
    generalize costR p SK = CR at *
    generalize allS p k = AS at *
    obtain ⟨d, vs, f⟩ := CR
    obtain ⟨b, F⟩ := AS
    dsimp only at hst
    by_cases hf : f = 0
    · (have := Nonempty.intro hf)
      by_cases hb : b < 0
      · (have := Nonempty.intro hb)
        rw [if_pos ⟨hf, .inl hb⟩] at hst
        (repeat' (first | refine swp_seq [0, 1, 2, 3, 4, 5, 6, 7, 8, 9, 10, 11, 12, 14, 16, 32, 46, 57, 58, 59, 67, 68, 69, 74, 75, 76, 114, 119] ?_ | refine st2 ?_ | (show CallQ ..; first | refine cQ (fun hcc => (by first | exact cg _)) ?_ | (refine lP ?_; refine lQ (fun hcc m => (by first | exact cg _)) ?_)) | (show XCallQ ..; first | refine xQ (fun hcc => (by first | exact cg _)) ?_ | (refine xlP ?_; refine xlQ (fun hcc m => (by first | exact cg _)) ?_)) | (show Fct ..; refine fctI (fun hf => ?_)) | (show SWp _ _ _ (.cond _ _ _) _ _ _ _; first | refine cB (fun hc => ?_) (fun hc => ?_) | refine cU ?_ ?_)))
        (refine lN [0] ?_)
        exact ⟨_, by omega, k + 1, by omega, rfl, by rw [hst]; rfl, rfl⟩
      (have := Nonempty.intro hb)
      by_cases hdb : d < b
      · (have := Nonempty.intro hdb)
        rw [if_pos ⟨hf, .inr hdb⟩] at hst
        (repeat' (first | refine swp_seq [0, 1, 2, 3, 4, 5, 6, 7, 8, 9, 10, 11, 12, 14, 16, 32, 46, 57, 58, 59, 67, 68, 69, 74, 75, 76, 114, 119] ?_ | refine st2 ?_ | (show CallQ ..; first | refine cQ (fun hcc => (by first | exact cg _)) ?_ | (refine lP ?_; refine lQ (fun hcc m => (by first | exact cg _)) ?_)) | (show XCallQ ..; first | refine xQ (fun hcc => (by first | exact cg _)) ?_ | (refine xlP ?_; refine xlQ (fun hcc m => (by first | exact cg _)) ?_)) | (show Fct ..; refine fctI (fun hf => ?_)) | (show SWp _ _ _ (.cond _ _ _) _ _ _ _; first | refine cB (fun hc => ?_) (fun hc => ?_) | refine cU ?_ ?_)))
        (refine lN [0] ?_)
        exact ⟨_, by omega, k + 1, by omega, rfl, by rw [hst]; rfl, rfl⟩
      · (have := Nonempty.intro hdb)
        rw [if_neg (fun q => q.2.elim hb hdb)] at hst
        (repeat' (first | refine swp_seq [0, 1, 2, 3, 4, 5, 6, 7, 8, 9, 10, 11, 12, 14, 16, 32, 46, 57, 58, 59, 67, 68, 69, 74, 75, 76, 114, 119] ?_ | refine st2 ?_ | (show CallQ ..; first | refine cQ (fun hcc => (by first | exact cg _)) ?_ | (refine lP ?_; refine lQ (fun hcc m => (by first | exact cg _)) ?_)) | (show XCallQ ..; first | refine xQ (fun hcc => (by first | exact cg _)) ?_ | (refine xlP ?_; refine xlQ (fun hcc m => (by first | exact cg _)) ?_)) | (show Fct ..; refine fctI (fun hf => ?_)) | (show SWp _ _ _ (.cond _ _ _) _ _ _ _; first | refine cB (fun hc => ?_) (fun hc => ?_) | refine cU ?_ ?_)))
        (refine lN [0] ?_)
        exact ⟨_, by omega, k + 1, by omega, rfl, by rw [hst]; rfl, rfl⟩
    · (have := Nonempty.intro hf)
      rw [if_neg (fun q => hf q.1)] at hst
      (repeat' (first | refine swp_seq [0, 1, 2, 3, 4, 5, 6, 7, 8, 9, 10, 11, 12, 14, 16, 32, 46, 57, 58, 59, 67, 68, 69, 74, 75, 76, 114, 119] ?_ | refine st2 ?_ | (show CallQ ..; first | refine cQ (fun hcc => (by first | exact cg _)) ?_ | (refine lP ?_; refine lQ (fun hcc m => (by first | exact cg _)) ?_)) | (show XCallQ ..; first | refine xQ (fun hcc => (by first | exact cg _)) ?_ | (refine xlP ?_; refine xlQ (fun hcc m => (by first | exact cg _)) ?_)) | (show Fct ..; refine fctI (fun hf => ?_)) | (show SWp _ _ _ (.cond _ _ _) _ _ _ _; first | refine cB (fun hc => ?_) (fun hc => ?_) | refine cU ?_ ?_)))
      (refine lN [0] ?_)
      exact ⟨_, by omega, k + 1, by omega, rfl, by rw [hst]; rfl, rfl⟩
  obtain rfl : k = KN := by omega
  have hk3 : ¬ (k : Int) < (k : Int) := by omega
  (have := Nonempty.intro hk3)
  rcases hcs with ⟨rfl, rfl, rfl, hv⟩ | ⟨rfl, hv, hl⟩
  · rw [han hv k]
    (repeat' (first | refine swp_seq [0, 1, 2, 3, 4, 5, 6, 7, 8, 9, 10, 11, 12, 14, 16, 32, 46, 57, 58, 59, 67, 68, 69, 74, 75, 76, 114, 119] ?_ | refine st2 ?_ | (show Fct ..; refine fctI (fun hf => ?_)) | (show SWp _ _ _ (.cond _ _ _) _ _ _ _; first | refine cB (fun hc => ?_) (fun hc => ?_) | refine cU ?_ ?_)))
    exact DVR
  · have hc0 := (vO_in hp p.inf.length (Nat.le_refl _) p.start hin.2.2.1 c hv).1
    have hcn : ¬ c < 0 := by omega
    have hcc0 : c = c := rfl
    have heq := fun m => eqlInt_f l l m (by dsimp only at hsl; omega) (by dsimp only at hsl; omega)
    rw [decide_eq_true rfl] at heq
    have hask : allS p k = (c, l) := by rw [hkp, has c hv, ← hl]
    rw [hask]
    (have := Nonempty.intro hcn)
    (have := Nonempty.intro hcc0)
    (repeat' (first | refine swp_seq [0, 1, 2, 3, 4, 5, 6, 7, 8, 9, 10, 11, 12, 14, 16, 32, 46, 57, 58, 59, 67, 68, 69, 74, 75, 76, 114, 119] ?_ | refine st2 ?_ | (show CallQ ..; first | refine cQ (fun hcc => (by first | exact heq _)) ?_ | (refine lP ?_; refine lQ (fun hcc m => (by first | exact heq _)) ?_)) | (show XCallQ ..; first | refine xQ (fun hcc => (by first | exact heq _)) ?_ | (refine xlP ?_; refine xlQ (fun hcc m => (by first | exact heq _)) ?_)) | (show Fct ..; refine fctI (fun hf => ?_)) | (show SWp _ _ _ (.cond _ _ _) _ _ _ _; first | refine cB (fun hc => ?_) (fun hc => ?_) | refine cU ?_ ?_)))
    exact DVR

end Go.Proofs.Ytedocinehadodaa
