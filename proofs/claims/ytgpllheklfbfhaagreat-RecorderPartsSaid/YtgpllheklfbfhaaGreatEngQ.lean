/-
  A part of the engine that reckons calls at the level of data.
  No condition.
-/

import Derived.Test.YtgpllheklfbfhaaGreatEngP
namespace Go.Eng
set_option linter.all false
open Go.RowKit
section
variable [Dfr]
variable {P : Program} {N pin nx : Nat}
theorem dop_local {nid : Nat} {o : Op} {ρ : Operand -> DV} {h h' : Nat -> Option HV} (hl : ∀ i, i ∈ opIds o ρ -> h' i = h i) : dop P nid pin o ρ h' = dop P nid pin o ρ h := by
  have hm : ∀ (x : DV), (∀ i, i ∈ mids x -> h' i = h i) -> (∀ T, dload T x h' = dload T x h) /\ (∀ T y, dstore T x y h' = dstore T x y h) /\ (∀ n i, dindexAddr n x i h' = dindexAddr n x i h) /\ dlen x h' = dlen x h /\ (∀ n, srcD n x h' = srcD n x h) /\ mapOf x h' = mapOf x h := fun x hx => by
    cases x with
    | ptr id off => have e := hx id (by simp [mids]); exact ⟨fun T => by simp only [dload, e], fun T y => by simp only [dstore, e], fun _ _ => rfl, rfl, fun _ => rfl, rfl⟩
    | eptr id n i j => have e := hx id (by simp [mids]); exact ⟨fun T => by simp only [dload, e], fun T y => by simp only [dstore, e], fun _ _ => rfl, rfl, fun _ => rfl, rfl⟩
    | gl id => have e := hx id (by simp [mids]); exact ⟨fun _ => rfl, fun T y => rfl, fun n i => by simp only [dindexAddr, e], by simp only [dlen, e], fun n => by simp only [srcD, e], rfl⟩
    | mref id => have e := hx id (by simp [mids]); exact ⟨fun _ => rfl, fun T y => rfl, fun n i => rfl, rfl, fun n => rfl, by simp only [mapOf, e]⟩
    | p x => cases x <;> exact ⟨fun _ => rfl, fun _ _ => rfl, fun _ _ => rfl, (by unfold dlen; split <;> first | rfl | contradiction), fun n => (by unfold srcD; split <;> first | rfl | contradiction), (by unfold mapOf; split <;> first | rfl | contradiction)⟩
    | _ => exact ⟨fun _ => rfl, fun _ _ => rfl, fun _ _ => rfl, rfl, fun _ => rfl, rfl⟩
  cases o with
  | load t x => simp only [dop]; simp only [(hm _ hl).1]
  | store t x y => simp only [dop]; simp only [(hm _ hl).2.1]
  | indexAddr t x i => simp only [dop]; simp only [(hm _ hl).2.2.1]
  | call c =>
    obtain ⟨callee, args, ts⟩ := c;cases callee with
    | builtin b =>
      have hall : ∀ x, x ∈ args.toList -> ∀ i, i ∈ mids (ρ x).un -> h' i = h i := fun x hx i hi => hl i (by
        simp only [opIds, Op.operands, Call.operands];exact List.mem_flatMap.2 ⟨x, by simpa using hx, hi⟩)
      cases b with
      | len =>
        simp only [dop];split
        · next x t e1 e2 =>
          have := (hm _ (hall x (by rw [e1]; simp))).2.2.2.1;have h2 := (hm _ (hall x (by rw [e1]; simp))).2.2.2.2.2;have h3 : dmaplen (ρ x).un h' = dmaplen (ρ x).un h := by unfold dmaplen; rw [h2]
          simp only [this, h3]
        · rfl
      | append =>
        simp only [dop];split
        · next s x t u e1 e2 =>
          have q1 := (hm _ (hall x (by rw [e1]; simp))).2.2.2.2.1;have q2 := hall s (by rw [e1]; simp);have : ∀ T e, dappend T e nid pin (ρ s).un (ρ x).un h' = dappend T e nid pin (ρ s).un (ρ x).un h := fun T e => by
            unfold dappend;rw [q1];cases hs : glId (ρ s).un with
            | none => rfl
            | some id =>
              have := q2 id (by rw [glId_spec hs]; simp [mids]);simp only [this]
          simp only [this]
        · rfl
      | _ => rfl
    | _ => rfl
  | makeFunc fn first caps => cases fn <;> rfl
  | makeMap t r => cases r <;> rfl
  | lookup t x k ok =>
    have h1 := (hm (ρ x).un fun i hi => hl i (by simp only [opIds, Op.operands]; simp [hi])).2.2.2.2.2;simp only [dop, dlookup, h1]
  | mapUpdate t x k v =>
    have h1 : ∀ i, i ∈ mids (ρ x).un -> h' i = h i := fun i hi => hl i (by simp only [opIds, Op.operands]; simp [hi])
    have h2 : ∀ kt, dmapset P kt (ρ x).un (ρ k).un (ρ v).un h' = dmapset P kt (ρ x).un (ρ k).un (ρ v).un h := fun kt => by
      unfold dmapset;cases hx : (ρ x).un with
      | mref id => have := h1 id (by simp [hx, mids]); simp only [this]
      | _ => rfl
    simp only [dop, h2]
  | insert t x k v =>
    have h1 : ∀ i, i ∈ mids (ρ x).un -> h' i = h i := fun i hi => hl i (by simp only [opIds, Op.operands]; simp [hi])
    have h2 : ∀ kt, dmapset P kt (ρ x).un (ρ k).un (ρ v).un h' = dmapset P kt (ρ x).un (ρ k).un (ρ v).un h := fun kt => by
      unfold dmapset;cases hx : (ρ x).un with
      | mref id => have := h1 id (by simp [hx, mids]); simp only [this]
      | _ => rfl
    simp only [dop, h2]
  | slice t x lo hi mx => cases mx <;> rfl
  | _ => rfl
theorem opIds_congr {o : Op} {ρ ρ' : Operand -> DV} (hr : ∀ x, x ∈ o.operands.toList -> ρ x = ρ' x) : opIds o ρ = opIds o ρ' := by
  cases o with
  | load t x => simp only [opIds]; rw [hr x (by simp [Op.operands])]
  | store t x y => simp only [opIds]; rw [hr x (by simp [Op.operands])]
  | indexAddr t x i => simp only [opIds]; rw [hr x (by simp [Op.operands])]
  | _ =>
    first
      | rfl
      | (simp only [opIds, List.flatMap]
         congr 1
         exact List.map_congr_left fun x hx => by rw [hr x hx])
def ActR (P : Program) (N pin nx : Nat) (ops : Array Oper) (j : Nat) (o : Oper) (f : Nat -> DV) (c : Bool) (d : DV) (need : LH) (p : Pat) : Prop :=
  guardD ops o f = some c /\ dstOk N o.dst = true /\ (c = true -> oksD f o.op = true) /\
  ((∃ g args C hs', callOf P o.op (ev f) = some (g, args) /\ effB o.op = true /\ (∀ i, i ∈ C -> pin <= i) /\ (∀ i, i ∈ C -> (hget need i).isSome = true) /\ keysIn need (nx + 8 * j) hs' /\
      (c = true -> DCallsG P g C args (hget need) (nx + 8 * j) d (hget hs')) /\ p = fun i => if c = true /\ ((hget need i).isSome = true ∨ (nx + 8 * j <= i /\ i < nx + 8 * j + 8)) then some (hget hs' i) else none) ∨
   (callOf P o.op (ev f) = none /\ ∃ out, dop P (nx + 8 * j) pin o.op (ev f) (hget need) = some out /\ d = dx (nx + 8 * j) out.e out.d /\ (c = true -> out.pre) /\
      (∀ i, i ∈ opIds o.op (ev f) -> (hget need i).isSome = true) /\ p = effPat (nx + 8 * j) (effC c out.e)))
def hotP (ops : Array Oper) (nx : Nat) (V : List Nat) (i : Nat) : Prop := i ∈ V ∨ ∃ k, eff ops k = true /\ W8 (nx + 8 * k) i
def exV (V : List Nat) (k i : Nat) : Bool := V.contains (1000000 * (k + 2) + i)
def FP (ops : Array Oper) (M : List Nat) (nx : Nat) (V : List Nat) (j : Nat) (need : LH) (p : Pat) : Prop :=
  (∀ i, p i ≠ none -> (effT ops V j = true /\ hotP ops nx V i /\ exV V j i = false) ∨ W8 (nx + 8 * j) i) /\
  (eff ops j = false -> ∀ k, effT ops V k = true -> k ≠ j -> bef M k j = false -> bef M j k = false -> ∀ i, (hget need i).isSome = true -> ¬ (hotP ops nx V i /\ exV V k i = false)) /\
  (∀ i, ((hget need i).isSome = true ∨ p i ≠ none) -> i < nx ∨ ∃ k, W8 (nx + 8 * k) i /\ (k = j ∨ bef M k j = true))
theorem W8_eq {nx i j x : Nat} (h1 : W8 (nx + 8 * i) x) (h2 : W8 (nx + 8 * j) x) : i = j := by unfold W8 at *; omega
theorem FP.meet {ops : Array Oper} {M : List Nat} {V : List Nat} {i j : Nat} {need need' : LH} {p p' : Pat} (hij : i ≠ j) (h1 : bef M i j = false) (h2 : bef M j i = false) (hne : ¬ (eff ops i = true /\ eff ops j = true))
    (Fi : FP ops M nx V i need p) (Fj : FP ops M nx V j need' p') (x : Nat) (hx : p x ≠ none) : hget need' x = none /\ p' x = none := by
  have key : ∀ k, W8 (nx + 8 * k) x -> k = i ∨ bef M k i = true := fun k hk => by
    rcases Fi.2.2 x (.inr hx) with q | ⟨k', q1, q2⟩
    · unfold W8 at hk; omega
    · rw [W8_eq hk q1]; exact q2
  have key2 : ∀ k, W8 (nx + 8 * k) x -> ((hget need' x).isSome = true ∨ p' x ≠ none) -> k = j ∨ bef M k j = true := fun k hk ht => by
    rcases Fj.2.2 x ht with q | ⟨k', q1, q2⟩
    · unfold W8 at hk; omega
    · rw [W8_eq hk q1]; exact q2
  have notj : ¬ W8 (nx + 8 * j) x := fun hw => by
    rcases key j hw with q | q
    · exact hij q.symm
    · rw [h2] at q; cases q
  rcases Fi.1 x hx with ⟨hei, hhot, hex⟩ | hw
  · have hej : eff ops j = false := by
      cases e : eff ops j with
      | false => rfl
      | true => exact absurd ⟨effT_eff hei, e⟩ hne
    refine ⟨?_, ?_⟩
    · cases e : hget need' x with
      | none => rfl
      | some v => exact absurd ⟨hhot, hex⟩ (Fj.2.1 hej i hei hij h1 h2 x (by simp [e]))
    · cases e : p' x with
      | none => rfl
      | some v =>
        rcases Fj.1 x (by simp [e]) with q | q
        · have := effT_eff q.1; rw [hej] at this; cases this
        · exact absurd q notj
  · have no : ¬ ((hget need' x).isSome = true ∨ p' x ≠ none) := fun ht => by
      rcases key2 i hw ht with q | q
      · exact hij q
      · rw [h1] at q; cases q
    refine ⟨?_, ?_⟩
    · cases e : hget need' x with
      | none => rfl
      | some v => exact absurd (.inl (by simp [e])) no
    · cases e : p' x with
      | none => rfl
      | some v => exact absurd (.inr (by simp [e])) no
theorem ActR_congr {ops : Array Oper} {j : Nat} {o : Oper} {c : Bool} {d : DV} {need : LH} {p : Pat} {f f' : Nat -> DV} (hf : ∀ t ∈ o.looksAt ops, f' t = f t) (ha : ActR P N pin nx ops j o f c d need p) : ActR P N pin nx ops j o f' c d need p := by
  have hx : ∀ x, x ∈ o.op.operands.toList -> ev f' x = ev f x := fun x hx => ev_congr fun t e => hf t (by
    subst e;exact List.mem_append_left _ (List.mem_filterMap.2 ⟨.tmp t, hx, rfl⟩))
  obtain ⟨hg, hdst, hoks, hop⟩ := ha;refine ⟨?_, hdst, fun hc => ?_, ?_⟩
  · rw [<- hg];unfold guardD;cases hgu : o.guard with
    | none => rfl
    | some jw =>
      obtain ⟨j, want⟩ := jw;dsimp only;cases hs : (ops[j]?).bind (·.dst) with
      | none => rfl
      | some s =>
        dsimp only;rw [hf s (by simp [Oper.looksAt, hgu, hs])]
  · rw [oksD_congr hx]; exact hoks hc
  · rw [callOf_congr hx, dop_congr hx, opIds_congr hx];exact hop
def stX (P : Program) (N pin nx : Nat) (ops : Array Oper) (M V : List Nat) (i : Nat) (K : (Nat -> DV) -> (Nat -> Option HV) -> Prop) (f : Nat -> DV) (h : Nat -> Option HV) : Prop :=
  match ops[i]? with
  | none => K f h
  | some o => ∃ c d need p, ActR P N pin nx ops i o f c d need p /\ FP ops M nx V i need p /\ (∀ x v, hget need x = some v -> h x = some v) /\ K (fput f o.dst (wrapD o c d)) (papp p h)
def wpAnyX (P : Program) (N pin nx : Nat) (ops : Array Oper) (M V : List Nat) (K : (Nat -> DV) -> (Nat -> Option HV) -> Prop) : Nat -> Array Bool -> (Nat -> DV) -> (Nat -> Option HV) -> Prop
  | 0, listed, f, h => Region.ready .any ops listed = [] /\ K f h
  | fuel + 1, listed, f, h => (Region.ready .any ops listed = [] -> K f h) /\ ∀ i, i ∈ Region.ready .any ops listed -> stX P N pin nx ops M V i (wpAnyX P N pin nx ops M V K fuel (listed.setIfInBounds i true)) f h
theorem stX_mono {ops : Array Oper} {M V : List Nat} {i : Nat} {K K' : (Nat -> DV) -> (Nat -> Option HV) -> Prop} {f : Nat -> DV} {h : Nat -> Option HV} (hk : ∀ f h, K f h -> K' f h) (hd : stX P N pin nx ops M V i K f h) : stX P N pin nx ops M V i K' f h := by
  unfold stX at *
  split
  · next e => rw [e] at hd; exact hk _ _ hd
  · next o e =>
    rw [e] at hd;obtain ⟨c, d, need, p, h1, h2, h3, h4⟩ := hd;exact ⟨c, d, need, p, h1, h2, h3, hk _ _ h4⟩
theorem stX_swap {ops : Array Oper} {M V : List Nat} {i j : Nat} {oi oj : Oper} {c : Bool} {d : DV} {need : LH} {p : Pat} {K : (Nat -> DV) -> (Nat -> Option HV) -> Prop} {f : Nat -> DV} {h : Nat -> Option HV} (hj : ops[j]? = some oj) (hij : i ≠ j)
    (h1 : bef M i j = false) (h2 : bef M j i = false) (hap : oi.apart ops oj = true) (hne : ¬ (eff ops i = true /\ eff ops j = true))
    (Ai : ActR P N pin nx ops i oi f c d need p) (Fi : FP ops M nx V i need p) (Ni : ∀ x v, hget need x = some v -> h x = some v)
    (hd : stX P N pin nx ops M V j K (fput f oi.dst (wrapD oi c d)) (papp p h)) :
    stX P N pin nx ops M V j (fun f' h' => ActR P N pin nx ops i oi f' c d need p /\ (∀ x v, hget need x = some v -> h' x = some v) /\ K (fput f' oi.dst (wrapD oi c d)) (papp p h')) f h := by
  obtain ⟨a1, a2, a3⟩ := Oper.apart_spec hap;unfold stX at *
  rw [hj] at hd ⊢;obtain ⟨c', d', need', p', Aj, Fj, Nj, hK⟩ := hd;have D1 := FP.meet hij h1 h2 hne Fi Fj;have D2 := FP.meet (Ne.symm hij) h2 h1 (fun k => hne ⟨k.2, k.1⟩) Fj Fi;refine ⟨c', d', need', p', ActR_congr (fun t ht => (fput_look a1 t ht).symm) Aj, Fj, fun x v hx => ?_, ActR_congr (fput_look a3) Ai, fun x v hx => ?_, ?_⟩
  · have := Nj x v hx;cases e : p x with
    | none => simpa [papp, e] using this
    | some u => have := (D1 x (by simp [e])).1; rw [hx] at this; cases this
  · cases e : p' x with
    | none => simp [papp, e, Ni x v hx]
    | some u => have := (D2 x (by simp [e])).1; rw [hx] at this; cases this
  · rw [fput_comm (fun e he k => a2 e k he)];have : papp p (papp p' h) = papp p' (papp p h) := by
      funext x
      simp only [papp];cases e : p x with
      | none => cases e' : p' x <;> simp
      | some u => rw [(D1 x (by simp [e])).2]; simp
    rw [this];exact hK
def closedX (ops : Array Oper) (listed : Array Bool) : Prop := ∀ k o, ops[k]? = some o -> listed.getD k true = true -> ∀ e ∈ o.after, Region.binds .any e = true -> listed.getD e.on false = true
structure XOk (ops : Array Oper) (M : List Nat) : Prop where
  fix : ∀ j o, ops[j]? = some o -> M.getD j 0 = maskOf M o
  back : ∀ j o, ops[j]? = some o -> ∀ e ∈ o.after, Region.binds .any e = true -> e.on < j
  pair : ∀ i j oi oj, ops[i]? = some oi -> ops[j]? = some oj -> i < j -> bef M i j = true ∨ (oi.apart ops oj = true /\ ¬ (eff ops i = true /\ eff ops j = true))
theorem xB_spec {ops : Array Oper} {M : List Nat} (h : xB ops M = true) : XOk ops M /\ lexR ops ops.size 0 (Array.replicate ops.size false) = true := by
  unfold xB at h;simp only [Bool.and_eq_true, List.all_eq_true, List.mem_range] at h;obtain ⟨⟨h1, h2⟩, h3⟩ := h;refine ⟨⟨fun j o ho => ?_, fun j o ho e he hb => ?_, fun i j oi oj hi hj hlt => ?_⟩, h3⟩
  · have := h1 j (Array.getElem?_eq_some_iff.1 ho).1;rw [ho] at this;simp only [Bool.and_eq_true, beq_iff_eq] at this;exact this.1
  · have := h1 j (Array.getElem?_eq_some_iff.1 ho).1;rw [ho] at this;simp only [Bool.and_eq_true, List.all_eq_true] at this;have := this.2 e (by simpa using he);simpa [hb] using this
  · have := h2 i (Array.getElem?_eq_some_iff.1 hi).1 j (Array.getElem?_eq_some_iff.1 hj).1;rw [hi, hj] at this;simp only [hlt, decide_true, Bool.not_true, Bool.false_or, Bool.or_eq_true, Bool.and_eq_true, Bool.not_eq_true', Bool.and_eq_false_iff] at this;rcases this with k | ⟨k1, k2⟩
    · exact .inl k
    · refine .inr ⟨k1, fun ⟨q1, q2⟩ => ?_⟩;simp only [eff, hi] at q1;simp only [eff, hj] at q2;rcases k2 with k2 | k2
      · rw [q1] at k2; cases k2
      · rw [q2] at k2; cases k2
theorem bef_edge {ops : Array Oper} {M : List Nat} (hX : XOk ops M) {i j : Nat} {o : Oper} (ho : ops[j]? = some o) (hb : bef M i j = true) : ∃ e ∈ o.after, Region.binds .any e = true /\ (e.on = i ∨ bef M i e.on = true) := by
  have h1 := hX.fix j o ho;unfold bef at hb;rw [h1] at hb;rcases testBit_fold M i _ _ hb with k | ⟨e, k1, k2⟩
  · simp at k
  · exact ⟨e, by simpa using k1, k2⟩
theorem bef_some {ops : Array Oper} {M : List Nat} (hX : XOk ops M) {i j : Nat} {o : Oper} (ho : ops[j]? = some o) (hb : bef M i j = true) : i < j := by
  obtain ⟨e, k1, k2, k3⟩ := bef_edge hX ho hb;have h1 := hX.back j o ho e k1 k2;rcases k3 with k3 | k3
  · omega
  · have he : e.on < ops.size := Nat.lt_trans h1 (Array.getElem?_eq_some_iff.1 ho).1;have := bef_some hX (Array.getElem?_eq_getElem he) k3;omega
termination_by j
theorem bef_listed {ops : Array Oper} {M : List Nat} (hX : XOk ops M) {listed : Array Bool} (hc : closedX ops listed) {i j : Nat} {o : Oper} (ho : ops[j]? = some o) (hr : ∀ e ∈ o.after, Region.binds .any e = true -> listed.getD e.on false = true) (hb : bef M i j = true) : listed.getD i false = true := by
  obtain ⟨e, k1, k2, k3⟩ := bef_edge hX ho hb;have h1 := hX.back j o ho e k1 k2;have h2 := hr e k1 k2;rcases k3 with rfl | k3
  · exact h2
  · have he : e.on < ops.size := Nat.lt_trans h1 (Array.getElem?_eq_some_iff.1 ho).1;have hl : listed.getD e.on true = true := by
      rcases Nat.lt_or_ge e.on listed.size with q | q
      · simpa [q] using h2
      · simp [Array.getElem?_eq_none q]
    exact bef_listed hX hc (Array.getElem?_eq_getElem he) (hc e.on _ (Array.getElem?_eq_getElem he) hl) k3
termination_by j
theorem closed_set {ops : Array Oper} {listed : Array Bool} (hc : closedX ops listed) {i : Nat} (hi : i ∈ Region.ready .any ops listed) : closedX ops (listed.setIfInBounds i true) := by
  intro k o ho hk e he hb;obtain ⟨_, oi, hoi, hall⟩ := mem_ready.1 hi;by_cases e1 : i = k
  · subst e1;rw [hoi] at ho; cases ho;exact getD_set_true (hall e he hb)
  · rw [getD_set_ne true e1] at hk;exact getD_set_true (hc k o ho hk e he hb)
theorem getD_tf {listed : Array Bool} {i : Nat} (h : listed.getD i true = false) : listed.getD i false = false := by
  rcases Nat.lt_or_ge i listed.size with q | q
  · simpa [q] using h
  · simp [Array.getElem?_eq_none q] at h
theorem wpAnyX_first {ops : Array Oper} {M V : List Nat} (hX : XOk ops M) {K : (Nat -> DV) -> (Nat -> Option HV) -> Prop} {i : Nat} {oi : Oper} {c : Bool} {d : DV} {need : LH} {p : Pat} (hi : ops[i]? = some oi)
    (Fi : FP ops M nx V i need p) : ∀ (fuel : Nat) (listed : Array Bool) (f : Nat -> DV) (h : Nat -> Option HV), listed.size = ops.size -> closedX ops listed -> (∀ j, j < i -> listed.getD j true = true) ->
      i ∈ Region.ready .any ops listed -> ActR P N pin nx ops i oi f c d need p -> (∀ x v, hget need x = some v -> h x = some v) ->
      wpAnyX P N pin nx ops M V K fuel (listed.setIfInBounds i true) (fput f oi.dst (wrapD oi c d)) (papp p h) -> wpAnyX P N pin nx ops M V K (fuel + 1) listed f h := by
  intro fuel;induction fuel with
  | zero =>
    intro listed f h _ _ _ hr Ai Ni H;refine ⟨fun k => (by rw [k] at hr; cases hr), fun j hj => ?_⟩;by_cases hji : j = i
    · subst hji; unfold stX; rw [hi]; exact ⟨c, d, need, p, Ai, Fi, Ni, H⟩
    · have := ready_mono hj hji;rw [H.1] at this;cases this
  | succ fuel ih =>
    intro listed f h hsz hcl hpre hr Ai Ni H;refine ⟨fun k => (by rw [k] at hr; cases hr), fun j hj => ?_⟩;by_cases hji : j = i
    · subst hji; unfold stX; rw [hi]; exact ⟨c, d, need, p, Ai, Fi, Ni, H⟩
    · have h1 := H.2 j (ready_mono hj hji);obtain ⟨hjun, oj, hoj, hall⟩ := mem_ready.1 hj;obtain ⟨hiun, oi', hoi', halli⟩ := mem_ready.1 hr;have hlt : i < j := by
        rcases Nat.lt_or_ge i j with q | q
        · exact q
        · have := hpre j (by omega); rw [this] at hjun; cases hjun
      have nb1 : bef M i j = false := by
        cases e : bef M i j with
        | false => rfl
        | true => have := bef_listed hX hcl hoj hall e; rw [getD_tf hiun] at this; cases this
      have nb2 : bef M j i = false := by
        cases e : bef M j i with
        | false => rfl
        | true => have := bef_some hX hi e; omega
      obtain ⟨hap, hne⟩ := (hX.pair i j oi oj hi hoj hlt).resolve_left (by simp [nb1]);have h2 := stX_swap hoj (Ne.symm hji) nb1 nb2 hap hne Ai Fi Ni h1;refine stX_mono (fun f' h' h3 => ih (listed.setIfInBounds j true) f' h' (by simp [hsz]) (closed_set hcl hj) (fun k hk => ?_) (ready_mono hr (Ne.symm hji)) h3.1 h3.2.1 ?_) h2
      · rw [getD_set_ne true (by omega)]; exact hpre k hk
      · rw [Array.setIfInBounds_comm _ _ hji];exact h3.2.2
end
end Go.Eng
