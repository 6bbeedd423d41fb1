/-
  A part of the engine that reckons calls at the level of data.
  No condition.
-/

import Derived.Test.YtgpllheklfbfhaaGreatEngA
namespace Go.Eng
set_option linter.all false
def upd {α : Type} (f : Nat -> α) (i : Nat) (x : α) : Nat -> α := fun j => if j = i then x else f j
@[simp] theorem upd_same {α : Type} (f : Nat -> α) (i : Nat) (x : α) : upd f i x i = x := by simp [upd]
theorem upd_ne {α : Type} (f : Nat -> α) {i j : Nat} (x : α) (h : j ≠ i) : upd f i x j = f j := by simp [upd, h]
structure Base where
  w0 : World
  own0 : Nat -> Nat -> Prop
  S0 : Nat -> Prop
  ρ0 : Nat -> Hd
  U0 : Nat -> Prop
  
  free0 : Nat -> Prop
def Base.fresh (B : Base) (b : Nat) : Prop := B.free0 b ∨ B.w0.heap.size <= b
structure HSat (B : Base) (U : Nat -> Prop) (ρ : Nat -> Hd) (S : Nat -> Prop) (w : World) (h : Nat -> Option HV) : Prop where
  heap : ∀ id v, h id = some v -> HRel ρ S w id v
  heapU : ∀ id v, h id = some v -> U id /\ v.uses U
  disj : ∀ i j v u b, h i = some v -> h j = some u -> hblk (ρ i) v = some b -> hblk (ρ j) u = some b -> i = j
  sep : ∀ id v b, h id = some v -> hblk (ρ id) v = some b -> ¬ S b
  prov : ∀ id v b, h id = some v -> hblk (ρ id) v = some b -> B.own0 id b ∨ B.fresh b
  sIn : ∀ b, S b -> b < w.heap.size
  sProv : ∀ b, S b -> B.S0 b ∨ B.fresh b
  sOld : ∀ b, B.S0 b -> S b
  pin : ∀ i, B.U0 i -> ρ i = B.ρ0 i
  ownU : ∀ i b, B.own0 i b -> B.U0 i
  os : w.os = B.w0.os
  tape : w.tape = B.w0.tape
  output : w.output = B.w0.output
  size : B.w0.heap.size <= w.heap.size
  keep : ∀ b, b < B.w0.heap.size -> (∀ i, ¬ B.own0 i b) -> ¬ B.free0 b -> w.heap[b]? = B.w0.heap[b]?
class Dfr where
  ds : List Deferred
instance dfr0 : Dfr := ⟨[]⟩
structure ESat [Dfr] (N : Nat) (U : Nat -> Prop) (ρ : Nat -> Hd) (S : Nat -> Prop) (w : World) (f : Nat -> DV) (a : Act) : Prop where
  size : a.tmps.size = N
  defers : a.defers = Dfr.ds
  env : ∀ t, Rel ρ S w (f t) (a.tmps.getD t undef)
  envU : ∀ t, (f t).uses U
theorem hblk_lt {ρ : Nat -> Hd} {S : Nat -> Prop} {w : World} {id : Nat} {v : HV} (h : HRel ρ S w id v) {b : Nat} (hb : hblk (ρ id) v = some b) : b < w.heap.size := by
  cases v with
  | blk t cs =>
    simp only [HRel] at h;obtain ⟨b', vs, fz, h1, h2, _⟩ := h;simp [hblk, h1] at hb;subst hb;rcases Nat.lt_or_ge b' w.heap.size with k | k
    · exact k
    · simp [Array.getElem?_eq_none k] at h2
  | lst t n l =>
    simp only [HRel] at h;by_cases hc : (ρ id).cap = 0
    · simp [hblk, hc] at hb
    · rcases h.2.2.2.2 with h5 | ⟨b', vs, sp, fz, k1, k2, _⟩
      · exact absurd h5 hc
      · simp [hblk, hc, k1] at hb;subst hb;rcases Nat.lt_or_ge b' w.heap.size with k | k
        · exact k
        · simp [Array.getElem?_eq_none k] at k2
  | map es =>
    simp only [HRel] at h;obtain ⟨b', vs, ck, h1, h2, _⟩ := h;simp [hblk, h1] at hb;subst hb;rcases Nat.lt_or_ge b' w.heap.size with k | k
    · exact k
    · simp [Array.getElem?_eq_none k] at h2
  | lent n l => cases hb
theorem HSat.install {B : Base} {U : Nat -> Prop} {ρ ρ' : Nat -> Hd} {S : Nat -> Prop} {w w' : World} {h : Nat -> Option HV} (H : HSat B U ρ S w h)
    (id : Nat) (v : HV) (mb : Nat)
    (hρ : ∀ i, U i -> ρ' i = ρ i) (hpin : ∀ i, B.U0 i -> ρ' i = ρ i)
    (hw : ∀ k, k < w.heap.size -> k ≠ mb -> w'.heap[k]? = w.heap[k]?) (hsz : w.heap.size <= w'.heap.size)
    (hos : w'.os = w.os) (htape : w'.tape = w.tape) (hout : w'.output = w.output)
    (hmS : ¬ S mb) (hmP : B.own0 id mb ∨ B.fresh mb)
    (hmH : ∀ j u, j ≠ id -> h j = some u -> hblk (ρ j) u ≠ some mb)
    (hb' : ∀ b, hblk (ρ' id) v = some b -> b = mb) (hv : HRel ρ' S w' id v) (hu : v.uses fun i => U i ∨ i = id) :
    HSat B (fun i => U i ∨ i = id) ρ' S w' (upd h id (some v)) where
  heap j u hj := by
    by_cases e : j = id
    · subst e; simp at hj; subst hj; exact hv
    · rw [upd_ne _ _ e] at hj;have h1 := H.heap j u hj;have h2 := H.heapU j u hj;refine h1.mono (U := U) hρ (fun _ k => k) (fun b hb => hw b (H.sIn b hb) (fun e => hmS (e ▸ hb))) h2.1 h2.2 (fun b hb => hw b (hblk_lt h1 hb) ?_);intro e'; subst e'; exact hmH j u e hj hb
  heapU j u hj := by
    by_cases e : j = id
    · subst e; simp at hj; subst hj; exact ⟨.inr rfl, hu⟩
    · rw [upd_ne _ _ e] at hj;have h2 := H.heapU j u hj;exact ⟨.inl h2.1, HV.uses_mono (fun _ k => .inl k) u h2.2⟩
  disj i j vi vj b hi hj hbi hbj := by
    by_cases ei : i = id
    · by_cases ej : j = id
      · rw [ei, ej]
      · rw [upd_ne _ _ ej] at hj;subst ei; simp at hi; subst hi;have := hb' b hbi;subst this;rw [hρ j (H.heapU j vj hj).1] at hbj;exact absurd hbj (hmH j vj ej hj)
    · rw [upd_ne _ _ ei] at hi;rw [hρ i (H.heapU i vi hi).1] at hbi;by_cases ej : j = id
      · subst ej; simp at hj; subst hj;have := hb' b hbj;subst this;exact absurd hbi (hmH i vi ei hi)
      · rw [upd_ne _ _ ej] at hj;rw [hρ j (H.heapU j vj hj).1] at hbj;exact H.disj i j vi vj b hi hj hbi hbj
  sep j u b hj hb := by
    by_cases e : j = id
    · subst e; simp at hj; subst hj; rw [hb' b hb]; exact hmS
    · rw [upd_ne _ _ e] at hj;rw [hρ j (H.heapU j u hj).1] at hb;exact H.sep j u b hj hb
  prov j u b hj hb := by
    by_cases e : j = id
    · subst e; simp at hj; subst hj; rw [hb' b hb]; exact hmP
    · rw [upd_ne _ _ e] at hj;rw [hρ j (H.heapU j u hj).1] at hb;exact H.prov j u b hj hb
  sIn b hb := Nat.lt_of_lt_of_le (H.sIn b hb) hsz
  sProv := H.sProv
  sOld := H.sOld
  pin i hi := (hpin i hi).trans (H.pin i hi)
  ownU := H.ownU
  os := hos.trans H.os
  tape := htape.trans H.tape
  output := hout.trans H.output
  size := Nat.le_trans H.size hsz
  keep b hb ho hf := by
    rw [hw b (Nat.lt_of_lt_of_le hb H.size) (fun e => by
      subst e;rcases hmP with k | k | k
      · exact ho _ k
      · exact hf k
      · omega)]
    exact H.keep b hb ho hf
theorem ESat.mono [Dfr] {N : Nat} {U U' : Nat -> Prop} {ρ ρ' : Nat -> Hd} {S S' : Nat -> Prop} {w w' : World} {f : Nat -> DV} {a : Act} (E : ESat N U ρ S w f a)
    (hρ : ∀ i, U i -> ρ' i = ρ i) (hS : ∀ b, S b -> S' b) (hw : ∀ b, S b -> w'.heap[b]? = w.heap[b]?) (hU : ∀ i, U i -> U' i) : ESat N U' ρ' S' w' f a where
  size := E.size
  defers := E.defers
  env t := Rel.mono hρ hS hw (f t) _ (E.envU t) (E.env t)
  envU t := uses_mono hU _ (E.envU t)
theorem ESat.put [Dfr] {N : Nat} {U : Nat -> Prop} {ρ : Nat -> Hd} {S : Nat -> Prop} {w : World} {f : Nat -> DV} {a : Act} (E : ESat N U ρ S w f a)
    (d : Nat) (hd : d < N) {x : DV} {v : Value} (hx : Rel ρ S w x v) (hu : x.uses U) : ESat N U ρ S w (upd f d x) (a.put (some d) v) where
  size := by simp [Act.put, E.size]
  defers := E.defers
  env t := by
    have hs := E.size;by_cases e : t = d
    · subst e;have : (a.put (some t) v).tmps.getD t undef = v := by simp [Act.put, hs, hd]
      rw [this]; simpa using hx
    · rw [upd_ne _ _ e];have : (a.put (some d) v).tmps.getD t undef = a.tmps.getD t undef := by
        simp [Act.put, Array.getElem?_setIfInBounds_ne (Ne.symm e)]
      rw [this]; exact E.env t
  envU t := by
    by_cases e : t = d
    · subst e; simp; exact hu
    · rw [upd_ne _ _ e]; exact E.envU t
theorem HSat.drop {B : Base} {U : Nat -> Prop} {ρ : Nat -> Hd} {S : Nat -> Prop} {w : World} {h h' : Nat -> Option HV} (H : HSat B U ρ S w h)
    (hh : ∀ i v, h' i = some v -> h i = some v) : HSat B U ρ S w h' where
  heap i v k := H.heap i v (hh i v k)
  heapU i v k := H.heapU i v (hh i v k)
  disj i j v u b hi hj := H.disj i j v u b (hh i v hi) (hh j u hj)
  sep i v b k := H.sep i v b (hh i v k)
  prov i v b k := H.prov i v b (hh i v k)
  sIn := H.sIn
  sProv := H.sProv
  sOld := H.sOld
  pin := H.pin
  ownU := H.ownU
  os := H.os
  tape := H.tape
  output := H.output
  size := H.size
  keep := H.keep
theorem HSat.used {B : Base} {U U' : Nat -> Prop} {ρ : Nat -> Hd} {S : Nat -> Prop} {w : World} {h : Nat -> Option HV} (H : HSat B U ρ S w h)
    (hU : ∀ i, U i -> U' i) : HSat B U' ρ S w h where
  heap := H.heap
  heapU i v k := ⟨hU _ (H.heapU i v k).1, HV.uses_mono hU v (H.heapU i v k).2⟩
  disj := H.disj
  sep := H.sep
  prov := H.prov
  sIn := H.sIn
  sProv := H.sProv
  sOld := H.sOld
  pin := H.pin
  ownU := H.ownU
  os := H.os
  tape := H.tape
  output := H.output
  size := H.size
  keep := H.keep
theorem HSat.grow {B : Base} {U : Nat -> Prop} {ρ : Nat -> Hd} {S : Nat -> Prop} {w w' : World} {h : Nat -> Option HV} (H : HSat B U ρ S w h)
    (hw : ∀ k, k < w.heap.size -> w'.heap[k]? = w.heap[k]?) (hsz : w.heap.size <= w'.heap.size)
    (hos : w'.os = w.os) (htape : w'.tape = w.tape) (hout : w'.output = w.output) : HSat B U ρ S w' h where
  heap i v k := by
    have h1 := H.heap i v k;exact h1.mono (U := U) (fun _ _ => rfl) (fun _ k => k) (fun b hb => hw b (H.sIn b hb)) (H.heapU i v k).1 (H.heapU i v k).2 (fun b hb => hw b (hblk_lt h1 hb))
  heapU := H.heapU
  disj := H.disj
  sep := H.sep
  prov := H.prov
  sIn b hb := Nat.lt_of_lt_of_le (H.sIn b hb) hsz
  sProv := H.sProv
  sOld := H.sOld
  pin := H.pin
  ownU := H.ownU
  os := hos.trans H.os
  tape := htape.trans H.tape
  output := hout.trans H.output
  size := Nat.le_trans H.size hsz
  keep b hb ho hf := (hw b (Nat.lt_of_lt_of_le hb H.size)).trans (H.keep b hb ho hf)
def rnm (o n : Nat) (i : Nat) : Nat := if i = o then n else i
mutual
def DV.ren (o n : Nat) : DV -> DV
  | .p x => .p x
  | .ptr id off => .ptr (rnm o n id) off
  | .eptr id m i j => .eptr (rnm o n id) m i j
  | .gl id => .gl (rnm o n id)
  | .mref id => .mref (rnm o n id)
  | .clo f caps => .clo f (DV.renL o n caps)
  | .agg cs => .agg (DV.renL o n cs)
  | .tup cs => .tup (DV.renL o n cs)
  | .opt b d => .opt b (DV.ren o n d)
  | .junk => .junk
def DV.renL (o n : Nat) : List DV -> List DV
  | [] => []
  | d :: ds => DV.ren o n d :: DV.renL o n ds
end
def HV.ren (o n : Nat) : HV -> HV
  | .blk t cs => .blk t (DV.renL o n cs)
  | .lst t m l => .lst t m (l.map (DV.renL o n))
  | .map es => .map (es.map fun e => (e.1, e.2.ren o n))
  | .lent k l => .lent k l
theorem renL_eq (o n : Nat) : ∀ l : List DV, DV.renL o n l = l.map (DV.ren o n)
  | [] => rfl
  | d :: l => by simp [DV.renL, renL_eq o n l]
theorem renL_length (o n : Nat) (l : List DV) : (DV.renL o n l).length = l.length := by simp [renL_eq]
theorem map_ren (o n : Nat) (es : List (Value × DV)) : (es.map fun e => (e.1, e.2.ren o n)).map (·.2) = DV.renL o n (es.map (·.2)) := by simp [renL_eq, Function.comp]
theorem renL_flatten (o n : Nat) (l : List (List DV)) : (l.map (DV.renL o n)).flatten = DV.renL o n l.flatten := by
  induction l with
  | nil => rfl
  | cons x l ih => simp [ih, renL_eq]
mutual
theorem Rel.ren {ρ ρ' : Nat -> Hd} {S U : Nat -> Prop} {w : World} {o n : Nat} (hn : ρ' n = ρ o) (hρ : ∀ i, U i -> i ≠ o -> ρ' i = ρ i) :
    ∀ (d : DV) (v : Value), d.uses U -> Rel ρ S w d v -> Rel ρ' S w (d.ren o n) v
  | .p x, v, _, h => by simpa only [Rel, DV.ren] using h
  | .ptr id off, v, hu, h => by
    have e : ρ' (rnm o n id) = ρ id := by unfold rnm; split; · next e => rw [hn, e]
                                          · next e => exact hρ _ hu e
    simp only [Rel, DV.ren, e] at *; exact h
  | .eptr id m i j, v, hu, h => by
    have e : ρ' (rnm o n id) = ρ id := by unfold rnm; split; · next e => rw [hn, e]
                                          · next e => exact hρ _ hu e
    simp only [Rel, DV.ren, e] at *; exact h
  | .gl id, v, hu, h => by
    have e : ρ' (rnm o n id) = ρ id := by unfold rnm; split; · next e => rw [hn, e]
                                          · next e => exact hρ _ hu e
    simp only [Rel, DV.ren, e] at *; exact h
  | .mref id, v, hu, h => by
    have e : ρ' (rnm o n id) = ρ id := by unfold rnm; split; · next e => rw [hn, e]
                                          · next e => exact hρ _ hu e
    simp only [Rel, DV.ren, e] at *; exact h
  | .clo f cs, v, hu, h => by
    simp only [Rel, DV.ren, DV.uses] at *
    obtain ⟨vs, rfl, h⟩ := h;exact ⟨vs, rfl, RelL.ren hn hρ cs vs hu h⟩
  | .agg cs, v, hu, h => by
    simp only [Rel, DV.ren, DV.uses] at *
    obtain ⟨vs, rfl, h⟩ := h;exact ⟨vs, rfl, RelL.ren hn hρ cs vs hu h⟩
  | .tup cs, v, hu, h => by
    simp only [Rel, DV.ren, DV.uses] at *
    obtain ⟨vs, rfl, h⟩ := h;exact ⟨vs, rfl, RelL.ren hn hρ cs vs hu h⟩
  | .opt b d, v, hu, h => by
    simp only [Rel, DV.ren, DV.uses] at *
    exact ⟨fun e => Rel.ren hn hρ d v (hu e) (h.1 e), h.2⟩
  | .junk, v, _, _ => by simp only [Rel, DV.ren]
theorem RelL.ren {ρ ρ' : Nat -> Hd} {S U : Nat -> Prop} {w : World} {o n : Nat} (hn : ρ' n = ρ o) (hρ : ∀ i, U i -> i ≠ o -> ρ' i = ρ i) :
    ∀ (ds : List DV) (vs : List Value), DV.usesL U ds -> RelL ρ S w ds vs -> RelL ρ' S w (DV.renL o n ds) vs
  | [], [], _, _ => trivial
  | d :: ds, v :: vs, hu, h => ⟨Rel.ren hn hρ d v hu.1 h.1, RelL.ren hn hρ ds vs hu.2 h.2⟩
  | [], _ :: _, _, h => h.elim
  | _ :: _, [], _, h => h.elim
end
def Uren (U : Nat -> Prop) (o n : Nat) : Nat -> Prop := fun i => (U i /\ i ≠ o) ∨ i = n
theorem rnm_uses {U : Nat -> Prop} {o n i : Nat} (h : U i) : Uren U o n (rnm o n i) := by
  unfold rnm; split
  · exact .inr rfl
  · next e => exact .inl ⟨h, e⟩
mutual
theorem uses_ren {U : Nat -> Prop} {o n : Nat} : ∀ d : DV, d.uses U -> (d.ren o n).uses (Uren U o n)
  | .p _, _ => trivial
  | .ptr _ _, k => rnm_uses k
  | .eptr .., k => rnm_uses k
  | .gl _, k => rnm_uses k
  | .mref _, k => rnm_uses k
  | .clo _ cs, k => usesL_ren cs k
  | .agg cs, k => usesL_ren cs k
  | .tup cs, k => usesL_ren cs k
  | .opt _ d, k => fun e => uses_ren d (k e)
  | .junk, _ => trivial
theorem usesL_ren {U : Nat -> Prop} {o n : Nat} : ∀ l : List DV, DV.usesL U l -> DV.usesL (Uren U o n) (DV.renL o n l)
  | [], _ => trivial
  | d :: l, k => ⟨uses_ren d k.1, usesL_ren l k.2⟩
end
theorem HV.uses_ren {U : Nat -> Prop} {o n : Nat} : ∀ v : HV, v.uses U -> (v.ren o n).uses (Uren U o n)
  | .blk _ cs, k => usesL_ren cs k
  | .lst _ _ l, k => by simp only [HV.uses, HV.ren, renL_flatten] at *; exact usesL_ren _ k
  | .map es, k => by simp only [HV.uses, HV.ren, map_ren] at *; exact usesL_ren _ k
  | .lent _ _, _ => trivial
theorem hblk_ren {g : Hd} {o n : Nat} (v : HV) : hblk g (v.ren o n) = hblk g v := by cases v <;> rfl
theorem HRel.ren {ρ ρ' : Nat -> Hd} {S U : Nat -> Prop} {w : World} {o n id : Nat} (hn : ρ' n = ρ o) (hρ : ∀ i, U i -> i ≠ o -> ρ' i = ρ i)
    {v : HV} (hid : ρ' (rnm o n id) = ρ id) (hu : v.uses U) (h : HRel ρ S w id v) : HRel ρ' S w (rnm o n id) (v.ren o n) := by
  cases v with
  | blk t cs =>
    simp only [HRel, HV.ren] at *
    obtain ⟨b, vs, fz, h1, h2, h3, h4⟩ := h;exact ⟨b, vs, fz, by rw [hid]; exact h1, h2, RelL.ren hn hρ cs vs hu h3, h4⟩
  | lst t m l =>
    simp only [HRel, HV.ren] at *
    rw [hid];obtain ⟨h1, h2, h3, h4, h5⟩ := h;refine ⟨by simpa using h1, by simpa using h2, by simpa using h3, ?_, ?_⟩
    · intro r hr;obtain ⟨r', hr', rfl⟩ := List.mem_map.1 hr;rw [renL_length]; exact h4 _ hr'
    · rcases h5 with h5 | ⟨b, vs, sp, fz, k1, k2, k3, k4, k5⟩
      · exact .inl h5
      · refine .inr ⟨b, vs, sp, fz, k1, k2, ?_, k4, k5⟩;rw [renL_flatten]; exact RelL.ren hn hρ _ vs hu k3
  | map es =>
    simp only [HRel, HV.ren] at *
    obtain ⟨b, vs, ck, h1, h2, h3, h4, h5⟩ := h;refine ⟨b, vs, ck, by rw [hid]; exact h1, h2, by rw [h3]; simp [Function.comp], ?_, h5⟩;rw [map_ren]; exact RelL.ren hn hρ _ _ hu h4
  | lent k l =>
    simp only [HRel, HV.ren] at *
    rw [hid]; exact h
def hren (o n : Nat) (h : Nat -> Option HV) : Nat -> Option HV := fun i => if i = n then (h o).map (HV.ren o n) else if i = o then none else (h i).map (HV.ren o n)
theorem HSat.ren {B : Base} {U : Nat -> Prop} {ρ : Nat -> Hd} {S : Nat -> Prop} {w : World} {h : Nat -> Option HV} (H : HSat B U ρ S w h)
    (o n : Nat) (hUn : ¬ U n) (hn : ¬ B.U0 n) (hop : ∀ v, h o = some v -> B.U0 o -> False) : HSat B (Uren U o n) (upd ρ n (ρ o)) S w (hren o n h) := by
  have key : ∀ i v, hren o n h i = some v -> ∃ j u, h j = some u /\ i = rnm o n j /\ v = u.ren o n /\ upd ρ n (ρ o) i = ρ j := by
    intro i v hi;unfold hren at hi;split at hi
    · next e =>
      obtain ⟨u, hu, rfl⟩ := Option.map_eq_some_iff.1 hi;exact ⟨o, u, hu, by simp [rnm, e], rfl, by rw [e]; simp⟩
    · next e =>
      split at hi
      · simp at hi
      · next e' =>
        obtain ⟨u, hu, rfl⟩ := Option.map_eq_some_iff.1 hi;exact ⟨i, u, hu, by simp [rnm, e'], rfl, upd_ne _ _ e⟩
  have hρ : ∀ i, U i -> i ≠ o -> upd ρ n (ρ o) i = ρ i := fun i hi _ => upd_ne _ _ (fun e => hUn (e ▸ hi))
  exact {
    heap := fun i v hi => by
      obtain ⟨j, u, hj, rfl, rfl, e⟩ := key i v hi;exact (H.heap j u hj).ren (U := U) (by simp) hρ e (H.heapU j u hj).2
    heapU := fun i v hi => by
      obtain ⟨j, u, hj, rfl, rfl, e⟩ := key i v hi;exact ⟨rnm_uses (H.heapU j u hj).1, HV.uses_ren u (H.heapU j u hj).2⟩
    disj := fun i j v u b hi hj hbi hbj => by
      obtain ⟨i', v', hi', rfl, rfl, e1⟩ := key i v hi;obtain ⟨j', u', hj', rfl, rfl, e2⟩ := key j u hj;rw [e1, hblk_ren] at hbi;rw [e2, hblk_ren] at hbj;rw [H.disj i' j' v' u' b hi' hj' hbi hbj]
    sep := fun i v b hi hb => by
      obtain ⟨i', v', hi', rfl, rfl, e1⟩ := key i v hi;rw [e1, hblk_ren] at hb;exact H.sep i' v' b hi' hb
    prov := fun i v b hi hb => by
      obtain ⟨i', v', hi', rfl, rfl, e1⟩ := key i v hi;rw [e1, hblk_ren] at hb;rcases H.prov i' v' b hi' hb with k2 | k
      · have k1 := H.ownU _ _ k2;by_cases e : i' = o
        · subst e; exact (hop v' hi' k1).elim
        · simp only [rnm, if_neg e]; exact .inl k2
      · exact .inr k
    sIn := H.sIn
    sProv := H.sProv
    sOld := H.sOld
    pin := fun i hi => by
      have hne : i ≠ n := fun e => hn (e ▸ hi)
      rw [upd_ne _ _ hne]; exact H.pin i hi
    ownU := H.ownU
    os := H.os
    tape := H.tape
    output := H.output
    size := H.size
    keep := H.keep }
theorem ESat.ren [Dfr] {N : Nat} {U : Nat -> Prop} {ρ : Nat -> Hd} {S : Nat -> Prop} {w : World} {f : Nat -> DV} {a : Act} (E : ESat N U ρ S w f a)
    (o n : Nat) (hUn : ¬ U n) : ESat N (Uren U o n) (upd ρ n (ρ o)) S w (fun t => (f t).ren o n) a where
  size := E.size
  defers := E.defers
  env t := (E.env t).ren (U := U) (by simp) (by intro i hi _; exact upd_ne _ _ (fun e => hUn (e ▸ hi))) (f t) _ (E.envU t)
  envU t := uses_ren _ (E.envU t)
def pvOf : DV -> Option PV
  | .p x => some x
  | _ => none
def pvL : List DV -> Option (List PV)
  | [] => some []
  | d :: ds => match pvOf d, pvL ds with
    | some x, some xs => some (x :: xs)
    | _, _ => none
def pvLL : List (List DV) -> Option (List (List PV))
  | [] => some []
  | d :: ds => match pvL d, pvLL ds with
    | some x, some xs => some (x :: xs)
    | _, _ => none
theorem pvL_spec : ∀ {l : List DV} {x : List PV}, pvL l = some x -> l = x.map .p
  | [], x, h => by simp [pvL] at h; subst h; rfl
  | d :: ds, x, h => by
    simp only [pvL] at h;split at h
    · next y ys h1 h2 =>
      simp at h; subst h;cases d <;> simp [pvOf] at h1;subst h1;simp [<- pvL_spec h2]
    · simp at h
theorem pvLL_spec : ∀ {l : List (List DV)} {x : List (List PV)}, pvLL l = some x -> l = x.map (List.map .p)
  | [], x, h => by simp [pvLL] at h; subst h; rfl
  | d :: ds, x, h => by
    simp only [pvLL] at h;split at h
    · next y ys h1 h2 =>
      simp at h; subst h;simp [<- pvLL_spec h2, <- pvL_spec h1]
    · simp at h
inductive FV where
  | cells (l : List PV)
  | elems (n : Nat) (l : List (List PV))
  | mp (ks : List Value) (xs : List PV)
def HV.fv : HV -> Option FV
  | .blk _ cs => (pvL cs).map .cells
  | .lst _ n l => (pvLL l).map (.elems n)
  | .map es => (pvL (es.map (·.2))).map (.mp (es.map (·.1)))
  | .lent _ _ => none
mutual
def DV.frz (o : Nat) (x : FV) : DV -> DV
  | .p y => .p y
  | .ptr id off => if id = o then (match x with | .cells l => .p (.ptr (l.drop off)) | _ => .junk) else .ptr id off
  | .eptr id n i j => if id = o then (match x with | .elems m l => if m = n /\ i < l.length then .p (.ptr ((l.getD i []).drop j)) else .junk | _ => .junk) else .eptr id n i j
  | .mref id => if id = o then (match x with | .mp ks xs => .p (.map ks xs) | _ => .junk) else .mref id
  | .gl id => if id = o then (match x with | .elems n l => .p (.dat n l) | _ => .junk) else .gl id
  | .clo f caps => .clo f (DV.frzL o x caps)
  | .agg cs => .agg (DV.frzL o x cs)
  | .tup cs => .tup (DV.frzL o x cs)
  | .opt b d => .opt b (DV.frz o x d)
  | .junk => .junk
def DV.frzL (o : Nat) (x : FV) : List DV -> List DV
  | [] => []
  | d :: ds => DV.frz o x d :: DV.frzL o x ds
end
theorem flatten_at {α : Type} (e : α) : ∀ (l : List (List α)) (n : Nat), (∀ r, r ∈ l -> r.length = n) -> ∀ i j, i < l.length -> j < n -> l.flatten.getD (i * n + j) e = (l.getD i []).getD j e
  | [], _, _, _, _, hi, _ => by simp at hi
  | r :: l, n, hr, 0, j, _, hj => by
    have := hr r (by simp);simp [List.getElem?_append, this, hj]
  | r :: l, n, hr, i + 1, j, hi, hj => by
    have h1 := hr r (by simp);have h2 := flatten_at e l n (fun r k => hr r (by simp [k])) i j (by simpa using hi) hj;have e1 : (i + 1) * n + j = n + (i * n + j) := by rw [Nat.add_mul]; omega
    rw [e1];simp only [List.flatten_cons, List.getD_cons_succ];rw [<- h2, <- h1];simp only [List.getD_eq_getElem?_getD, List.getElem?_append];rw [if_neg (by omega)];congr 2; omega
theorem flatten_len {α : Type} : ∀ (l : List (List α)) (n : Nat), (∀ r, r ∈ l -> r.length = n) -> l.flatten.length = l.length * n
  | [], _, _ => by simp
  | r :: l, n, hr => by
    have h2 := flatten_len l n (fun r k => hr r (by simp [k]));rw [List.flatten_cons, List.length_append, h2, hr r (by simp), List.length_cons, Nat.add_mul]; omega
def Sfrz (S : Nat -> Prop) (mb : Option Nat) : Nat -> Prop := fun b => S b ∨ mb = some b
theorem cell?_heap {w : World} {b : Nat} {vs : List Value} {t : TypeId} {fz : Nat × Nat} (h : w.heap[b]? = some (.cells vs.toArray t fz)) {i : Nat} (hi : i < vs.length) :
    w.cell? ⟨b, i, none⟩ = some (vs.getD i default) := by
  simp [World.cell?, h, hi]
theorem PRel.of_list {ρ : Nat -> Hd} {S S' : Nat -> Prop} {w : World} {ls : List PV} {vs : List Value} (hS : ∀ b, S b -> S' b) (h : RelL ρ S w (ls.map .p) vs) {i : Nat} (hi : i < ls.length) :
    PRel S' w (ls.getD i default) (vs.getD i default) := by
  have := RelL_get h i (by simpa using hi);have e : (ls.map DV.p).getD i default = DV.p (ls.getD i default) := by simp [hi]
  rw [e] at this;simp only [Rel] at this;exact this.mono hS (fun _ _ => rfl)
theorem fv_blk {t : TypeId} {cs : List DV} {x : FV} (h : (HV.blk t cs).fv = some x) : ∃ l, x = .cells l /\ cs = l.map .p := by
  simp only [HV.fv, Option.map_eq_some_iff] at h;obtain ⟨l, hl, rfl⟩ := h;exact ⟨l, rfl, pvL_spec hl⟩
theorem fv_map {es : List (Value × DV)} {x : FV} (h : (HV.map es).fv = some x) : ∃ xs, x = .mp (es.map (·.1)) xs /\ es.map (·.2) = xs.map .p := by
  simp only [HV.fv, Option.map_eq_some_iff] at h;obtain ⟨xs, hl, rfl⟩ := h;exact ⟨xs, rfl, pvL_spec hl⟩
theorem fv_lst {t : TypeId} {n : Nat} {l : List (List DV)} {x : FV} (h : (HV.lst t n l).fv = some x) : ∃ l', x = .elems n l' /\ l = l'.map (List.map .p) := by
  simp only [HV.fv, Option.map_eq_some_iff] at h;obtain ⟨l', hl, rfl⟩ := h;exact ⟨l', rfl, pvLL_spec hl⟩
theorem frz_ptr {ρ : Nat -> Hd} {S : Nat -> Prop} {w : World} {o : Nat} {t : TypeId} {l : List PV} (H : HRel ρ S w o (.blk t (l.map .p))) {off b : Nat}
    (hb : (ρ o).a = some ⟨b, 0, none⟩) : PRel (Sfrz S (hblk (ρ o) (.blk t (l.map .p)))) w (.ptr (l.drop off)) (.pointer (some ⟨b, off, none⟩)) := by
  simp only [HRel] at H;obtain ⟨b', vs, fz, h1, h2, h3, _⟩ := H;rw [hb] at h1; simp at h1; subst h1;have hlen := RelL_length h3;simp at hlen;refine .ptr _ b off (fun j => vs.getD (off + j) default) (.inr (by simp [hblk, hb])) (fun j hj => ?_) (fun j hj => ?_)
  · simp at hj;exact cell?_heap h2 (by omega)
  · simp at hj;have := PRel.of_list (S' := Sfrz S (hblk (ρ o) (.blk t (l.map .p)))) (fun b k => .inl k) h3 (i := off + j) (by omega);simpa using this
theorem getD_map_map {l : List (List PV)} {i : Nat} (hi : i < l.length) : (l.map (List.map DV.p)).getD i [] = (l.getD i []).map DV.p := by
  simp [hi]
theorem frz_lst {ρ : Nat -> Hd} {S : Nat -> Prop} {w : World} {o : Nat} {t : TypeId} {n : Nat} {l : List (List PV)} (H : HRel ρ S w o (.lst t n (l.map (List.map .p)))) :
    PRel (Sfrz S (hblk (ρ o) (.lst t n (l.map (List.map .p))))) w (.dat n l) (.slice (ρ o).a (ρ o).len (ρ o).cap) := by
  simp only [HRel, List.length_map] at H;obtain ⟨h1, h2, h3, h4, h5⟩ := H;have hrow : ∀ i, i < l.length -> (l.getD i []).length = n := fun i hi => by
    have := h4 ((l.getD i []).map DV.p) (List.mem_map.2 ⟨l.getD i [], by simp [hi], rfl⟩);simpa using this
  rw [h1];rcases h5 with h5 | ⟨b, vs, sp, fz, k1, k2, k3, k4, k5⟩
  · have : l = [] := List.eq_nil_of_length_eq_zero (by omega);subst this;exact .dat n [] _ 0 0 _ (fun _ _ => default) (by simp [BL]) (by simp) (by simp) (by simp) (by simp) (by simp)
  · by_cases hc : (ρ o).cap = 0
    · have : l = [] := List.eq_nil_of_length_eq_zero (by omega);subst this;exact .dat n [] _ 0 0 _ (fun _ _ => default) (by simp [BL]) (by simp) (by simp) (by simp) (by simp) (by simp)
    have hfl := flatten_len (l.map (List.map DV.p)) n h4;have hvl := RelL_length k3;rw [hfl] at hvl;simp only [List.length_map] at hvl;have bound : ∀ i j, i < l.length -> j < n -> i * n + j < l.length * n := fun i j hi hj => by
      have : (i + 1) * n <= l.length * n := Nat.mul_le_mul_right n hi;rw [Nat.add_mul] at this; omega
    refine .dat n l _ b 0 _ (fun i j => vs.getD (i * n + j) default) h2 h3 (fun _ => ⟨k1, .inr (by simp [hblk, hc, k1])⟩) hrow (fun i j hi hj => ?_) (fun i j hi hj => ?_)
    · have := bound i j hi hj;have hlt : i * n + j < (vs ++ sp).length := by simp; omega
      rw [Nat.zero_add, cell?_heap k2 hlt];simp only [List.getD_eq_getElem?_getD];rw [List.getElem?_append_left (by omega)]
    · have hb := bound i j hi hj;have := RelL_get k3 (i * n + j) (by rw [hfl]; simpa using hb);rw [flatten_at _ _ n h4 i j (by simpa using hi) hj, getD_map_map hi] at this;have hj' : j < (l.getD i []).length := by rw [hrow i hi]; exact hj
      have e : ((l.getD i []).map DV.p).getD j default = DV.p ((l.getD i []).getD j default) := by
        generalize l.getD i [] = r at hj' ⊢;simp [hj']
      rw [e] at this;simp only [Rel] at this;exact this.mono (fun b k => .inl k) (fun _ _ => rfl)
theorem frz_eptr {ρ : Nat -> Hd} {S : Nat -> Prop} {w : World} {o : Nat} {t : TypeId} {n : Nat} {l : List (List PV)} (H : HRel ρ S w o (.lst t n (l.map (List.map .p)))) {i j b : Nat}
    (hi : i < l.length) (hb : (ρ o).a = some ⟨b, 0, none⟩) :
    PRel (Sfrz S (hblk (ρ o) (.lst t n (l.map (List.map .p))))) w (.ptr ((l.getD i []).drop j)) (.pointer (some ⟨b, i * n + j, none⟩)) := by
  have H' := frz_lst H;simp only [HRel, List.length_map] at H;have hlen := H.1;rw [hb, hlen] at H';generalize hx : PV.dat n l = x at H';generalize hv : Value.slice (some ⟨b, 0, none⟩) l.length (ρ o).cap = v at H';cases H' with
  | ub b => cases hx
  | lit v' h => cases hx
  | ptr => cases hx
  | map => cases hx
  | dat n' l' a b' off cap c hl hcap ha hn hc hr =>
    cases hx;cases hv;have ha' := ha (by omega);simp at ha';obtain ⟨⟨rfl, rfl⟩, hS⟩ := ha';have hlen := hn i hi;refine .ptr _ b _ (fun k => c i (j + k)) hS (fun k hk => ?_) (fun k hk => ?_)
    · rw [List.length_drop, hlen] at hk;have := hc i (j + k) hi (by omega);rw [<- this]; congr 2; omega
    · rw [List.length_drop, hlen] at hk;have := hr i (j + k) hi (by omega);have e : ((l.getD i []).drop j).getD k default = (l.getD i []).getD (j + k) default := by
        generalize l.getD i [] = r;simp
      rw [e]; exact this
theorem frz_map {ρ : Nat -> Hd} {S : Nat -> Prop} {w : World} {o : Nat} {es : List (Value × DV)} {xs : List PV} {b : Nat} (H : HRel ρ S w o (.map es)) (hxs : es.map (·.2) = xs.map .p) (hb : (ρ o).a = some ⟨b, 0, none⟩) :
    PRel (Sfrz S (hblk (ρ o) (.map es))) w (.map (es.map (·.1)) xs) (.map (some b)) := by
  simp only [HRel] at H;obtain ⟨b', vs, ck, h1, h2, h3, h4, h5⟩ := H;rw [hb] at h1; simp at h1; subst h1;have hl : xs.length = es.length := by
    have := congrArg List.length hxs;simpa using this.symm
  rw [hxs] at h4;exact .map _ _ b vs ck (.inr (by simp [hblk, hb])) h2 h3 (by rw [List.length_map]; exact hl) (fun j hj => PRel.of_list (fun b k => .inl k) h4 hj) h5
mutual
theorem Rel.frz {ρ : Nat -> Hd} {S : Nat -> Prop} {w : World} {o : Nat} {hv : HV} {x : FV} (hx : hv.fv = some x) (H : HRel ρ S w o hv) :
    ∀ (d : DV) (v : Value), Rel ρ S w d v -> Rel ρ (Sfrz S (hblk (ρ o) hv)) w (d.frz o x) v
  | .p y, v, h => by simp only [Rel, DV.frz] at *; exact h.mono (fun b k => .inl k) (fun _ _ => rfl)
  | .ptr id off, v, h => by
    simp only [Rel, DV.frz] at *
    split
    · next e =>
      subst e;obtain ⟨b, hb, rfl⟩ := h;cases hv with
      | blk t cs =>
        obtain ⟨l, rfl, rfl⟩ := fv_blk hx;simp only [Rel];exact frz_ptr H hb
      | lst t n l =>
        obtain ⟨l', rfl, rfl⟩ := fv_lst hx;simp only [Rel]
      | map es =>
        obtain ⟨xs, rfl, _⟩ := fv_map hx;simp only [Rel]
      | lent k l => simp [HV.fv] at hx
    · simp only [Rel]; exact h
  | .eptr id n i j, v, h => by
    simp only [Rel, DV.frz] at *
    split
    · next e =>
      subst e;obtain ⟨b, hb, rfl⟩ := h;cases hv with
      | blk t cs =>
        obtain ⟨l, rfl, rfl⟩ := fv_blk hx;simp only [Rel]
      | lst t m l =>
        obtain ⟨l', rfl, rfl⟩ := fv_lst hx;dsimp only;split
        · next e =>
          have e1 := e.1;have e2 := e.2;subst e1;simp only [Rel];exact frz_eptr H e2 hb
        · simp only [Rel]
      | map es =>
        obtain ⟨xs, rfl, _⟩ := fv_map hx;simp only [Rel]
      | lent k l => simp [HV.fv] at hx
    · simp only [Rel]; exact h
  | .gl id, v, h => by
    simp only [Rel, DV.frz] at *
    split
    · next e =>
      subst e;cases hv with
      | blk t cs =>
        obtain ⟨l, rfl, rfl⟩ := fv_blk hx;simp only [Rel]
      | lst t n l =>
        obtain ⟨l', rfl, rfl⟩ := fv_lst hx;simp only [Rel];rw [h]; exact frz_lst H
      | map es =>
        obtain ⟨xs, rfl, _⟩ := fv_map hx;simp only [Rel]
      | lent k l => simp [HV.fv] at hx
    · simp only [Rel]; exact h
  | .mref id, v, h => by
    simp only [Rel, DV.frz] at *
    split
    · next e =>
      subst e;obtain ⟨b, hb, rfl⟩ := h;cases hv with
      | blk t cs =>
        obtain ⟨l, rfl, rfl⟩ := fv_blk hx;simp only [Rel]
      | lst t n l =>
        obtain ⟨l', rfl, rfl⟩ := fv_lst hx;simp only [Rel]
      | map es =>
        obtain ⟨xs, rfl, hxs⟩ := fv_map hx;simp only [Rel];exact frz_map H hxs hb
      | lent k l => simp [HV.fv] at hx
    · simp only [Rel]; exact h
  | .clo f cs, v, h => by
    simp only [Rel, DV.frz] at *
    obtain ⟨vs, rfl, h⟩ := h;exact ⟨vs, rfl, RelL.frz hx H cs vs h⟩
  | .agg cs, v, h => by
    simp only [Rel, DV.frz] at *
    obtain ⟨vs, rfl, h⟩ := h;exact ⟨vs, rfl, RelL.frz hx H cs vs h⟩
  | .tup cs, v, h => by
    simp only [Rel, DV.frz] at *
    obtain ⟨vs, rfl, h⟩ := h;exact ⟨vs, rfl, RelL.frz hx H cs vs h⟩
  | .opt b d, v, h => by
    simp only [Rel, DV.frz] at *
    exact ⟨fun e => Rel.frz hx H d v (h.1 e), h.2⟩
  | .junk, v, _ => by simp only [Rel, DV.frz]
theorem RelL.frz {ρ : Nat -> Hd} {S : Nat -> Prop} {w : World} {o : Nat} {hv : HV} {x : FV} (hx : hv.fv = some x) (H : HRel ρ S w o hv) :
    ∀ (ds : List DV) (vs : List Value), RelL ρ S w ds vs -> RelL ρ (Sfrz S (hblk (ρ o) hv)) w (DV.frzL o x ds) vs
  | [], [], _ => trivial
  | d :: ds, v :: vs, h => ⟨Rel.frz hx H d v h.1, RelL.frz hx H ds vs h.2⟩
  | [], _ :: _, h => h.elim
  | _ :: _, [], h => h.elim
end
theorem frzL_eq (o : Nat) (x : FV) : ∀ l : List DV, DV.frzL o x l = l.map (DV.frz o x)
  | [] => rfl
  | d :: l => by simp [DV.frzL, frzL_eq o x l]
theorem map_frz (o : Nat) (x : FV) (es : List (Value × DV)) : (es.map fun e => (e.1, e.2.frz o x)).map (·.2) = DV.frzL o x (es.map (·.2)) := by simp [frzL_eq, Function.comp]
theorem frzL_flatten (o : Nat) (x : FV) (l : List (List DV)) : (l.map (DV.frzL o x)).flatten = DV.frzL o x l.flatten := by
  induction l with
  | nil => rfl
  | cons y l ih => simp [ih, frzL_eq]
mutual
theorem uses_frz {U : Nat -> Prop} {o : Nat} {x : FV} : ∀ d : DV, d.uses U -> (d.frz o x).uses U
  | .p _, _ => trivial
  | .ptr id off, k => by
    simp only [DV.frz]; split
    · cases x <;> trivial
    · exact k
  | .eptr id n i j, k => by
    simp only [DV.frz]; split
    · cases x <;> dsimp only
      · trivial
      · split <;> trivial
      · trivial
    · exact k
  | .mref id, k => by
    simp only [DV.frz]; split
    · cases x <;> trivial
    · exact k
  | .gl id, k => by
    simp only [DV.frz]; split
    · cases x <;> trivial
    · exact k
  | .clo _ cs, k => usesL_frz cs k
  | .agg cs, k => usesL_frz cs k
  | .tup cs, k => usesL_frz cs k
  | .opt _ d, k => fun e => uses_frz d (k e)
  | .junk, _ => trivial
theorem usesL_frz {U : Nat -> Prop} {o : Nat} {x : FV} : ∀ l : List DV, DV.usesL U l -> DV.usesL U (DV.frzL o x l)
  | [], _ => trivial
  | d :: l, k => ⟨uses_frz d k.1, usesL_frz l k.2⟩
end
def HV.frz (o : Nat) (x : FV) : HV -> HV
  | .blk t cs => .blk t (DV.frzL o x cs)
  | .lst t n l => .lst t n (l.map (DV.frzL o x))
  | .map es => .map (es.map fun e => (e.1, e.2.frz o x))
  | .lent k l => .lent k l
theorem HV.uses_frz {U : Nat -> Prop} {o : Nat} {x : FV} : ∀ v : HV, v.uses U -> (v.frz o x).uses U
  | .blk _ cs, k => usesL_frz cs k
  | .lst _ _ l, k => by simp only [HV.uses, HV.frz, frzL_flatten] at *; exact usesL_frz _ k
  | .map es, k => by simp only [HV.uses, HV.frz, map_frz] at *; exact usesL_frz _ k
  | .lent _ _, _ => trivial
theorem hblk_frz {g : Hd} {o : Nat} {x : FV} (v : HV) : hblk g (v.frz o x) = hblk g v := by cases v <;> rfl
theorem HRel.frz {ρ : Nat -> Hd} {S : Nat -> Prop} {w : World} {o : Nat} {hv : HV} {x : FV} (hx : hv.fv = some x) (H : HRel ρ S w o hv) {id : Nat} {v : HV} (h : HRel ρ S w id v) :
    HRel ρ (Sfrz S (hblk (ρ o) hv)) w id (v.frz o x) := by
  cases v with
  | blk t cs =>
    simp only [HRel, HV.frz] at h ⊢;obtain ⟨b, vs, fz, h1, h2, h3, h4⟩ := h;exact ⟨b, vs, fz, h1, h2, RelL.frz hx H cs vs h3, h4⟩
  | lst t m l =>
    simp only [HRel, HV.frz] at h ⊢;obtain ⟨h1, h2, h3, h4, h5⟩ := h;refine ⟨by simpa using h1, by simpa using h2, by simpa using h3, ?_, ?_⟩
    · intro r hr;obtain ⟨r', hr', rfl⟩ := List.mem_map.1 hr;rw [frzL_eq, List.length_map]; exact h4 _ hr'
    · rcases h5 with h5 | ⟨b, vs, sp, fz, k1, k2, k3, k4, k5⟩
      · exact .inl h5
      · refine .inr ⟨b, vs, sp, fz, k1, k2, ?_, k4, k5⟩;rw [frzL_flatten]; exact RelL.frz hx H _ vs k3
  | map es =>
    simp only [HRel, HV.frz] at h ⊢;obtain ⟨b, vs, ck, h1, h2, h3, h4, h5⟩ := h;refine ⟨b, vs, ck, h1, h2, by rw [h3]; simp [Function.comp], ?_, h5⟩;rw [map_frz]; exact RelL.frz hx H _ _ h4
  | lent k l =>
    simp only [HRel, HV.frz] at h ⊢;exact ⟨h.1, h.2.1, h.2.2.mono (fun b k => .inl k) (fun _ _ => rfl)⟩
def hfrz (o : Nat) (x : FV) (h : Nat -> Option HV) : Nat -> Option HV := fun i => if i = o then none else (h i).map (HV.frz o x)
theorem HSat.frz {B : Base} {U : Nat -> Prop} {ρ : Nat -> Hd} {S : Nat -> Prop} {w : World} {h : Nat -> Option HV} (H : HSat B U ρ S w h)
    {o : Nat} {hv : HV} {x : FV} (ho : h o = some hv) (hx : hv.fv = some x) (hp : ¬ B.U0 o) : HSat B U ρ (Sfrz S (hblk (ρ o) hv)) w (hfrz o x h) := by
  have key : ∀ i v, hfrz o x h i = some v -> i ≠ o /\ ∃ u, h i = some u /\ v = u.frz o x := by
    intro i v hi;unfold hfrz at hi;split at hi
    · simp at hi
    · next e =>
      obtain ⟨u, hu, rfl⟩ := Option.map_eq_some_iff.1 hi;exact ⟨e, u, hu, rfl⟩
  have hO := H.heap o hv ho;exact {
    heap := fun i v hi => by
      obtain ⟨_, u, hu, rfl⟩ := key i v hi;exact HRel.frz hx hO (H.heap i u hu)
    heapU := fun i v hi => by
      obtain ⟨_, u, hu, rfl⟩ := key i v hi;exact ⟨(H.heapU i u hu).1, HV.uses_frz u (H.heapU i u hu).2⟩
    disj := fun i j v u b hi hj hbi hbj => by
      obtain ⟨_, v', hi', rfl⟩ := key i v hi;obtain ⟨_, u', hj', rfl⟩ := key j u hj;rw [hblk_frz] at hbi hbj;exact H.disj i j v' u' b hi' hj' hbi hbj
    sep := fun i v b hi hb hS => by
      obtain ⟨hne, v', hi', rfl⟩ := key i v hi;rw [hblk_frz] at hb;rcases hS with hS | hS
      · exact H.sep i v' b hi' hb hS
      · exact hne (H.disj i o v' hv b hi' ho hb hS)
    prov := fun i v b hi hb => by
      obtain ⟨_, v', hi', rfl⟩ := key i v hi;rw [hblk_frz] at hb;exact H.prov i v' b hi' hb
    sIn := fun b hb => by
      rcases hb with hb | hb
      · exact H.sIn b hb
      · exact hblk_lt hO hb
    sProv := fun b hb => by
      rcases hb with hb | hb
      · exact H.sProv b hb
      · rcases H.prov o hv b ho hb with k | k
        · exact (hp (H.ownU _ _ k)).elim
        · exact .inr k
    sOld := fun b hb => .inl (H.sOld b hb)
    pin := H.pin
    ownU := H.ownU
    os := H.os
    tape := H.tape
    output := H.output
    size := H.size
    keep := H.keep }
theorem ESat.frz [Dfr] {B : Base} {N : Nat} {U : Nat -> Prop} {ρ : Nat -> Hd} {S : Nat -> Prop} {w : World} {h : Nat -> Option HV} {f : Nat -> DV} {a : Act} (H : HSat B U ρ S w h) (E : ESat N U ρ S w f a)
    {o : Nat} {hv : HV} {x : FV} (ho : h o = some hv) (hx : hv.fv = some x) : ESat N U ρ (Sfrz S (hblk (ρ o) hv)) w (fun t => (f t).frz o x) a where
  size := E.size
  defers := E.defers
  env t := Rel.frz hx (H.heap o hv ho) (f t) _ (E.env t)
  envU t := uses_frz _ (E.envU t)
end Go.Eng
