/-
  A part of the engine that reckons calls at the level of data.
  No condition.
-/

import Derived.WalkKit
import Derived.Orders
import Derived.Still
import Derived.MapKept
namespace Go.Eng
set_option linter.all false
inductive PV where
  | lit (v : Value)
  | dat (n : Nat) (l : List (List PV))
  | ptr (cs : List PV)
  
  | ub
  
  | map (ks : List Value) (xs : List PV)
instance : Inhabited PV := ⟨.lit (.tuple #[])⟩
inductive DV where
  | p (x : PV)
  | ptr (id off : Nat)
  | eptr (id n i j : Nat)
  | gl (id : Nat)
  | mref (id : Nat)
  | clo (f : FuncId) (caps : List DV)
  | agg (cs : List DV)
  | tup (cs : List DV)
  | opt (b : Bool) (d : DV)
  | junk
instance : Inhabited DV := ⟨.junk⟩
inductive HV where
  | blk (t : TypeId) (cs : List DV)
  | lst (t : TypeId) (n : Nat) (l : List (List DV))
  | map (es : List (Value × DV))
  
  | lent (n : Nat) (l : List (List PV))
def vcell : Value -> Bool
  | .agg _ | .tuple _ => false
  | _ => true
def BL : Nat := 281474976710656
structure Hd where
  a : Option Addr
  len : Nat
  cap : Nat
inductive PRel (S : Nat -> Prop) (w : World) : PV -> Value -> Prop
  | ub (b : Bool) : PRel S w .ub (.bool b)
  | lit (v : Value) (h : vcell v = true) : PRel S w (.lit v) v
  | dat (n : Nat) (l : List (List PV)) (a : Option Addr) (b off cap : Nat) (c : Nat -> Nat -> Value)
      (hl : l.length <= BL) (hcap : l.length <= cap)
      (ha : 0 < l.length -> a = some ⟨b, off, none⟩ /\ S b)
      (hn : ∀ i, i < l.length -> (l.getD i []).length = n)
      (hc : ∀ i j, i < l.length -> j < n -> w.cell? ⟨b, off + (i * n + j), none⟩ = some (c i j))
      (hr : ∀ i j, i < l.length -> j < n -> PRel S w ((l.getD i []).getD j default) (c i j)) :
      PRel S w (.dat n l) (.slice a l.length cap)
  | ptr (cs : List PV) (b off : Nat) (c : Nat -> Value) (hS : S b)
      (hc : ∀ j, j < cs.length -> w.cell? ⟨b, off + j, none⟩ = some (c j))
      (hr : ∀ j, j < cs.length -> PRel S w (cs.getD j default) (c j)) :
      PRel S w (.ptr cs) (.pointer (some ⟨b, off, none⟩))
  | map (ks : List Value) (xs : List PV) (b : Nat) (vs : List MapEntry) (ck : Nat) (hS : S b)
      (hb : w.heap[b]? = some (.map (List.toArray vs) ck)) (hk : vs.map (·.key) = ks) (hl : xs.length = ks.length)
      (hr : ∀ j, j < xs.length -> PRel S w (xs.getD j default) ((vs.map (·.val)).getD j default))
      (hs : MapKept.Stamped (List.toArray vs) ck) :
      PRel S w (.map ks xs) (.map (some b))
mutual
def Rel (ρ : Nat -> Hd) (S : Nat -> Prop) (w : World) : DV -> Value -> Prop
  | .p x, v => PRel S w x v
  | .ptr id off, v => ∃ b, (ρ id).a = some ⟨b, 0, none⟩ /\ v = .pointer (some ⟨b, off, none⟩)
  | .eptr id n i j, v => ∃ b, (ρ id).a = some ⟨b, 0, none⟩ /\ v = .pointer (some ⟨b, i * n + j, none⟩)
  | .gl id, v => v = .slice (ρ id).a (ρ id).len (ρ id).cap
  | .mref id, v => ∃ b, (ρ id).a = some ⟨b, 0, none⟩ /\ v = .map (some b)
  | .clo f caps, v => ∃ vs : List Value, v = .func (.func f) #[] vs.toArray /\ RelL ρ S w caps vs
  | .agg cs, v => ∃ vs : List Value, v = .agg vs.toArray /\ RelL ρ S w cs vs
  | .tup cs, v => ∃ vs : List Value, v = .tuple vs.toArray /\ RelL ρ S w cs vs
  | .opt b d, v => (b = true -> Rel ρ S w d v) /\ (b = false -> v = undef)
  | .junk, _ => True
def RelL (ρ : Nat -> Hd) (S : Nat -> Prop) (w : World) : List DV -> List Value -> Prop
  | [], [] => True
  | d :: ds, v :: vs => Rel ρ S w d v /\ RelL ρ S w ds vs
  | _, _ => False
end
mutual
def DV.uses (U : Nat -> Prop) : DV -> Prop
  | .p _ => True
  | .ptr id _ => U id
  | .eptr id _ _ _ => U id
  | .gl id => U id
  | .mref id => U id
  | .clo _ caps => DV.usesL U caps
  | .agg cs => DV.usesL U cs
  | .tup cs => DV.usesL U cs
  | .opt b d => b = true -> DV.uses U d
  | .junk => True
def DV.usesL (U : Nat -> Prop) : List DV -> Prop
  | [] => True
  | d :: ds => DV.uses U d /\ DV.usesL U ds
end
def HV.uses (U : Nat -> Prop) : HV -> Prop
  | .blk _ cs => DV.usesL U cs
  | .lst _ _ l => DV.usesL U l.flatten
  | .map es => DV.usesL U (es.map (·.2))
  | .lent _ _ => True
def hblk (g : Hd) : HV -> Option Nat
  | .blk .. => g.a.map (·.block)
  | .lst .. => if g.cap = 0 then none else g.a.map (·.block)
  | .map .. => g.a.map (·.block)
  | .lent .. => none
def HRel (ρ : Nat -> Hd) (S : Nat -> Prop) (w : World) (id : Nat) : HV -> Prop
  | .blk t cs => ∃ b vs fz, (ρ id).a = some ⟨b, 0, none⟩ /\ w.heap[b]? = some (.cells (List.toArray vs) t fz) /\ RelL ρ S w cs vs /\
      ∀ i, i < vs.length -> ¬ (fz.1 <= i /\ i < fz.2)
  | .lst t n l => (ρ id).len = l.length /\ l.length <= BL /\ l.length <= (ρ id).cap /\ (∀ r, r ∈ l -> r.length = n) /\
      ((ρ id).cap = 0 ∨ ∃ b vs sp fz, (ρ id).a = some ⟨b, 0, none⟩ /\ w.heap[b]? = some (.cells (List.toArray (vs ++ sp)) t fz) /\ RelL ρ S w l.flatten vs /\
        (vs ++ sp).length = (ρ id).cap * n /\ ∀ i, i < (vs ++ sp).length -> ¬ (fz.1 <= i /\ i < fz.2))
  | .map es => ∃ b vs ck, (ρ id).a = some ⟨b, 0, none⟩ /\ w.heap[b]? = some (.map (List.toArray vs) ck) /\ vs.map (·.key) = es.map (·.1) /\ RelL ρ S w (es.map (·.2)) (vs.map (·.val)) /\ MapKept.Stamped (List.toArray vs) ck
  | .lent n l => (ρ id).len = l.length /\ l.length <= BL /\ PRel S w (.dat n l) (.slice (ρ id).a (ρ id).len (ρ id).cap)
theorem usesL_iff {U : Nat -> Prop} : ∀ {l : List DV}, DV.usesL U l ↔ ∀ d, d ∈ l -> DV.uses U d
  | [] => by simp [DV.usesL]
  | d :: l => by simp [DV.usesL, usesL_iff (l := l)]
mutual
theorem uses_mono {U U' : Nat -> Prop} (h : ∀ i, U i -> U' i) : ∀ d : DV, DV.uses U d -> DV.uses U' d
  | .p _, _ => trivial
  | .ptr _ _, k => h _ k
  | .eptr .., k => h _ k
  | .gl _, k => h _ k
  | .mref _, k => h _ k
  | .clo _ cs, k => usesL_mono h cs k
  | .agg cs, k => usesL_mono h cs k
  | .tup cs, k => usesL_mono h cs k
  | .opt _ d, k => fun e => uses_mono h d (k e)
  | .junk, _ => trivial
theorem usesL_mono {U U' : Nat -> Prop} (h : ∀ i, U i -> U' i) : ∀ l : List DV, DV.usesL U l -> DV.usesL U' l
  | [], _ => trivial
  | d :: l, k => ⟨uses_mono h d k.1, usesL_mono h l k.2⟩
end
theorem HV.uses_mono {U U' : Nat -> Prop} (h : ∀ i, U i -> U' i) : ∀ v : HV, v.uses U -> v.uses U'
  | .blk _ cs, k => usesL_mono h cs k
  | .lst _ _ l, k => usesL_mono h l.flatten k
  | .map es, k => by simp only [HV.uses] at *; exact usesL_mono h _ k
  | .lent _ _, _ => trivial
theorem RelL_length {ρ : Nat -> Hd} {S : Nat -> Prop} {w : World} : ∀ {ds : List DV} {vs : List Value}, RelL ρ S w ds vs -> ds.length = vs.length
  | [], [], _ => rfl
  | _ :: _, _ :: _, h => by simp [RelL_length h.2]
  | [], _ :: _, h => h.elim
  | _ :: _, [], h => h.elim
theorem RelL_append {ρ : Nat -> Hd} {S : Nat -> Prop} {w : World} : ∀ {ds ds' : List DV} {vs vs' : List Value}, RelL ρ S w ds vs -> RelL ρ S w ds' vs' -> RelL ρ S w (ds ++ ds') (vs ++ vs')
  | [], _, [], _, _, k => k
  | _ :: _, _, _ :: _, _, h, k => ⟨h.1, RelL_append h.2 k⟩
  | [], _, _ :: _, _, h, _ => h.elim
  | _ :: _, _, [], _, h, _ => h.elim
theorem RelL_get {ρ : Nat -> Hd} {S : Nat -> Prop} {w : World} : ∀ {ds : List DV} {vs : List Value}, RelL ρ S w ds vs -> ∀ i, i < ds.length -> Rel ρ S w (ds.getD i default) (vs.getD i default)
  | [], _, _, i, hi => by simp at hi
  | _ :: _, _ :: _, h, 0, _ => by simpa using h.1
  | _ :: ds, _ :: _, h, i + 1, hi => by
    have := RelL_get (ds := ds) h.2 i (by simpa using hi);simpa using this
  | _ :: _, [], h, _, _ => h.elim
theorem RelL_mk {ρ : Nat -> Hd} {S : Nat -> Prop} {w : World} : ∀ {ds : List DV} {vs : List Value}, ds.length = vs.length -> (∀ i, i < ds.length -> Rel ρ S w (ds.getD i default) (vs.getD i default)) -> RelL ρ S w ds vs
  | [], [], _, _ => trivial
  | d :: ds, v :: vs, hl, h => ⟨by simpa using h 0 (by simp), RelL_mk (by simpa using hl) fun i hi => by simpa using h (i + 1) (by simpa using hi)⟩
  | [], _ :: _, hl, _ => by simp at hl
  | _ :: _, [], hl, _ => by simp at hl
theorem RelL_drop {ρ : Nat -> Hd} {S : Nat -> Prop} {w : World} : ∀ {ds : List DV} {vs : List Value} (n : Nat), RelL ρ S w ds vs -> RelL ρ S w (ds.drop n) (vs.drop n)
  | _, _, 0, h => by simpa using h
  | [], [], _ + 1, _ => trivial
  | _ :: _, _ :: _, n + 1, h => by simpa using RelL_drop n h.2
  | [], _ :: _, _ + 1, h => h.elim
  | _ :: _, [], _ + 1, h => h.elim
theorem RelL_take {ρ : Nat -> Hd} {S : Nat -> Prop} {w : World} : ∀ {ds : List DV} {vs : List Value} (n : Nat), RelL ρ S w ds vs -> RelL ρ S w (ds.take n) (vs.take n)
  | _, _, 0, _ => trivial
  | [], [], _ + 1, _ => trivial
  | _ :: _, _ :: _, n + 1, h => ⟨h.1, RelL_take n h.2⟩
  | [], _ :: _, _ + 1, h => h.elim
  | _ :: _, [], _ + 1, h => h.elim
theorem PRel.cell {S : Nat -> Prop} {w : World} {x : PV} {v : Value} (h : PRel S w x v) : vcell v = true := by
  cases h <;> first | assumption | rfl
def DV.cellB : DV -> Bool
  | .p _ | .ptr .. | .eptr .. | .gl _ | .mref _ | .clo .. => true
  | _ => false
theorem Rel.cell {ρ : Nat -> Hd} {S : Nat -> Prop} {w : World} {d : DV} {v : Value} (h : Rel ρ S w d v) (hd : d.cellB = true) : vcell v = true := by
  cases d with
  | p x => simp only [Rel] at h; exact h.cell
  | ptr id off => simp only [Rel] at h; obtain ⟨b, _, rfl⟩ := h; rfl
  | eptr id n i j => simp only [Rel] at h; obtain ⟨b, _, rfl⟩ := h; rfl
  | gl id => simp only [Rel] at h; subst h; rfl
  | mref id => simp only [Rel] at h; obtain ⟨b, _, rfl⟩ := h; rfl
  | clo f caps => simp only [Rel] at h; obtain ⟨vs, rfl, _⟩ := h; rfl
  | agg cs => simp [DV.cellB] at hd
  | tup cs => simp [DV.cellB] at hd
  | opt b d => simp [DV.cellB] at hd
  | junk => simp [DV.cellB] at hd
theorem cell?_of_heap {w w' : World} {b off : Nat} (h : w'.heap[b]? = w.heap[b]?) : w'.cell? ⟨b, off, none⟩ = w.cell? ⟨b, off, none⟩ := by
  simp [World.cell?, h]
theorem PRel.mono {S S' : Nat -> Prop} {w w' : World} (hS : ∀ b, S b -> S' b) (hw : ∀ b, S b -> w'.heap[b]? = w.heap[b]?) {x : PV} {v : Value} (h : PRel S w x v) : PRel S' w' x v := by
  induction h with
  | ub b => exact .ub b
  | lit v h => exact .lit v h
  | dat n l a b off cap c hl hcap ha hn hc hr ih =>
    refine .dat n l a b off cap c hl hcap (fun h0 => ⟨(ha h0).1, hS _ (ha h0).2⟩) hn (fun i j hi hj => ?_) (fun i j hi hj => ih i j hi hj);rw [cell?_of_heap (hw b (ha (by omega)).2)]; exact hc i j hi hj
  | ptr cs b off c hb hc hr ih =>
    refine .ptr cs b off c (hS b hb) (fun j hj => ?_) (fun j hj => ih j hj);rw [cell?_of_heap (hw b hb)]; exact hc j hj
  | map ks xs b vs ck hb h1 hk hl hr hs ih => exact .map ks xs b vs ck (hS b hb) (by rw [hw b hb]; exact h1) hk hl ih hs
mutual
theorem Rel.mono {ρ ρ' : Nat -> Hd} {S S' U : Nat -> Prop} {w w' : World} (hρ : ∀ i, U i -> ρ' i = ρ i) (hS : ∀ b, S b -> S' b) (hw : ∀ b, S b -> w'.heap[b]? = w.heap[b]?) :
    ∀ (d : DV) (v : Value), d.uses U -> Rel ρ S w d v -> Rel ρ' S' w' d v
  | .p x, v, _, h => by simp only [Rel] at *; exact h.mono hS hw
  | .ptr id off, v, hu, h => by simp only [Rel, DV.uses] at *; rw [hρ _ hu]; exact h
  | .eptr id n i j, v, hu, h => by simp only [Rel, DV.uses] at *; rw [hρ _ hu]; exact h
  | .gl id, v, hu, h => by simp only [Rel, DV.uses] at *; rw [hρ _ hu]; exact h
  | .mref id, v, hu, h => by simp only [Rel, DV.uses] at *; rw [hρ _ hu]; exact h
  | .clo f cs, v, hu, h => by
    simp only [Rel, DV.uses] at *
    obtain ⟨vs, rfl, h⟩ := h;exact ⟨vs, rfl, RelL.mono hρ hS hw cs vs hu h⟩
  | .agg cs, v, hu, h => by
    simp only [Rel, DV.uses] at *
    obtain ⟨vs, rfl, h⟩ := h;exact ⟨vs, rfl, RelL.mono hρ hS hw cs vs hu h⟩
  | .tup cs, v, hu, h => by
    simp only [Rel, DV.uses] at *
    obtain ⟨vs, rfl, h⟩ := h;exact ⟨vs, rfl, RelL.mono hρ hS hw cs vs hu h⟩
  | .opt b d, v, hu, h => by
    simp only [Rel, DV.uses] at *
    exact ⟨fun e => Rel.mono hρ hS hw d v (hu e) (h.1 e), h.2⟩
  | .junk, v, _, _ => by simp only [Rel]
theorem RelL.mono {ρ ρ' : Nat -> Hd} {S S' U : Nat -> Prop} {w w' : World} (hρ : ∀ i, U i -> ρ' i = ρ i) (hS : ∀ b, S b -> S' b) (hw : ∀ b, S b -> w'.heap[b]? = w.heap[b]?) :
    ∀ (ds : List DV) (vs : List Value), DV.usesL U ds -> RelL ρ S w ds vs -> RelL ρ' S' w' ds vs
  | [], [], _, _ => trivial
  | d :: ds, v :: vs, hu, h => ⟨Rel.mono hρ hS hw d v hu.1 h.1, RelL.mono hρ hS hw ds vs hu.2 h.2⟩
  | [], _ :: _, _, h => h.elim
  | _ :: _, [], _, h => h.elim
end
theorem HRel.mono {ρ ρ' : Nat -> Hd} {S S' U : Nat -> Prop} {w w' : World} (hρ : ∀ i, U i -> ρ' i = ρ i) (hS : ∀ b, S b -> S' b) (hw : ∀ b, S b -> w'.heap[b]? = w.heap[b]?)
    {id : Nat} {v : HV} (hid : U id) (hu : v.uses U) (hb : ∀ b, hblk (ρ id) v = some b -> w'.heap[b]? = w.heap[b]?) (h : HRel ρ S w id v) : HRel ρ' S' w' id v := by
  cases v with
  | blk t cs =>
    simp only [HRel] at *
    obtain ⟨b, vs, fz, h1, h2, h3, h4⟩ := h;refine ⟨b, vs, fz, by rw [hρ _ hid]; exact h1, ?_, RelL.mono hρ hS hw cs vs hu h3, h4⟩;rw [hb b (by simp [hblk, h1])]; exact h2
  | lst t n l =>
    simp only [HRel] at *
    rw [hρ _ hid];obtain ⟨h1, h2, h3, h4, h5⟩ := h;refine ⟨h1, h2, h3, h4, ?_⟩;rcases h5 with h5 | ⟨b, vs, sp, fz, k1, k2, k3, k4, k5⟩
    · exact .inl h5
    · by_cases hc : (ρ id).cap = 0
      · exact .inl hc
      · exact .inr ⟨b, vs, sp, fz, k1, by rw [hb b (by simp [hblk, hc, k1])]; exact k2, RelL.mono hρ hS hw _ vs hu k3, k4, k5⟩
  | map es =>
    simp only [HRel] at *
    obtain ⟨b, vs, ck, h1, h2, h3, h4, h5⟩ := h;refine ⟨b, vs, ck, by rw [hρ _ hid]; exact h1, ?_, h3, RelL.mono hρ hS hw _ _ hu h4, h5⟩;rw [hb b (by simp [hblk, h1])]; exact h2
  | lent n l =>
    simp only [HRel] at *
    rw [hρ _ hid]; exact ⟨h.1, h.2.1, h.2.2.mono hS hw⟩
end Go.Eng
