/-
  A part of the engine that reckons calls at the level of data.
  No condition.
-/

import Derived.Test.YtgpllheklfbfhaaGreatEngY
namespace Go.Eng
set_option linter.all false
open Go.RowKit
section
variable [Dfr]
variable {P : Program} {N pin nx : Nat} {A : LE} {H : LH} {body : Code} {Q : Exit -> LE -> LH -> Nat -> Prop}
def LWp (P : Program) (N pin : Nat) (body : Code) (Q : Exit -> LE -> LH -> Nat -> Prop) (A : LE) (H : LH) (nx : Nat) : Prop :=
  pin <= nx -> ∀ (B : Base), (∀ i, B.U0 i -> i < pin) -> ∀ (a : Act) (w : World), St B N nx A H a w -> ∀ (b : Frame) (kk : List Item) (cs : List Frame),
    ∃ e a' w', (∃ A' H' nx', pin <= nx' /\ St B N nx' A' H' a' w' /\ Q e A' H' nx') /\ Arrives P (lone (b.at a (.code body :: .inLoop body :: kk)) cs w) b kk cs e a' w'
def roundK (P : Program) (N pin : Nat) (body : Code) (Q : Exit -> LE -> LH -> Nat -> Prop) : Exit -> LE -> LH -> Nat -> Prop := fun e A H nx =>
  match e with
  | .normal => LWp P N pin body Q A H nx
  | e => Q e A H nx
theorem swp_rounds (h : LWp P N pin body Q A H nx) : SWp P N pin (.loop body) Q A H nx := fun hp B hB a w hS b kk cs => by
  obtain ⟨e, a', w', hq, harr⟩ := h hp B hB a w hS b kk cs;exact ⟨e, a', w', hq, .of_steps (.one step_loop) harr⟩
theorem lwp_round (h : SWp P N pin body (roundK P N pin body Q) A H nx) : LWp P N pin body Q A H nx := by
  intro hp B hB a w hS b kk cs;obtain ⟨e, a1, w1, ⟨A', H', nx', q1, q2, q3⟩, harr⟩ := h hp B hB a w hS b (.inLoop body :: kk) cs;cases e with
  | normal =>
    obtain ⟨e2, a2, w2, hq2, harr2⟩ := q3 q1 B hB a1 w1 q2 b kk cs;exact ⟨e2, a2, w2, hq2, .of_steps (Steps.trans harr (.one step_inLoop)) harr2⟩
  | exit id => exact ⟨_, a1, w1, ⟨A', H', nx', q1, q2, q3⟩, .pass (x := .inLoop body) rfl (fun _ _ => .inl (by simp)) harr⟩
  | goto l => exact ⟨_, a1, w1, ⟨A', H', nx', q1, q2, q3⟩, .pass (x := .inLoop body) rfl (fun _ _ => .inl (by simp)) harr⟩
  | ret => exact ⟨_, a1, w1, ⟨A', H', nx', q1, q2, q3⟩, .pass (x := .inLoop body) rfl (fun _ _ => .inl (by simp)) harr⟩
  | panic ch => exact ⟨_, a1, w1, ⟨A', H', nx', q1, q2, q3⟩, .pass (x := .inLoop body) rfl (fun _ _ => .inl (by simp)) harr⟩
  | outgrown => exact ⟨_, a1, w1, ⟨A', H', nx', q1, q2, q3⟩, .pass (x := .inLoop body) rfl (fun _ _ => .inl (by simp)) harr⟩
theorem roundK_normal (G : List Nat) {A2 : LE} (hA : ekeep A G = A2) (h : SWp P N pin body (roundK P N pin body Q) A2 H nx) : roundK P N pin body Q .normal A H nx := by
  subst hA;exact fun hp B hB a w hS => lwp_round h hp B hB a w (hS.weak (eget_keep A G))
theorem roundK_ret (h : Q .ret A H nx) : roundK P N pin body Q .ret A H nx := h
theorem roundK_exit {i : Nat} (h : Q (.exit i) A H nx) : roundK P N pin body Q (.exit i) A H nx := h
end
attribute [irreducible] roundK LWp
def PLe (x y : PV) : Prop := ∀ (S : Nat -> Prop) (w : World) (v : Value), PRel S w x v -> PRel S w y v
theorem PLe.rfl {x : PV} : PLe x x := fun _ _ _ h => h
theorem PLe.nil (n : Nat) : PLe (.lit (.slice none 0 0)) (.dat n []) := fun S w v h => by
  cases h with
  | lit v hv => exact .dat n [] none 0 0 0 (fun _ _ => default) (by simp [BL]) (by simp) (by simp) (by simp) (by simp) (by simp)
theorem PLe.dat {n : Nat} {l l' : List (List PV)} (hl : l'.length = l.length) (hn : ∀ i, i < l'.length -> (l'.getD i []).length = n) (h : ∀ i j, i < l.length -> j < n -> PLe ((l.getD i []).getD j default) ((l'.getD i []).getD j default)) : PLe (.dat n l) (.dat n l') := fun S w v k => by
  cases k with
  | dat n l a b off cap c h1 h2 h3 h4 h5 h6 =>
    rw [<- hl];exact .dat n l' a b off cap c (by omega) (by omega) (fun q => h3 (by omega)) hn (fun i j hi hj => h5 i j (by omega) hj) (fun i j hi hj => h i j (by omega) hj S w _ (h6 i j (by omega) hj))
inductive PLeL : List PV -> List PV -> Prop
  | nil : PLeL [] []
  | cons {x y : PV} {a b : List PV} (h : PLe x y) (t : PLeL a b) : PLeL (x :: a) (y :: b)
inductive PLeR (n : Nat) : List (List PV) -> List (List PV) -> Prop
  | nil : PLeR n [] []
  | cons {x y : List PV} {a b : List (List PV)} (h : PLeL x y) (e : y.length = n) (t : PLeR n a b) : PLeR n (x :: a) (y :: b)
theorem PLeL.get {a b : List PV} (h : PLeL a b) : b.length = a.length /\ ∀ j, PLe (a.getD j default) (b.getD j default) := by
  induction h with
  | nil => exact ⟨rfl, fun j => PLe.rfl⟩
  | cons h t ih =>
    refine ⟨by simp [ih.1], fun j => ?_⟩;cases j with
    | zero => simpa using h
    | succ j => simpa using ih.2 j
theorem PLeR.get {n : Nat} {a b : List (List PV)} (h : PLeR n a b) : b.length = a.length /\ (∀ i, i < b.length -> (b.getD i []).length = n) /\ ∀ i j, PLe ((a.getD i []).getD j default) ((b.getD i []).getD j default) := by
  induction h with
  | nil => exact ⟨rfl, by simp, fun i j => PLe.rfl⟩
  | cons h e t ih =>
    refine ⟨by simp [ih.1], fun i hi => ?_, fun i j => ?_⟩
    · cases i with
      | zero => simpa using e
      | succ i => simpa using ih.2.1 i (by simpa using hi)
    · cases i with
      | zero => simpa using h.get.2 j
      | succ i => simpa using ih.2.2 i j
theorem PLe.rows {n : Nat} {a b : List (List PV)} (h : PLeR n a b) : PLe (.dat n a) (.dat n b) :=
  PLe.dat h.get.1 h.get.2.1 fun i j _ _ => h.get.2.2 i j
theorem DCallsG.giveG {P : Program} {g : FuncId} {C : List Nat} {args : List DV} {d : DV} {m o : Nat} {hv : HV} {x : FV} {h h1 : LH} {h' : Nat -> Option HV} (hx : hv.fv = some x) (hf : hfrzL o x ((o, hv) :: h) = h1) (hc : DCallsG P g C (DV.frzL o x args) (hget h1) m d h') : DCallsG P g (o :: C) args (hget ((o, hv) :: h)) m d h' := by
  refine ⟨hc.1, fun U ρ S w vs H0 hmU hr huU => ?_⟩;have ho : hget ((o, hv) :: h) o = some hv := by simp [hget]
  have hO := H0.heap o hv ho;have hr1 := RelL.frz hx hO args vs hr;have hz := HSat.frz (HSat0.to (C := fun _ => True) (U0 := fun _ => False) H0 (fun _ _ _ => .inl trivial)) ho hx (fun k => k);rw [<- hget_frz, hf] at hz;refine (hc.2 U ρ _ w vs hz.to0 hmU hr1 (usesL_frz args huU)).mono ?_;rintro e w' ⟨v, ρ', S', rfl, HS, hr', hu'⟩;have hh : ∀ i v, hget h1 i = some v -> i ≠ o /\ ∃ u, hget ((o, hv) :: h) i = some u /\ hblk (ρ i) u = hblk (ρ i) v := fun i v hi => by
    rw [<- hf, hget_frz] at hi;unfold hfrz at hi;split at hi
    · cases hi
    · next e =>
      obtain ⟨u, hu, rfl⟩ := Option.map_eq_some_iff.1 hi;exact ⟨e, u, hu, (hblk_frz u).symm⟩
  have own : ∀ i b, (Base.of (fun i => i ∈ C) U ρ (Sfrz S (hblk (ρ o) hv)) w (hget h1)).own0 i b -> (Base.of (fun i => i ∈ o :: C) U ρ S w (hget ((o, hv) :: h))).own0 i b := fun i b ⟨k1, k2, u, k3, k4⟩ =>
    ⟨fun k => by
      rcases List.mem_cons.1 k with e | e
      · exact (hh i u k3).1 e
      · exact k1 e, k2, (hh i u k3).2.elim fun u' k => ⟨u', k.1, k.2.trans k4⟩⟩
  have free : ∀ b, (Base.of (fun i => i ∈ C) U ρ (Sfrz S (hblk (ρ o) hv)) w (hget h1)).free0 b -> (Base.of (fun i => i ∈ o :: C) U ρ S w (hget ((o, hv) :: h))).free0 b := fun b ⟨j, u, k1, k2, k3⟩ =>
    (hh j u k2).2.elim fun u' k => ⟨j, u', List.mem_cons_of_mem _ k1, k.1, k.2.trans k3⟩
  exact ⟨v, ρ', S', rfl, {
    heap := HS.heap, heapU := HS.heapU, disj := HS.disj, sep := HS.sep
    prov := fun i v b hi hb => by
      rcases HS.prov i v b hi hb with k | k | k
      · exact .inl (own i b k)
      · exact .inr (.inl (free b k))
      · exact .inr (.inr k)
    sIn := HS.sIn
    sProv := fun b hb => by
      rcases HS.sProv b hb with (k | k) | k | k
      · exact .inl k
      · exact .inr (.inl ⟨o, hv, List.mem_cons_self, ho, k⟩)
      · exact .inr (.inl (free b k))
      · exact .inr (.inr k)
    sOld := fun b hb => HS.sOld b (.inl hb)
    pin := HS.pin
    ownU := fun i b hb => hb.2.1
    os := HS.os, tape := HS.tape, output := HS.output, size := HS.size
    keep := fun b hb k1 k2 => HS.keep b hb (fun i k => k1 i (own i b k)) (fun k => k2 (free b k)) }, hr', hu'⟩
def see1 (o : Nat) (y : PV) : DV -> DV
  | .gl i => if i = o then .p y else .gl i
  | d => d
def seeL (o : Nat) (y : PV) : List DV -> List DV
  | [] => []
  | d :: r => see1 o y d :: seeL o y r
theorem see1_rel {ρ : Nat -> Hd} {S : Nat -> Prop} {w : World} {o : Nat} {y : PV} (hy : PRel S w y (.slice (ρ o).a (ρ o).len (ρ o).cap)) : ∀ (d : DV) (v : Value), Rel ρ S w d v -> Rel ρ S w (see1 o y d) v := by
  intro d v h;cases d with
  | gl i =>
    simp only [see1];split
    · next e =>
      subst e;simp only [Rel] at h ⊢;rw [h]; exact hy
    · exact h
  | _ => exact h
theorem see1_uses {U : Nat -> Prop} {o : Nat} {y : PV} (d : DV) (h : d.uses U) : (see1 o y d).uses U := by
  cases d with
  | gl i =>
    simp only [see1];split
    · trivial
    · exact h
  | _ => exact h
theorem seeL_rel {ρ : Nat -> Hd} {S : Nat -> Prop} {w : World} {o : Nat} {y : PV} (hy : PRel S w y (.slice (ρ o).a (ρ o).len (ρ o).cap)) : ∀ (ds : List DV) (vs : List Value), RelL ρ S w ds vs -> RelL ρ S w (seeL o y ds) vs
  | [], [], _ => trivial
  | d :: ds, v :: vs, h => ⟨see1_rel hy d v h.1, seeL_rel hy ds vs h.2⟩
  | [], _ :: _, h => h.elim
  | _ :: _, [], h => h.elim
theorem seeL_uses {U : Nat -> Prop} {o : Nat} {y : PV} : ∀ ds : List DV, DV.usesL U ds -> DV.usesL U (seeL o y ds)
  | [], _ => trivial
  | d :: ds, h => ⟨see1_uses d h.1, seeL_uses ds h.2⟩
section
variable [Dfr]
variable {P : Program} {N pin nx : Nat}
theorem DCallsG.lent {g : FuncId} {args : List DV} {d : DV} {m o n : Nat} {l : List (List PV)} (hc : ∀ m, DCalls P g (seeL o (.dat n l) args) (hget []) m d (hget [])) :
    DCalls P g args (hget [(o, .lent n l)]) m d (hget [(o, .lent n l)]) := by
  refine ⟨(hc 0).1, fun U ρ S w vs H0 hmU hr huU => ?_⟩;have ho : hget [(o, HV.lent n l)] o = some (.lent n l) := by simp [hget]
  have key : ∀ i v, hget [(o, HV.lent n l)] i = some v -> i = o /\ v = .lent n l := fun i v k => by
    simp only [hget] at k;split at k
    · next e => exact ⟨e, (Option.some.inj k).symm⟩
    · cases k
  have hO := H0.heap o _ ho;simp only [HRel] at hO;have H1 : HSat0 U ρ S w (hget []) := ⟨fun _ _ k => (hnil_no k).elim, fun _ _ k => (hnil_no k).elim, fun _ _ _ _ _ k => (hnil_no k).elim, fun _ _ _ k => (hnil_no k).elim, H0.sIn⟩;have eb : Base.of (fun i => i ∈ ([] : List Nat)) U ρ S w (hget [(o, .lent n l)]) = Base.of (fun i => i ∈ ([] : List Nat)) U ρ S w (hget []) := by
    have e1 : ∀ i b, (∃ v, hget [(o, HV.lent n l)] i = some v /\ hblk (ρ i) v = some b) -> False := fun i b ⟨v, k1, k2⟩ => by
      obtain ⟨rfl, rfl⟩ := key i v k1;cases k2
    have e2 : ∀ i b, (∃ v, hget ([] : LH) i = some v /\ hblk (ρ i) v = some b) -> False := fun i b ⟨v, k1, k2⟩ => hnil_no k1
    unfold Base.of;congr 1
    · funext i b
      exact propext ⟨fun k => (e1 i b k.2.2).elim, fun k => (e2 i b k.2.2).elim⟩
    · funext b
      exact propext ⟨fun ⟨i, v, k, _⟩ => (by cases k), fun ⟨i, v, k, _⟩ => (by cases k)⟩
  refine ((hc m).2 U ρ S w vs H1 hmU (seeL_rel hO.2.2 args vs hr) (seeL_uses args huU)).mono ?_;rintro e w' ⟨v, ρ', S', rfl, HS, hr', hu'⟩;refine ⟨v, ρ', S', rfl, ?_, hr', hu'⟩;rw [eb];have hkeep : ∀ b, b < w.heap.size -> w'.heap[b]? = w.heap[b]? := fun b hb => HS.keep b hb (fun i ⟨_, _, v, k, _⟩ => hnil_no k) (fun ⟨i, v, k, _⟩ => by cases k)
  have hoU : U o := (H0.heapU o _ ho).1;exact {
    heap := fun i v k => by
      obtain ⟨rfl, rfl⟩ := key i v k;simp only [HRel];rw [HS.pin i hoU];exact ⟨hO.1, hO.2.1, hO.2.2.mono (fun b hb => HS.sOld b hb) fun b hb => hkeep b (H0.sIn b hb)⟩
    heapU := fun i v k => by
      obtain ⟨rfl, rfl⟩ := key i v k;exact ⟨.inl hoU, trivial⟩
    disj := fun i j v u b hi hj hbi hbj => by
      obtain ⟨rfl, rfl⟩ := key i v hi;cases hbi
    sep := fun i v b hi hb => by
      obtain ⟨rfl, rfl⟩ := key i v hi;cases hb
    prov := fun i v b hi hb => by
      obtain ⟨rfl, rfl⟩ := key i v hi;cases hb
    sIn := HS.sIn
    sProv := HS.sProv
    sOld := HS.sOld
    pin := HS.pin
    ownU := HS.ownU
    os := HS.os
    tape := HS.tape
    output := HS.output
    size := HS.size
    keep := HS.keep }
end
end Go.Eng
