/-
  A part of the engine that reckons calls at the level of data.
  No condition.
-/

import Derived.Test.YtgpllheklfbfhaaGreatEngK
import Derived.Scope
namespace Go.Eng
set_option linter.all false
open Go.RowKit
abbrev LE := List (Nat × DV)
abbrev LH := List (Nat × HV)
def ekeep (A : LE) : List Nat -> LE
  | [] => []
  | t :: G => (t, eget A t) :: ekeep A G
def SWp [Dfr] (P : Program) (N pin : Nat) (c : Code) (Q : Exit -> LE -> LH -> Nat -> Prop) (A : LE) (H : LH) (nx : Nat) : Prop :=
  pin <= nx -> ∀ (B : Base), (∀ i, B.U0 i -> i < pin) -> ∀ (a : Act) (w : World), St B N nx A H a w ->
    c.wp P (fun e a' w' => ∃ A' H' nx', pin <= nx' /\ St B N nx' A' H' a' w' /\ Q e A' H' nx') a w
section
variable [Dfr]
variable {P : Program} {N pin : Nat}
theorem eget_keep (A : LE) : ∀ (G : List Nat) (t : Nat), eget (ekeep A G) t = eget A t ∨ eget (ekeep A G) t = .junk
  | [], _ => .inr rfl
  | s :: G, t => by
    simp only [ekeep, eget];split
    · next e => subst e; exact .inl rfl
    · exact eget_keep A G t
theorem ESat.weak {U : Nat -> Prop} {ρ : Nat -> Hd} {S : Nat -> Prop} {w : World} {f f' : Nat -> DV} {a : Act} (E : ESat N U ρ S w f a) (hf : ∀ t, f' t = f t ∨ f' t = .junk) : ESat N U ρ S w f' a where
  size := E.size
  defers := E.defers
  env t := by rcases hf t with e | e <;> rw [e]
              · exact E.env t
              · simp only [Rel]
  envU t := by rcases hf t with e | e <;> rw [e]
               · exact E.envU t
               · trivial
theorem St.weak {B : Base} {nx : Nat} {A A' : LE} {H : LH} {a : Act} {w : World} (hS : St B N nx A H a w) (hf : ∀ t, eget A' t = eget A t ∨ eget A' t = .junk) : St B N nx A' H a w := by
  obtain ⟨ρ, S, HS, ES⟩ := hS;exact ⟨ρ, S, HS, ES.weak hf⟩
theorem St.keep {G : List Nat} {B : Base} {nx : Nat} {A : LE} {H : LH} {a : Act} {w : World} (hS : St B N nx A H a w) (n : Prop) [Decidable n] : St B N nx (if n then A else ekeep A G) H a w := by
  split
  · exact hS
  · exact hS.weak (eget_keep A G)
theorem St.up {B : Base} {nx nx' : Nat} {A : LE} {H : LH} {a : Act} {w : World} (hS : St B N nx A H a w) (hle : nx <= nx') : St B N nx' A H a w := by
  obtain ⟨ρ, S, HS, ES⟩ := hS;exact ⟨ρ, S, HS.used fun i k => by omega, ES.mono (fun _ _ => rfl) (fun _ k => k) (fun _ _ => rfl) fun i k => by omega⟩
theorem SWp.mono {c : Code} {Q Q' : Exit -> LE -> LH -> Nat -> Prop} {A : LE} {H : LH} {nx : Nat} (h : SWp P N pin c Q A H nx) (hq : ∀ e A H nx, Q e A H nx -> Q' e A H nx) : SWp P N pin c Q' A H nx :=
  fun hp B hB a w hS => wp_mono (h hp B hB a w hS) fun _ _ _ ⟨A', H', nx', k1, k2, k3⟩ => ⟨A', H', nx', k1, k2, hq _ _ _ _ k3⟩
def hkeep (H : LH) : List Nat -> LH
  | [] => []
  | i :: K => match hget H i with
    | some v => (i, v) :: hkeep H K
    | none => hkeep H K
theorem hget_keep (H : LH) : ∀ (K : List Nat) (i : Nat) (v : HV), hget (hkeep H K) i = some v -> hget H i = some v
  | [], _, _, h => by cases h
  | s :: K, i, v, h => by
    simp only [hkeep] at h;split at h
    · next x hx =>
      simp only [hget] at h;split at h
      · next e => subst e; rw [hx]; exact h
      · exact hget_keep H K i v h
    · exact hget_keep H K i v h
def usesA (n : Nat) : LE -> Prop
  | [] => True
  | (_, d) :: A => d.uses (fun i => i < n) /\ usesA n A
def usesH (n : Nat) : LH -> Prop
  | [] => True
  | (i, v) :: H => i < n /\ v.uses (fun i => i < n) /\ usesH n H
theorem usesA_get {n : Nat} : ∀ {A : LE}, usesA n A -> ∀ t, (eget A t).uses fun i => i < n
  | [], _, _ => trivial
  | (s, d) :: A, h, t => by
    simp only [eget]; split
    · exact h.1
    · exact usesA_get h.2 t
theorem usesH_get {n : Nat} : ∀ {H : LH}, usesH n H -> ∀ i v, hget H i = some v -> i < n /\ v.uses fun i => i < n
  | [], _, _, _, h => by cases h
  | (s, d) :: H, hu, i, v, h => by
    simp only [hget] at h; split at h
    · next e => subst e; cases h; exact ⟨hu.1, hu.2.1⟩
    · exact usesH_get hu.2.2 i v h
theorem St.reset {B : Base} {nx n0 : Nat} {A : LE} {H : LH} {a : Act} {w : World} (hS : St B N nx A H a w) (L K : List Nat) (hA : usesA n0 (ekeep A L)) (hH : usesH n0 (hkeep H K)) : St B N n0 (ekeep A L) (hkeep H K) a w := by
  obtain ⟨ρ, S, HS, ES⟩ := hS;refine ⟨ρ, S, (HS.drop (hget_keep H K)).shrink (usesH_get hH), ?_⟩;have := ES.weak (eget_keep A L);exact ⟨this.size, this.defers, this.env, usesA_get hA⟩
end
section
variable {P : Program} {N pin : Nat}
def dcell (T : TD) (off : Nat) (cs : List DV) : Option DV :=
  if T.k.isAgg then (if off + T.size <= cs.length then some (.agg ((cs.drop off).take T.size)) else none) else cs[off]?
def dresL (P : Program) (A : LE) (H : LH) : List ResultVar -> Option (List DV)
  | [] => some []
  | .tmp t :: r => match dresL P A H r with
    | some l => some (eget A t :: l)
    | none => none
  | .cell s t :: r => match td P t, dresL P A H r with
    | some T, some l => match eget A s with
      | .ptr id off => match hget H id with
        | some (.blk _ cs) => match dcell T off cs with
          | some d => some (d :: l)
          | none => none
        | _ => none
      | _ => none
    | _, _ => none
def resD : List DV -> DV
  | [d] => d
  | l => .tup l
def hfrzL (o : Nat) (x : FV) : LH -> LH
  | [] => []
  | (i, v) :: H => if i = o then hfrzL o x H else (i, v.frz o x) :: hfrzL o x H
def frzAll (pin : Nat) : List Nat -> LH -> DV -> Option (LH × DV)
  | [], H, d => some (H, d)
  | o :: F, H, d => match hget H o with
    | some v => match v.fv with
      | some x => if pin <= o then frzAll pin F (hfrzL o x H) (d.frz o x) else none
      | none => none
    | none => frzAll pin F H d
def endP (P : Program) (pin : Nat) (rs : List ResultVar) (ts : List TypeId) (F : List Nat) (R : DV -> LH -> Prop) : Exit -> LE -> LH -> Nat -> Prop := fun e A H _ =>
  match e with
  | .normal | .ret => match dresL P A H rs with
    | some l => match frzAll pin F H (resD (normA P ts l)) with
      | some (H', d) => R d H'
      | none => False
    | none => False
  | _ => False
theorem hget_frz (o : Nat) (x : FV) : ∀ (H : LH), hget (hfrzL o x H) = hfrz o x (hget H)
  | [] => by funext i; simp [hfrzL, hget, hfrz]
  | (s, v) :: H => by
    funext i
    have ih := congrFun (hget_frz o x H) i;simp only [hfrzL];split
    · next e =>
      subst e;rw [ih];simp only [hfrz, hget];split
      · rfl
      · rfl
    · next e =>
      simp only [hget];by_cases h1 : i = s
      · subst h1; simp [hfrz, e]
      · rw [if_neg h1, ih];simp [hfrz, h1]
theorem frzAll_sound {B : Base} {U : Nat -> Prop} {ρ : Nat -> Hd} (hU0 : ∀ i, B.U0 i -> i < pin) : ∀ (F : List Nat) (H H' : LH) (d d' : DV) (S : Nat -> Prop) (w : World) (v : Value), frzAll pin F H d = some (H', d') ->
    HSat B U ρ S w (hget H) -> Rel ρ S w d v -> d.uses U -> ∃ S', HSat B U ρ S' w (hget H') /\ Rel ρ S' w d' v /\ d'.uses U
  | [], H, H', d, d', S, w, v, h, HS, hr, hu => by
    simp only [frzAll, Option.some.injEq, Prod.mk.injEq] at h;obtain ⟨rfl, rfl⟩ := h;exact ⟨S, HS, hr, hu⟩
  | o :: F, H, H', d, d', S, w, v, h, HS, hr, hu => by
    simp only [frzAll] at h;split at h
    · next hv ho =>
      split at h
      · next x hx =>
        split at h
        · next hp =>
          have hno : ¬ B.U0 o := fun k => by have := hU0 o k; omega
          have H1 := HS.frz ho hx hno;rw [<- hget_frz] at H1;exact frzAll_sound hU0 F _ H' _ d' _ w v h H1 (Rel.frz hx (HS.heap o hv ho) d v hr) (uses_frz d hu)
        · cases h
      · cases h
    · exact frzAll_sound hU0 F H H' d d' S w v h HS hr hu
theorem resD_rel {ρ : Nat -> Hd} {S : Nat -> Prop} {w : World} {l : List DV} {vs : List Value} (h : RelL ρ S w l vs) : Rel ρ S w (resD l) (if h : vs.toArray.size = 1 then vs.toArray[0] else .tuple vs.toArray) := by
  match l, vs, h with
  | [], [], _ => simp only [resD, Rel]; exact ⟨[], rfl, trivial⟩
  | [d], [v], h => simpa [resD] using h.1
  | d :: d2 :: l, v :: v2 :: vs, h => simp only [resD, Rel]; exact ⟨_, by simp, h⟩
theorem resD_uses {U : Nat -> Prop} {l : List DV} (h : DV.usesL U l) : (resD l).uses U := by
  match l, h with
  | [], _ => trivial
  | [d], h => exact h.1
  | d :: d2 :: l, h => exact h
def rvF (tmps : Array Value) : ResultVar -> Sem Value
  | .tmp t => pure (tmps.getD t undef)
  | .cell s t => do loadVar t (<- asAddr (tmps.getD s undef))
theorem results_eq (fn : Func) (tmps : Array Value) : results fn tmps = (do
    let vs <- Functor.map List.toArray (fn.results.toList.mapM (rvF tmps))
    pure (if h : vs.size = 1 then vs[0] else .tuple vs)) := by
  unfold results;rw [Array.mapM_eq_mapM_toList];have e : (fun x : ResultVar => match x with
    | .tmp t => (pure (tmps.getD t undef) : Sem Value)
    | .cell a t => do loadVar t (<- asAddr (tmps.getD a undef))) = rvF tmps := by
    funext x; cases x <;> rfl
  rw [<- e];rfl
theorem cell_run {B : Base} {U : Nat -> Prop} {ρ : Nat -> Hd} {S : Nat -> Prop} {w : World} {h : Nat -> Option HV} (HS : HSat B U ρ S w h) {t : TypeId} {T : TD} (hT : td P t = some T) {id off b : Nat} {tt : TypeId} {cs : List DV} {d : DV}
    (hh : h id = some (.blk tt cs)) (hb : (ρ id).a = some ⟨b, 0, none⟩) (hd : dcell T off cs = some d) : ∃ x, (loadVar t ⟨b, off, none⟩).run P w = .ok x w /\ Rel ρ S w d x /\ d.uses U := by
  obtain ⟨i, dd, z, hi, hu, hz, e1, e2, e3, e4, _⟩ := td_spec hT;have h1 := HS.heap id _ hh;have h1u := (HS.heapU id _ hh).2;simp only [HRel] at h1;obtain ⟨b', vs, fz, k1, k2, k3, _⟩ := h1;rw [hb] at k1; simp at k1; subst k1;have hlen := RelL_length k3;unfold dcell at hd;rw [e4, e1] at hd;split at hd
  · next hagg =>
    split at hd
    · next hle =>
      obtain rfl := Option.some.inj hd;refine ⟨.agg ((List.range i.size).map fun j => vs.getD (off + j) default).toArray, run_agg (P := P) hi hu hagg (b := b) (off := off) (w := w) (fun j hj => cell?_heap k2 (by omega)), ?_, ?_⟩
      · simp only [Rel];refine ⟨_, rfl, RelL_range (by simp; omega) fun j hj => ?_⟩;have := RelL_get k3 (off + j) (by omega);simpa [hj] using this
      · exact usesL_sub (fun d hd => List.mem_of_mem_drop (List.mem_of_mem_take hd)) h1u
    · cases hd
  · next hagg =>
    have hlt : off < cs.length := by
      rcases Nat.lt_or_ge off cs.length with k | k
      · exact k
      · simp [List.getElem?_eq_none k] at hd
    have hey : cs.getD off default = d := by rw [List.getD_eq_getElem?_getD, hd]; rfl
    refine ⟨vs.getD off default, run_one (P := P) hu (by simpa using hagg) (w := w) (b := b) (off := off) (cell?_heap k2 (by omega)), ?_, ?_⟩
    · rw [<- hey]; exact RelL_get k3 off hlt
    · rw [<- hey]; exact uses_get h1u
theorem dresL_sound [Dfr] {B : Base} {U : Nat -> Prop} {ρ : Nat -> Hd} {S : Nat -> Prop} {w : World} {a : Act} {A : LE} {H : LH} (HS : HSat B U ρ S w (hget H)) (E : ESat N U ρ S w (eget A) a) : ∀ (r : List ResultVar) (l : List DV), dresL P A H r = some l ->
    ∃ vs : List Value, (r.mapM (m := Sem) (rvF a.tmps)).run P w = .ok vs w /\ RelL ρ S w l vs /\ DV.usesL U l
  | [], l, h => by
    simp only [dresL, Option.some.injEq] at h; subst h;exact ⟨[], by simp, trivial, trivial⟩
  | .tmp t :: r, l, h => by
    simp only [dresL] at h;split at h
    · next l' hl =>
      obtain rfl := Option.some.inj h;obtain ⟨vs, q1, q2, q3⟩ := dresL_sound HS E r l' hl;refine ⟨a.tmps.getD t undef :: vs, ?_, ⟨E.env t, q2⟩, ⟨E.envU t, q3⟩⟩;simp only [List.mapM_cons, rvF, Sem.run_bind, Sem.run_pure, Result.andThen_ok];rw [q1]; rfl
    · cases h
  | .cell s t :: r, l, h => by
    simp only [dresL] at h;split at h
    · next T l' hT hl =>
      split at h
      · next id off he =>
        split at h
        · next tt cs hh =>
          split at h
          · next d hdc =>
            obtain rfl := Option.some.inj h;obtain ⟨vs, q1, q2, q3⟩ := dresL_sound HS E r l' hl;have hv := E.env s;rw [he] at hv;simp only [Rel] at hv;obtain ⟨b, hb, hv⟩ := hv;obtain ⟨x, k1, k2, k3⟩ := cell_run HS hT hh hb hdc;refine ⟨x :: vs, ?_, ⟨k2, q2⟩, ⟨k3, q3⟩⟩;have ha : (asAddr (a.tmps.getD s undef)).run P w = .ok ⟨b, off, none⟩ w := by rw [hv]; rfl
            simp only [List.mapM_cons, rvF, Sem.run_bind, ha, Result.andThen_ok, k1];rw [q1]; rfl
          · cases h
        · cases h
      · cases h
    · cases h
def enum : Nat -> List DV -> LE
  | _, [] => []
  | i, d :: l => (i, d) :: enum (i + 1) l
theorem enum_get : ∀ (l : List DV) (i t : Nat), eget (enum i l) t = if i <= t then l.getD (t - i) .junk else .junk
  | [], i, t => by simp [enum, eget]
  | d :: l, i, t => by
    simp only [enum, eget, enum_get l (i + 1) t];by_cases h : t = i
    · subst h; simp
    · rw [if_neg h];by_cases h2 : i <= t
      · have : t - i = (t - (i + 1)) + 1 := by omega
        rw [if_pos (by omega), if_pos h2, this, List.getD_cons_succ]
      · rw [if_neg (by omega), if_neg h2]
theorem entry {n0 : Nat} {C : List Nat} {U : Nat -> Prop} {ρ : Nat -> Hd} {S : Nat -> Prop} {w : World} {args : List DV} {vs : List Value} {h : LH} (H0 : HSat0 U ρ S w (hget h)) (hC : ∀ i v, hget h i = some v -> i ∈ C ∨ i < pin) (hr : RelL ρ S w args vs) (hu : DV.usesL (fun i => i < n0) args) (hh : usesH n0 h) (hN : args.length <= N) :
    St (Base.of (fun i => i ∈ C) (fun i => i < pin) ρ S w (hget h)) N n0 (enum 0 args) h { tmps := vs.toArray ++ Array.replicate (N - vs.toArray.size) undef, defers := [] } w := by
  have H1 : HSat0 (fun i => i < n0) ρ S w (hget h) := ⟨H0.heap, usesH_get hh, H0.disj, H0.sep, H0.sIn⟩;have hlen := RelL_length hr;refine ⟨ρ, S, H1.to hC, ⟨by simp; omega, rfl, fun t => ?_, fun t => ?_⟩⟩
  · rw [enum_get];simp only [Nat.zero_le, if_true, Nat.sub_zero];by_cases ht : t < args.length
    · have h1 := RelL_get hr t ht;have e1 : args.getD t .junk = args.getD t default := rfl;have e2 : (vs.toArray ++ Array.replicate (N - vs.toArray.size) undef).getD t undef = vs.getD t default := by
        have : t < vs.length := by omega
        simp [Array.getElem?_append, this]
      rw [e1, e2]; exact h1
    · have : args.getD t .junk = .junk := by rw [List.getD_eq_getElem?_getD, List.getElem?_eq_none (by omega)]; rfl
      rw [this]; simp only [Rel]
  · rw [enum_get];simp only [Nat.zero_le, if_true, Nat.sub_zero];exact uses_get hu
theorem body_wp {g : FuncId} {fn : Func} {c : Code} (hf : P.funcs[g]? = some fn) (hb : fn.body = some c) {args : List DV} {h : LH} {F : List Nat} {R : DV -> LH -> Prop}
    {n0 : Nat} {C : List Nat} (hp0 : pin <= n0) (hN : args.length <= fn.ntmps) (hu : DV.usesL (fun i => i < n0) args) (hh : usesH n0 h) (hd : SWp P fn.ntmps pin c (endP P pin fn.results.toList fn.resultTypes.toList F R) (enum 0 args) h n0)
    {U : Nat -> Prop} {ρ : Nat -> Hd} {S : Nat -> Prop} {w : World} {vs : List Value} (H0 : HSat0 U ρ S w (hget h)) (hC : ∀ i v, hget h i = some v -> i ∈ C ∨ i < pin) (hr : RelL ρ S w args vs) :
    c.wp P (bodyPost P fn (fun e w' => ∃ v ρ' S' d' H' nx, e = .returned v /\ HSat (Base.of (fun i => i ∈ C) (fun i => i < pin) ρ S w (hget h)) (fun i => i < nx) ρ' S' w' (hget H') /\ Rel ρ' S' w' d' v /\ d'.uses (fun i => i < nx) /\ R d' H')) { tmps := vs.toArray ++ Array.replicate (fn.ntmps - vs.toArray.size) undef, defers := [] } w := by
  have hst := entry (N := fn.ntmps) H0 hC hr hu hh hN;refine wp_mono (hd hp0 _ (fun i k => k) _ w hst) ?_;rintro e a' w' ⟨A', H', nx', k1, ⟨ρ', S', HS, ES⟩, k3⟩;have fin : ∀ l, dresL P A' H' fn.results.toList = some l -> ∀ H2 d2, frzAll pin F H' (resD (normA P fn.resultTypes.toList l)) = some (H2, d2) -> R d2 H2 -> a'.defers = [] /\ ∃ v, (results fn a'.tmps).run P w' = .ok v w' /\
      ∃ v' ρ' S' d' H' nx, Ending.returned v = .returned v' /\ HSat (Base.of (fun i => i ∈ C) (fun i => i < pin) ρ S w (hget h)) (fun i => i < nx) ρ' S' w' (hget H') /\ Rel ρ' S' w' d' v' /\ d'.uses (fun i => i < nx) /\ R d' H' := by
    intro l hl H2 d2 hz hR;obtain ⟨us, q1, q2, q3⟩ := dresL_sound HS ES fn.results.toList l hl;refine ⟨ES.defers, (if h : us.toArray.size = 1 then us.toArray[0] else .tuple us.toArray), ?_, ?_⟩
    · rw [results_eq];simp only [Sem.run_bind, Sem.run_map, q1, Result.andThen_ok, Sem.run_pure]
    · have hrel := resD_rel (normA_rel (P := P) (ts := fn.resultTypes.toList) q2);have huse := resD_uses (normA_uses (P := P) (ts := fn.resultTypes.toList) q3);obtain ⟨S2, z1, z2, z3⟩ := frzAll_sound (pin := pin) (fun i k => k) F H' H2 _ d2 S' w' _ hz HS hrel huse;exact ⟨_, ρ', S2, d2, H2, nx', rfl, z1, z2, z3, hR⟩
  cases e with
  | normal =>
    simp only [endP] at k3;split at k3
    · next l hl =>
      split at k3
      · next H2 d2 hz => exact fin l hl H2 d2 hz k3
      · exact k3.elim
    · exact k3.elim
  | ret =>
    simp only [endP] at k3;split at k3
    · next l hl =>
      split at k3
      · next H2 d2 hz => exact fin l hl H2 d2 hz k3
      · exact k3.elim
    · exact k3.elim
  | exit id => exact k3.elim
  | goto l => exact k3.elim
  | panic c => exact k3.elim
  | outgrown => exact k3.elim
theorem body_sound {g : FuncId} {fn : Func} {c : Code} (hf : P.funcs[g]? = some fn) (hb : fn.body = some c) {args : List DV} {h : LH} {F : List Nat} {R : DV -> LH -> Prop}
    {n0 : Nat} {C : List Nat} (hp0 : pin <= n0) (hN : args.length <= fn.ntmps) (hu : DV.usesL (fun i => i < n0) args) (hh : usesH n0 h) (hd : SWp P fn.ntmps pin c (endP P pin fn.results.toList fn.resultTypes.toList F R) (enum 0 args) h n0)
    {U : Nat -> Prop} {ρ : Nat -> Hd} {S : Nat -> Prop} {w : World} {vs : List Value} (H0 : HSat0 U ρ S w (hget h)) (hC : ∀ i v, hget h i = some v -> i ∈ C ∨ i < pin) (hr : RelL ρ S w args vs) :
    Calls P g vs.toArray w fun e w' => ∃ v ρ' S' d' H' nx, e = .returned v /\ HSat (Base.of (fun i => i ∈ C) (fun i => i < pin) ρ S w (hget h)) (fun i => i < nx) ρ' S' w' (hget H') /\ Rel ρ' S' w' d' v /\ d'.uses (fun i => i < nx) /\ R d' H' :=
  calls_of_wp hf hb (body_wp hf hb hp0 hN hu hh hd H0 hC hr)
end
attribute [irreducible] endP
end Go.Eng
