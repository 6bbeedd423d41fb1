/-
  A part of the engine that reckons calls at the level of data.
  No condition.
-/

import Derived.Test.YtgpllheklfbfhaaGreatEngIO
namespace Go.Eng
set_option linter.all false
open Go.RowKit
def eget : List (Nat × DV) -> Nat -> DV
  | [], _ => .junk
  | (s, d) :: r, t => if t = s then d else eget r t
def hget : List (Nat × HV) -> Nat -> Option HV
  | [], _ => none
  | (s, d) :: r, t => if t = s then some d else hget r t
def hset : List (Nat × HV) -> Nat -> HV -> List (Nat × HV)
  | [], i, v => [(i, v)]
  | (s, d) :: r, i, v => if i = s then (s, v) :: r else (s, d) :: hset r i v
def eren (o n : Nat) : List (Nat × DV) -> List (Nat × DV)
  | [] => []
  | (s, d) :: r => (s, d.ren o n) :: eren o n r
def hrenL (o n : Nat) : List (Nat × HV) -> List (Nat × HV)
  | [] => []
  | (s, d) :: r => (s, d.ren o n) :: hrenL o n r
def eput (A : List (Nat × DV)) (dst : Option Nat) (d : DV) : List (Nat × DV) :=
  match dst with
  | some t => (t, d) :: A
  | none => A
def effHL (nid : Nat) (H : List (Nat × HV)) : Eff -> List (Nat × HV)
  | .no => H
  | .add id v => (id, v) :: H
  | .set id v => hset H id v
  | .app old v => hset (hrenL old nid H) old v
def effFL (nid : Nat) (A : List (Nat × DV)) : Eff -> List (Nat × DV)
  | .app old _ => eren old nid A
  | _ => A
theorem eget_put (A : List (Nat × DV)) (t : Nat) (d : DV) : eget ((t, d) :: A) = upd (eget A) t d := by
  funext i; simp [eget, upd]
theorem eget_ren (o n : Nat) : ∀ A : List (Nat × DV), eget (eren o n A) = fun t => (eget A t).ren o n
  | [] => by funext t; rfl
  | (s, d) :: r => by
    funext t
    simp only [eren, eget, eget_ren o n r];split <;> rfl
theorem hget_set : ∀ (H : List (Nat × HV)) (i : Nat) (v : HV), hget (hset H i v) = upd (hget H) i (some v)
  | [], i, v => by funext t; simp [hset, hget, upd]
  | (s, d) :: r, i, v => by
    funext t
    simp only [hset];split
    · next e => subst e; simp only [hget, upd]; split <;> rfl
    · next e =>
      simp only [hget, hget_set r i v, upd];split
      · next e2 => subst e2; rw [if_neg (fun h => e h.symm)]
      · rfl
theorem hget_ren (o n : Nat) : ∀ (H : List (Nat × HV)) (t : Nat), hget (hrenL o n H) t = (hget H t).map (HV.ren o n)
  | [], _ => rfl
  | (s, d) :: r, t => by
    simp only [hrenL, hget, hget_ren o n r];split <;> rfl
theorem effHL_eq {nid : Nat} {H : List (Nat × HV)} (hn : hget H nid = none) (e : Eff) : hget (effHL nid H e) = effH nid (hget H) e := by
  cases e with
  | no => rfl
  | add id v => funext i; simp [effHL, effH, hget, upd]
  | set id v => exact hget_set H id v
  | app old v =>
    simp only [effHL, effH];rw [hget_set];funext i
    by_cases h1 : i = old
    · subst h1; simp
    · rw [upd_ne _ _ h1, upd_ne _ _ h1, hget_ren];by_cases h2 : i = nid
      · subst h2; simp [hn]
      · rw [upd_ne _ _ h2]; simp [hren, h2, h1]
theorem effFL_eq (nid : Nat) (A : List (Nat × DV)) (e : Eff) : eget (effFL nid A e) = effF nid (eget A) e := by
  cases e with
  | app old v => exact eget_ren old nid A
  | _ => rfl
def W8 (m i : Nat) : Prop := m <= i /\ i < m + 8
def Base.of (C : Nat -> Prop) (U : Nat -> Prop) (ρ : Nat -> Hd) (S : Nat -> Prop) (w : World) (h : Nat -> Option HV) : Base :=
  { w0 := w, own0 := fun i b => ¬ C i /\ U i /\ ∃ v, h i = some v /\ hblk (ρ i) v = some b, S0 := S, ρ0 := ρ, U0 := U, free0 := fun b => ∃ i v, C i /\ h i = some v /\ hblk (ρ i) v = some b }
structure HSat0 (U : Nat -> Prop) (ρ : Nat -> Hd) (S : Nat -> Prop) (w : World) (h : Nat -> Option HV) : Prop where
  heap : ∀ id v, h id = some v -> HRel ρ S w id v
  heapU : ∀ id v, h id = some v -> U id /\ v.uses U
  disj : ∀ i j v u b, h i = some v -> h j = some u -> hblk (ρ i) v = some b -> hblk (ρ j) u = some b -> i = j
  sep : ∀ id v b, h id = some v -> hblk (ρ id) v = some b -> ¬ S b
  sIn : ∀ b, S b -> b < w.heap.size
theorem HSat0.to {C U U0 : Nat -> Prop} {ρ : Nat -> Hd} {S : Nat -> Prop} {w : World} {h : Nat -> Option HV} (H : HSat0 U ρ S w h) (hC : ∀ i v, h i = some v -> C i ∨ U0 i) : HSat (Base.of C U0 ρ S w h) U ρ S w h where
  heap := H.heap
  heapU := H.heapU
  disj := H.disj
  sep := H.sep
  prov i v b hi hb := by
    by_cases hc : C i
    · exact .inr (.inl ⟨i, v, hc, hi, hb⟩)
    · exact .inl ⟨hc, (hC i v hi).resolve_left hc, v, hi, hb⟩
  sIn := H.sIn
  sProv b hb := .inl hb
  sOld b hb := hb
  pin _ _ := rfl
  ownU i b hb := hb.2.1
  os := rfl
  tape := rfl
  output := rfl
  size := Nat.le_refl _
  keep _ _ _ _ := rfl
theorem HSat.to0 {B : Base} {U : Nat -> Prop} {ρ : Nat -> Hd} {S : Nat -> Prop} {w : World} {h : Nat -> Option HV} (H : HSat B U ρ S w h) : HSat0 U ρ S w h :=
  ⟨H.heap, H.heapU, H.disj, H.sep, H.sIn⟩
theorem HSat.call {B : Base} {C U U' : Nat -> Prop} {ρ ρ' : Nat -> Hd} {S S' : Nat -> Prop} {w w' : World} {h h' : Nat -> Option HV} (H : HSat B U ρ S w h) (hU : ∀ i, B.U0 i -> U i) (hC : ∀ i, C i -> ¬ B.U0 i)
    (H' : HSat (Base.of C U ρ S w h) U' ρ' S' w' h') : HSat B U' ρ' S' w' h' := by
  have hfr : ∀ b, (Base.of C U ρ S w h).fresh b -> B.fresh b := fun b hb => by
    rcases hb with ⟨i, v, k1, k2, k3⟩ | k
    · rcases H.prov i v b k2 k3 with k | k
      · exact absurd (H.ownU _ _ k) (hC i k1)
      · exact k
    · exact .inr (Nat.le_trans H.size k)
  exact {
  heap := H'.heap
  heapU := H'.heapU
  disj := H'.disj
  sep := H'.sep
  prov := fun i v b hi hb => by
    rcases H'.prov i v b hi hb with ⟨_, _, v0, k1, k2⟩ | k
    · exact H.prov i v0 b k1 k2
    · exact .inr (hfr b k)
  sIn := H'.sIn
  sProv := fun b hb => by
    rcases H'.sProv b hb with k | k
    · exact H.sProv b k
    · exact .inr (hfr b k)
  sOld := fun b hb => H'.sOld b (H.sOld b hb)
  pin := fun i hi => (H'.pin i (hU i hi)).trans (H.pin i hi)
  ownU := H.ownU
  os := H'.os.trans H.os
  tape := H'.tape.trans H.tape
  output := H'.output.trans H.output
  size := Nat.le_trans H.size H'.size
  keep := fun b hb ho hf => by
    have hb' : b < w.heap.size := Nat.lt_of_lt_of_le hb H.size;have hno : ∀ i v, h i = some v -> hblk (ρ i) v = some b -> False := fun i v k1 k2 => by
      rcases H.prov i v b k1 k2 with k | k | k
      · exact ho i k
      · exact hf k
      · omega
    exact (H'.keep b hb' (fun i ⟨_, _, v, k1, k2⟩ => hno i v k1 k2) (fun ⟨i, v, _, k1, k2⟩ => hno i v k1 k2)).trans (H.keep b hb ho hf) }
theorem ESat.call [Dfr] {N : Nat} {C U U' : Nat -> Prop} {ρ ρ' : Nat -> Hd} {S S' : Nat -> Prop} {w w' : World} {h h' : Nat -> Option HV} {f : Nat -> DV} {a : Act} (H : HSat0 U ρ S w h) (E : ESat N U ρ S w f a) (hU : ∀ i, U i -> U' i)
    (H' : HSat (Base.of C U ρ S w h) U' ρ' S' w' h') : ESat N U' ρ' S' w' f a :=
  E.mono (fun i hi => H'.pin i hi) (fun b hb => H'.sOld b hb) (fun b hb => H'.keep b (H.sIn b hb) (fun i ⟨_, _, v, k1, k2⟩ => H.sep i v b k1 k2 hb) (fun ⟨i, v, _, k1, k2⟩ => H.sep i v b k1 k2 hb)) hU
def callable (P : Program) (g : FuncId) : Prop := ∃ fn, P.funcs[g]? = some fn /\ fn.body.isSome = true /\ fn.name ≠ "runtime.NumGoroutine"
def CallsX (P : Program) (g : FuncId) (args : Array Value) (w : World) (R : Ending -> World -> Prop) : Prop :=
  (callable P g -> Calls P g args w R) /\ (¬ callable P g -> ∃ v, (callFunc g args).run P w = .ok (.value v) w /\ R (.returned v) w)
theorem CallsX.mono {P : Program} {g : FuncId} {args : Array Value} {w : World} {R R' : Ending -> World -> Prop} (h : CallsX P g args w R) (hr : ∀ e w', R e w' -> R' e w') : CallsX P g args w R' :=
  ⟨fun k => (h.1 k).mono hr, fun k => (h.2 k).elim fun v q => ⟨v, q.1, hr _ _ q.2⟩⟩
theorem CallsX.of {P : Program} {g : FuncId} {args : Array Value} {w : World} {R : Ending -> World -> Prop} (k : callable P g) (h : Calls P g args w R) : CallsX P g args w R := ⟨fun _ => h, fun q => absurd k q⟩
theorem CallsX.ext {P : Program} {g : FuncId} {args : Array Value} {w : World} {R : Ending -> World -> Prop} (k : ¬ callable P g) {v : Value} (h : (callFunc g args).run P w = .ok (.value v) w) (r : R (.returned v) w) : CallsX P g args w R := ⟨fun q => absurd q k, fun _ => ⟨v, h, r⟩⟩
def DCallsG (P : Program) (g : FuncId) (C : List Nat) (args : List DV) (h : Nat -> Option HV) (m : Nat) (d : DV) (h' : Nat -> Option HV) : Prop :=
  True /\ ∀ (U : Nat -> Prop) (ρ : Nat -> Hd) (S : Nat -> Prop) (w : World) (vs : List Value), HSat0 U ρ S w h -> (∀ i, W8 m i -> ¬ U i) -> RelL ρ S w args vs -> DV.usesL U args ->
    CallsX P g vs.toArray w fun e w' => ∃ v ρ' S', e = .returned v /\ HSat (Base.of (fun i => i ∈ C) U ρ S w h) (fun i => U i ∨ W8 m i) ρ' S' w' h' /\ Rel ρ' S' w' d v /\ d.uses (fun i => U i ∨ W8 m i)
abbrev DCalls (P : Program) (g : FuncId) (args : List DV) (h : Nat -> Option HV) (m : Nat) (d : DV) (h' : Nat -> Option HV) : Prop := DCallsG P g [] args h m d h'
def normC : Option Nat -> DV -> DV
  | some n, .p (.lit (.slice none 0 0)) => .p (.dat n [])
  | _, d => d
def normL : List (Option Nat) -> List DV -> List DV
  | k :: ks, d :: ds => normC k d :: normL ks ds
  | _, ds => ds
def normD (P : Program) (t : TypeId) (d : DV) : DV :=
  match td P t with
  | some T => match d with
    | .agg cs => .agg (normL T.sc cs)
    | d => normC (T.sc.headD none) d
  | none => d
def normA (P : Program) : List TypeId -> List DV -> List DV
  | t :: ts, d :: ds => normD P t d :: normA P ts ds
  | _, ds => ds
section
variable [Dfr]
variable {P : Program} {B : Base} {N : Nat} {U : Nat -> Prop} {ρ : Nat -> Hd} {S : Nat -> Prop} {w : World} {f : Nat -> DV} {h : Nat -> Option HV} {a : Act}
theorem normC_rel {k : Option Nat} {d : DV} {v : Value} (hr : Rel ρ S w d v) : Rel ρ S w (normC k d) v := by
  unfold normC;split
  · next n =>
    obtain rfl := rel_lit hr;simp only [Rel];exact .dat n [] none 0 0 0 (fun _ _ => default) (by simp [BL]) (by simp) (by simp) (by simp) (by simp) (by simp)
  · exact hr
theorem normC_uses {k : Option Nat} {d : DV} (hr : d.uses U) : (normC k d).uses U := by
  unfold normC;split
  · trivial
  · exact hr
theorem normL_rel : ∀ {ks : List (Option Nat)} {ds : List DV} {vs : List Value}, RelL ρ S w ds vs -> RelL ρ S w (normL ks ds) vs
  | _ :: _, _ :: _, _ :: _, hr => ⟨normC_rel hr.1, normL_rel hr.2⟩
  | [], _, _, hr => by simpa only [normL] using hr
  | _ :: _, [], [], _ => trivial
  | _ :: _, [], _ :: _, hr => hr.elim
  | _ :: _, _ :: _, [], hr => hr.elim
theorem normL_uses : ∀ {ks : List (Option Nat)} {ds : List DV}, DV.usesL U ds -> DV.usesL U (normL ks ds)
  | _ :: _, _ :: _, hr => ⟨normC_uses hr.1, normL_uses hr.2⟩
  | [], _, hr => by simpa only [normL] using hr
  | _ :: _, [], _ => trivial
theorem normD_rel {t : TypeId} {d : DV} {v : Value} (hr : Rel ρ S w d v) : Rel ρ S w (normD P t d) v := by
  unfold normD;split
  · split
    · simp only [Rel] at hr ⊢; obtain ⟨vs, rfl, hr⟩ := hr; exact ⟨vs, rfl, normL_rel hr⟩
    · exact normC_rel hr
  · exact hr
theorem normD_uses {t : TypeId} {d : DV} (hr : d.uses U) : (normD P t d).uses U := by
  unfold normD;split
  · split
    · exact normL_uses hr
    · exact normC_uses hr
  · exact hr
theorem normA_rel : ∀ {ts : List TypeId} {ds : List DV} {vs : List Value}, RelL ρ S w ds vs -> RelL ρ S w (normA P ts ds) vs
  | _ :: _, _ :: _, _ :: _, hr => ⟨normD_rel hr.1, normA_rel hr.2⟩
  | [], _, _, hr => by simpa only [normA] using hr
  | _ :: _, [], [], _ => trivial
  | _ :: _, [], _ :: _, hr => hr.elim
  | _ :: _, _ :: _, [], hr => hr.elim
theorem normA_uses : ∀ {ts : List TypeId} {ds : List DV}, DV.usesL U ds -> DV.usesL U (normA P ts ds)
  | _ :: _, _ :: _, hr => ⟨normD_uses hr.1, normA_uses hr.2⟩
  | [], _, hr => by simpa only [normA] using hr
  | _ :: _, [], _ => trivial
def guardD (ops : Array Oper) (o : Oper) (f : Nat -> DV) : Option Bool :=
  match o.guard with
  | none => some true
  | some (j, want) => match (ops[j]?).bind (·.dst) with
    | none => none
    | some s => match f s with
      | .p (.lit (.bool t)) => some (t == want)
      | .opt b (.p (.lit (.bool t))) => some (b && (t == want))
      | _ => none
theorem guard_sound (E : ESat N U ρ S w f a) {ops : Array Oper} {o : Oper} {c : Bool} (hg : guardD ops o f = some c) : Region.wanted o (yielded ops a.tmps) = c := by
  unfold guardD at hg;unfold Region.wanted;split at hg
  · next e => rw [e]; cases hg; rfl
  · next j want e =>
    rw [e];dsimp only;split at hg
    · cases hg
    · next s hs =>
      have hval := E.env s;have key : ∀ t, a.tmps.getD s undef = .bool t -> yielded ops a.tmps j = some t := by
        intro t ht;unfold yielded;rw [hs];have : a.tmps[s]? = some (.bool t) := by
          cases hx : a.tmps[s]? with
          | none => simp [hx, undef] at ht
          | some x => simp [hx] at ht; rw [ht]
        simp [this]
      have keyU : a.tmps.getD s undef = undef -> yielded ops a.tmps j = none := by
        intro ht;unfold yielded;rw [hs];cases hx : a.tmps[s]? with
        | none => simp [hx]
        | some x => simp [hx] at ht; subst ht; simp [hx, undef]
      split at hg
      · next t ht =>
        rw [ht] at hval;rw [key t (rel_lit hval)];cases hg;cases t <;> cases want <;> rfl
      · next b t ht =>
        rw [ht] at hval;simp only [Rel] at hval;cases b
        · rw [keyU (hval.2 rfl)]; cases hg; rfl
        · have hv : Rel ρ S w (.p (.lit (.bool t))) (a.tmps.getD s undef) := by simpa only [Rel] using hval.1 rfl
          have := rel_lit hv;rw [key t this]; cases hg;cases t <;> cases want <;> rfl
      · cases hg
def tsOf : Op -> List TypeId
  | .call c => c.argTypes.toList
  | _ => []
theorem DCallsG.nrm {g : FuncId} {C : List Nat} {args : List DV} {h : Nat -> Option HV} {m : Nat} {d : DV} {h' : Nat -> Option HV} (ts : List TypeId) (hc : DCallsG P g C (normA P ts args) h m d h') : DCallsG P g C args h m d h' :=
  ⟨hc.1, fun U ρ S w vs H0 hm hr hu => hc.2 U ρ S w vs H0 hm (normA_rel hr) (normA_uses hu)⟩
def callOf (P : Program) (o : Op) (ρ : Operand -> DV) : Option (FuncId × List DV) :=
  match o with
  | .call { callee := .value g, args, .. } => match (ρ g).un with
    | .clo k caps => some (k, (args.toList.map fun x => (ρ x).un) ++ caps)
    | _ => none
  | _ => none
theorem callOf_pick {P : Program} {o : Op} {ρ : Operand -> DV} {r : FuncId × List DV} (h : callOf P o ρ = some r) : isPick o = false := by
  cases o with
  | pick => cases h
  | _ => rfl
def dstOk (N : Nat) : Option Tmp -> Bool
  | some d => decide (d < N)
  | none => true
def wrapD (o : Oper) (c : Bool) (d : DV) : DV := if o.guard.isSome then .opt c d else d
def effC (c : Bool) (e : Eff) : Eff := bif c then e else .no
def noOut : Out := { pre := True, fact := True, d := .p (.lit (.bool false)), e := .no }
def gop (c : Bool) (o : Option Out) : Option Out :=
  match o with
  | some x => some x
  | none => bif c then none else some noOut
theorem gop_true (o : Option Out) : gop true o = o := by cases o <;> rfl
theorem gop_some (c : Bool) (x : Out) : gop c (some x) = some x := rfl
theorem gop_false (o : Option Out) : gop false o = some (o.getD noOut) := by cases o <;> rfl
def dstep (P : Program) (N pin nid : Nat) (ops : Array Oper) (o : Oper) (A : List (Nat × DV)) (H : List (Nat × HV)) (K : List (Nat × DV) -> List (Nat × HV) -> Prop) : Prop :=
  match guardD ops o (eget A) with
  | none => False
  | some c =>
    dstOk N o.dst = true /\ (c = true -> oksD (eget A) o.op = true) /\
    match callOf P o.op (ev (eget A)) with
    | some (g, args) => ∃ C d H', (∀ i, i ∈ C -> pin <= i) /\ (c = true -> DCallsG P g C args (hget H) nid d (hget H')) /\ (H' = H ∨ c = true) /\ K (eput A o.dst (wrapD o c d)) H'
    | none => match gop c (dopO P nid pin o.op (ev (eget A)) (hget H)) with
      | none => False
      | some out => (c = true -> out.pre) /\ ((c = true -> out.fact) -> K (eput (effFL nid A (effC c out.e)) o.dst (wrapD o c out.d)) (effHL nid H (effC c out.e)))
def drun (P : Program) (N pin nx : Nat) (ops : Array Oper) : List Oper -> Nat -> List (Nat × DV) -> List (Nat × HV) -> (List (Nat × DV) -> List (Nat × HV) -> Prop) -> Prop
  | [], _, A, H, K => K A H
  | o :: os, i, A, H, K => dstep P N pin (nx + 8 * i) ops o A H fun A' H' => drun P N pin nx ops os (i + 1) A' H' K
def St (B : Base) (N nx : Nat) (A : List (Nat × DV)) (H : List (Nat × HV)) (a : Act) (w : World) : Prop :=
  ∃ ρ S, HSat B (fun i => i < nx) ρ S w (hget H) /\ ESat N (fun i => i < nx) ρ S w (eget A) a
theorem St.fresh {nx : Nat} {H : List (Nat × HV)} (HS : HSat B (fun i => i < nx) ρ S w (hget H)) : hget H nx = none := by
  cases e : hget H nx with
  | none => rfl
  | some v => have := (HS.heapU nx v e).1; omega
theorem ESat.puto {N : Nat} (E : ESat N U ρ S w f a) {dst : Option Tmp} (hd : dstOk N dst = true) {x : DV} {v : Value} (hx : Rel ρ S w x v) (hu : x.uses U) {A : List (Nat × DV)} (hA : f = eget A) :
    ESat N U ρ S w (eget (eput A dst x)) (a.put dst v) := by
  subst hA;cases dst with
  | none => exact E
  | some d =>
    simp only [eput, eget_put];exact E.put d (by simpa [dstOk] using hd) hx hu
theorem call_run {c : Call} {ty : TypeId} {dst : Option Tmp} {pos : String} {after : Array Edge} {guard : Option (Nat × Bool)} {gop : Operand} (hc : c.callee = .value gop) {k : FuncId} {caps : List Value} (hg : a.eval gop = .func (.func k) #[] caps.toArray) (hcall : callable P k) :
    (execOp a.eval { dst, op := .call c, type := ty, pos, after, guard }).run P w = .ok (.enter k ((c.args.toList.map a.eval) ++ caps).toArray) w := by
  obtain ⟨fn, h1, h2, h3⟩ := hcall;have hb : ¬ fn.body = none := fun e => by rw [e] at h2; cases h2
  have e : (c.args.map a.eval) ++ caps.toArray = ((c.args.toList.map a.eval) ++ caps).toArray := by apply Array.ext'; simp
  simp [execOp, resolve, hc, Deferred.ofValue, hg, invoke, callFunc, h1, h3, hb, e]
theorem call_wp {c : Call} {ty : TypeId} {dst : Option Tmp} {pos : String} {after : Array Edge} {guard : Option (Nat × Bool)} {gop : Operand} (hc : c.callee = .value gop) {k : FuncId} {caps : List Value} (hg : a.eval gop = .func (.func k) #[] caps.toArray)
    {R : Ending -> World -> Prop} {next : Act -> World -> Prop} {Q : Exit -> Act -> World -> Prop} (hx : CallsX P k ((c.args.toList.map a.eval) ++ caps).toArray w R) (hr : ∀ e w', R e w' -> ∃ v, e = .returned v /\ next (a.put dst v) w') :
    Oper.wp P { dst, op := .call c, type := ty, pos, after, guard } a w next Q := by
  by_cases hcall : callable P k
  · unfold Oper.wp;rw [call_run hc hg hcall, Oper.upon_enter];refine (hx.1 hcall).mono fun e w' r => ?_
    obtain ⟨v, rfl, q⟩ := hr e w' r;exact q
  · obtain ⟨v, h1, h2⟩ := hx.2 hcall;have e : (c.args.map a.eval) ++ caps.toArray = ((c.args.toList.map a.eval) ++ caps).toArray := by apply Array.ext'; simp
    have hrun : (execOp a.eval { dst, op := .call c, type := ty, pos, after, guard }).run P w = .ok (.value v) w := by
      simp [execOp, resolve, hc, Deferred.ofValue, hg, invoke, e, h1]
    unfold Oper.wp;rw [hrun, Oper.upon_value];obtain ⟨v', e1, q⟩ := hr _ _ h2;cases e1;exact q
theorem evs_rel (E : ESat N U ρ S w f a) : ∀ l : List Operand, (∀ x, x ∈ l -> (ev f x).okB = true) -> RelL ρ S w (l.map fun x => (ev f x).un) (l.map a.eval) /\ DV.usesL U (l.map fun x => (ev f x).un)
  | [], _ => ⟨trivial, trivial⟩
  | x :: l, hok => ⟨⟨ev_rel E (hok x (by simp)), (evs_rel E l fun y hy => hok y (by simp [hy])).1⟩, ⟨ev_uses E (hok x (by simp)), (evs_rel E l fun y hy => hok y (by simp [hy])).2⟩⟩
theorem dstep_sound {pin nid : Nat} {ops : Array Oper} {o : Oper} {A : List (Nat × DV)} {H : List (Nat × HV)} {K : List (Nat × DV) -> List (Nat × HV) -> Prop} {Q : Exit -> Act -> World -> Prop}
    (hS : St B N nid A H a w) (hpin : ∀ i, B.U0 i -> i < pin) (hle : pin <= nid) (hd : dstep P N pin nid ops o A H K) :
    if Region.wanted o (yielded ops a.tmps) then o.wp P a w (fun a' w' => ∃ A' H', St B N (nid + 8) A' H' a' w' /\ K A' H') Q
    else ∃ A' H', St B N (nid + 8) A' H' (a.put o.dst undef) w /\ K A' H' := by
  obtain ⟨ρ, S, HS, ES⟩ := hS;have hUw : (fun i => i < nid ∨ W8 nid i) = fun i => i < nid + 8 := by funext i; unfold W8; exact propext ⟨fun k => by omega, fun k => by omega⟩
  have hUi : ∀ i, (i < nid ∨ i = nid) -> i < nid + 8 := fun i k => by omega
  have hfresh := St.fresh HS;have hn : ¬ nid < nid := Nat.lt_irrefl _;have hn0 : ¬ B.U0 nid := fun k => by have := hpin nid k; omega
  have HS1 : HSat B (fun i => i < nid + 8) ρ S w (hget H) := HS.used fun i k => by omega
  have ES1 : ESat N (fun i => i < nid + 8) ρ S w (eget A) a := ES.mono (fun _ _ => rfl) (fun _ k => k) (fun _ _ => rfl) fun i k => by omega
  unfold dstep at hd;cases hg : guardD ops o (eget A) with
  | none => rw [hg] at hd; exact hd.elim
  | some c =>
    rw [hg] at hd;dsimp only at hd;obtain ⟨hdst, hoks, hd⟩ := hd;have hw := guard_sound ES hg;rw [hw];have skip : ∀ d : DV, c = false -> o.guard.isSome = true -> ESat N (fun i => i < nid + 8) ρ S w (eget (eput A o.dst (wrapD o c d))) (a.put o.dst undef) := fun d hc hgs => by
      refine ESat.puto ES1 hdst ?_ ?_ rfl
      · simp only [wrapD, hgs, if_true, Rel]; exact ⟨fun e => (by rw [hc] at e; cases e), fun _ => trivial⟩
      · simp only [wrapD, hgs, if_true, DV.uses]; intro e; rw [hc] at e; cases e
    have gsome : c = false -> o.guard.isSome = true := fun hc => by
      cases hgu : o.guard with
      | some x => rfl
      | none => simp [guardD, hgu, hc] at hg
    have wrap_rel : ∀ {ρ' : Nat -> Hd} {S' : Nat -> Prop} {w' : World} {d : DV} {v : Value}, c = true -> Rel ρ' S' w' d v -> Rel ρ' S' w' (wrapD o c d) v := fun hc hr => by
      unfold wrapD; split
      · simp only [Rel]; exact ⟨fun _ => hr, fun e => (by rw [hc] at e; cases e)⟩
      · exact hr
    have wrap_uses : ∀ {d : DV}, d.uses (fun i => i < nid + 8) -> (wrapD o c d).uses (fun i => i < nid + 8) := fun hr => by
      unfold wrapD; split
      · exact fun _ => hr
      · exact hr
    cases hco : callOf P o.op (ev (eget A)) with
    | some ga =>
      obtain ⟨g, args⟩ := ga;rw [hco] at hd;obtain ⟨C, d, H', hCp, hcall, hH, hK⟩ := hd;by_cases hc : c = true
      · rw [if_pos hc];obtain ⟨hcb, hcon⟩ := hcall hc;have hop := oksD_all (callOf_pick hco) (hoks hc);obtain ⟨dst, op, ty, pos, after, guard⟩ := o;cases op with
        | call cc =>
          obtain ⟨callee, cargs, cts⟩ := cc;cases callee with
          | value gop =>
            simp only [callOf] at hco;split at hco
            · next k caps hk =>
              obtain ⟨rfl, rfl⟩ := Prod.mk.inj (Option.some.inj hco);have hgr := ev_rel ES (hop gop (by simp [Op.operands, Call.operands]));have hgu := ev_uses ES (hop gop (by simp [Op.operands, Call.operands]));rw [hk] at hgr hgu;simp only [Rel] at hgr;obtain ⟨cvs, hgv, hcr⟩ := hgr;have hargs := evs_rel ES cargs.toList fun x hx => hop x (by simp only [Op.operands, Call.operands]; simp; right; simpa using hx)
              have hc1 := hcon (fun i => i < nid) ρ S w (cargs.toList.map a.eval ++ cvs) HS.to0 (fun i hi => by unfold W8 at hi; omega) (RelL_append hargs.1 hcr) (usesL_append hargs.2 hgu);refine call_wp (c := ⟨.value gop, cargs, cts⟩) rfl hgv hc1 ?_;rintro e w' ⟨v, ρ', S', rfl, H1, hr, hu⟩;refine ⟨v, rfl, ?_⟩;have H2 := HS.call (fun i k => by have := hpin i k; omega) (fun i hi k => by have := hpin i k; have := hCp i hi; omega) H1;have E2 := ES.call HS.to0 (fun i k => .inl k) H1;rw [hUw] at H2 E2 hu;exact ⟨_, _, ⟨ρ', S', H2, ESat.puto E2 hdst (wrap_rel hc hr) (wrap_uses hu) rfl⟩, hK⟩
            · cases hco
          | _ => cases hco
        | _ => cases hco
      · rw [if_neg hc];have hcf : c = false := by simpa using hc
        have hHH : H' = H := hH.resolve_right hc;subst hHH;exact ⟨_, _, ⟨ρ, S, HS1, skip d hcf (gsome hcf)⟩, hK⟩
    | none =>
      rw [hco] at hd;dsimp only at hd;cases hdo : gop c (dopO P nid pin o.op (ev (eget A)) (hget H)) with
      | none => rw [hdo] at hd; exact hd.elim
      | some out =>
        rw [hdo] at hd;obtain ⟨hpre, hK⟩ := hd;by_cases hc : c = true
        · rw [if_pos hc];rw [hc, gop_true] at hdo;rw [show effC c out.e = out.e by rw [hc]; rfl] at hK;have := dopO_sound HS ES hn hn0 hpin hdo (hpre hc) (hoks hc);obtain ⟨r, v, w', ρ', S', hrun, hrv, H1, E1, hr, hu, hfact, _⟩ := this
          replace H1 := H1.used hUi
          replace E1 := E1.mono (fun _ _ => rfl) (fun _ k => k) (fun _ _ => rfl) hUi
          replace hu := uses_mono hUi _ hu
          rw [<- effHL_eq hfresh] at H1;rw [<- effFL_eq] at E1;have hfin : ∃ A' H', St B N (nid + 8) A' H' (a.put o.dst v) w' /\ K A' H' :=
            ⟨_, _, ⟨ρ', S', H1, ESat.puto E1 hdst (wrap_rel hc hr) (wrap_uses hu) rfl⟩, hK fun _ => hfact⟩
          unfold Oper.wp;rw [hrun];rcases hrv with rfl | ⟨rfl, rfl⟩
          · exact hfin
          · exact hfin
        · rw [if_neg hc];have hcf : c = false := by simpa using hc
          have := hK fun e => absurd e hc
          rw [show effC c out.e = .no by rw [hcf]; rfl] at this;exact ⟨_, _, ⟨ρ, S, HS1, skip out.d hcf (gsome hcf)⟩, this⟩
end
end Go.Eng
