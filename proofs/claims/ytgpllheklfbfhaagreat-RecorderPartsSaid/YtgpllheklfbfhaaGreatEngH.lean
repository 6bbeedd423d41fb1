/-
  A part of the engine that reckons calls at the level of data.
  No condition.
-/

import Derived.Test.YtgpllheklfbfhaaGreatEngG
import Derived.MapKept
import Derived.Carry
namespace Go.Eng
set_option linter.all false
open Go.RowKit
section
variable [Dfr]
variable {P : Program} {B : Base} {N : Nat} {U : Nat -> Prop} {ρ : Nat -> Hd} {S : Nat -> Prop} {w : World} {f : Nat -> DV} {h : Nat -> Option HV} {a : Act}
theorem isKey_of {d : TypeDesc} {v : Value} (h : tkV (tkOf d) v = true) : MapKept.IsKey d v := by
  cases d with
  | int k => cases v <;> simp [tkV, tkOf] at h <;> simpa [MapKept.IsKey] using h
  | string => cases v <;> simp [tkV, tkOf] at h <;> trivial
  | bool => cases v <;> simp [tkV, tkOf] at h <;> trivial
  | struct fs => simp only [tkOf] at h; split at h <;> simp [tkV] at h
  | _ => simp [tkV, tkOf] at h
theorem vkey_iff {d : TypeDesc} {x y : Value} (hx : MapKept.IsKey d x) (hy : MapKept.IsKey d y) : vkey x y = true ↔ x = y := by
  cases d <;> cases x <;> cases y <;> simp_all [MapKept.IsKey, vkey]
theorem key_vcell {d : TypeDesc} {x : Value} (hx : MapKept.IsKey d x) : ∀ n, Instr.sameBits n x x = true := by
  intro n;cases d <;> cases x <;> simp_all [MapKept.IsKey, Instr.sameBits];all_goals (cases n <;> simp [Instr.sameBits, MapKept.bytes_beq])
theorem find_spec {d : TypeDesc} {k : Value} (hk : MapKept.IsKey d k) : ∀ (es : List (Value × DV)) (vs : List MapEntry) (i : Nat), vs.map (·.key) = es.map (·.1) -> (∀ e, e ∈ es -> MapKept.IsKey d e.1) -> RelL ρ S w (es.map (·.2)) (vs.map (·.val)) ->
    (Instr.findNow d k vs i = some none /\ mfind es k = none /\ ∀ x, mset es k x = es ++ [(k, x)]) ∨
    (∃ j e dv, Instr.findNow d k vs i = some (some (i + j, e.val)) /\ vs[j]? = some e /\ e.key = k /\ mfind es k = some dv /\ Rel ρ S w dv e.val /\ (∃ q, q ∈ es /\ q.2 = dv) /\ ∀ x, mset es k x = es.set j (k, x))
  | [], [], _, _, _, _ => .inl ⟨rfl, rfl, fun _ => rfl⟩
  | [], _ :: _, _, h, _, _ => by simp at h
  | _ :: _, [], _, h, _, _ => by simp at h
  | (k0, d0) :: es, e :: vs, i, h, hK, hr => by
    simp only [List.map_cons, List.cons.injEq] at h;obtain ⟨he, h⟩ := h;have hk0 : MapKept.IsKey d e.key := he ▸ hK (k0, d0) (by simp);obtain ⟨r, hs, hiff⟩ := MapKept.sameNow_of_keys hk hk0;have hv := vkey_iff hk hk0;cases r with
    | true =>
      have e1 : k = e.key := hiff.1 rfl;have e2 : vkey k k0 = true := he ▸ (hv.2 e1);exact .inr ⟨0, e, d0, by simp [Instr.findNow, hs], rfl, e1.symm, by simp [mfind, e2], hr.1, ⟨_, List.mem_cons_self .., rfl⟩, fun x => by simp [mset, e2]⟩
    | false =>
      have e1 : ¬ k = e.key := fun q => by have := hiff.2 q; cases this
      have e2 : ¬ vkey k k0 = true := fun q => e1 (hv.1 (he ▸ q))
      rcases find_spec hk es vs (i + 1) h (fun x hx => hK x (by simp [hx])) hr.2 with ⟨h1, h2, h3⟩ | ⟨j, e', dv, h1, h2, h3, h4, h5, ⟨q, q1, q2⟩, h6⟩
      · exact .inl ⟨by simp [Instr.findNow, hs, h1], by simp [mfind, e2, h2], fun x => by simp [mset, e2, h3]⟩
      · exact .inr ⟨j + 1, e', dv, by simp [Instr.findNow, hs, h1]; omega, by simpa using h2, h3, by simp [mfind, e2, h4], h5, ⟨q, by simp [q1], q2⟩, fun x => by simp [mset, e2, h6]⟩
theorem mfind_no {d : TypeDesc} {k : Value} (hk : MapKept.IsKey d k) : ∀ (es : List (Value × DV)) (vs : List MapEntry), vs.map (·.key) = es.map (·.1) -> (∀ e, e ∈ es -> MapKept.IsKey d e.1) -> mfind es k = none -> ∀ x, x ∈ vs -> x.key ≠ k
  | [], [], _, _, _, x, hx => by simp at hx
  | [], _ :: _, h, _, _, _, _ => by simp at h
  | _ :: _, [], h, _, _, _, _ => by simp at h
  | (k0, d0) :: es, e :: vs, h, hK, hm, x, hx => by
    simp only [List.map_cons, List.cons.injEq] at h;obtain ⟨he, h⟩ := h;have hk0 : MapKept.IsKey d k0 := hK (k0, d0) (by simp);simp only [mfind] at hm;split at hm
    · cases hm
    · next hv =>
      rcases List.mem_cons.1 hx with rfl | hx
      · intro q;exact hv ((vkey_iff hk hk0).2 (by rw [<- q]; exact he))
      · exact mfind_no hk es vs h (fun e he => hK e (by simp [he])) hm x hx
theorem stamped_set {vs : List MapEntry} {ck j : Nat} {e e' : MapEntry} (h : MapKept.Stamped (List.toArray vs) ck) (hj : vs[j]? = some e) (hb : e'.born = e.born) (hk : e'.key = e.key) : MapKept.Stamped (List.toArray (vs.set j e')) ck := by
  obtain ⟨h1, h2, h3⟩ := h;have a : ∀ {α : Type} (f : MapEntry -> α), f e' = f e -> (vs.set j e').map f = vs.map f := fun f hf => by
    apply List.ext_getElem?;intro i;rw [List.getElem?_map, List.getElem?_map];by_cases q : j = i
    · subst q;have hl : j < vs.length := by
        rcases Nat.lt_or_ge j vs.length with k | k
        · exact k
        · rw [List.getElem?_eq_none k] at hj; cases hj
      rw [List.getElem?_set_self hl, hj, Option.map_some, Option.map_some, hf]
    · rw [List.getElem?_set_ne q]
  refine ⟨fun x hx => ?_, ?_, ?_⟩
  · rcases List.mem_or_eq_of_mem_set hx with q | rfl
    · exact h1 x q
    · rw [hb]; exact h1 e (List.mem_of_getElem? hj)
  · show ((vs.set j e').map (·.born)).Nodup;rw [a _ hb]; exact h2
  · show ((vs.set j e').map (·.key)).Nodup;rw [a _ hk]; exact h3
theorem litsOf_rel : ∀ {cs : List DV} {vs us : List Value}, litsOf cs = some vs -> RelL ρ S w cs us -> us = vs
  | [], vs, us, h, hr => by
    simp only [litsOf, Option.some.injEq] at h;cases us with
    | nil => exact h
    | cons => exact hr.elim
  | c :: cs, vs, us, h, hr => by
    cases us with
    | nil => exact hr.elim
    | cons u us =>
      unfold litsOf at h;split at h
      · next e => cases e
      · next v r e =>
        cases e;split at h
        · next l hl =>
          cases h;rw [litsOf_rel hl hr.2, rel_lit hr.1]
        · cases h
      · cases h
theorem check_one {t : TypeId} {d : TypeDesc} {v : Value} (hu : P.underlying t = some d) (hk : MapKept.IsKey d v) (e : Bool) (n : Nat) : (Instr.checkKey e (n + 1) t v).run P w = .ok () w := MapKept.run_checkKey hu hk e n
theorem part_one {ft : TypeId} {F : TD} (hF : td P ft = some F) {vs : List Value} {off : Nat} (hlt : off < vs.length) (hs : F.size = 1) (ha : F.k.isAgg = false) : (part ft vs.toArray off).run P w = .ok (vs.getD off default) w := by
  obtain ⟨i, d, z, hi, hu, hz, e1, e2, e3, e4, _⟩ := td_spec hF;have h1 := r_isAgg (P := P) hu w;rw [<- e4, ha] at h1;simp [part, h1, hlt]
theorem check_fields (e : Bool) (n : Nat) {vs : List Value} : ∀ (l : List Field), flatKey P vs (l.map fun f => (f.offset, f.type)) = true ->
    (forIn (m := Sem) l PUnit.unit fun f _ => do
      if f.name ≠ "_" then
        Instr.checkKey e (n + 1) f.type (<- part f.type vs.toArray f.offset)
        pure (ForInStep.yield PUnit.unit)
      else pure (ForInStep.yield PUnit.unit)).run P w = .ok PUnit.unit w
  | [], _ => by simp
  | x :: l, hl => by
    simp only [List.map_cons, flatKey, Bool.and_eq_true] at hl;obtain ⟨h1, h2⟩ := hl;have ih := check_fields e n l h2;split at h1
    · next F hF =>
      simp only [Bool.and_eq_true, decide_eq_true_eq, Bool.not_eq_true'] at h1;obtain ⟨⟨⟨q1, q2⟩, q3⟩, q4⟩ := h1;obtain ⟨i, d, z, hi, hu, hz, e1, e2, e3, e4, _⟩ := td_spec hF;have hk : MapKept.IsKey d (vs.getD x.offset default) := isKey_of (e4 ▸ q4);have hp := part_one (P := P) (w := w) hF q3 q1 q2;have hc := check_one (P := P) (w := w) hu hk e n;simp only [List.forIn_cons];by_cases hn : x.name ≠ "_"
      · simp only [if_pos hn, Sem.run_bind, hp, hc, Result.andThen_ok, Sem.run_pure];exact ih
      · simp only [if_neg hn, Sem.run_bind, Result.andThen_ok, Sem.run_pure];exact ih
    · cases h1
theorem key_ok {kt : TypeId} {es : List (Value × DV)} {k : DV} {kv u : Value} (hk : dkey P kt es k = some kv) (hr : Rel ρ S w k u) (hes : keysOk (tkOf' P kt) es) :
    u = kv /\ (∀ e, (Instr.checkKey e 10000 kt u).run P w = .ok () w) /\ ((∃ d, P.underlying kt = some d /\ MapKept.IsKey d u /\ ∀ e, e ∈ es -> MapKept.IsKey d e.1) ∨ es = []) := by
  unfold dkey at hk;split at hk
  · next K hK =>
    obtain ⟨i, d, z, hi, hu, hz, e1, e2, e3, e4, _⟩ := td_spec hK;split at hk
    · next v =>
      split at hk
      · next ht =>
        cases hk;obtain rfl := rel_lit hr;have hkk := isKey_of (e4 ▸ ht);refine ⟨rfl, fun e => check_one hu hkk e 9999, .inl ⟨d, hu, hkk, fun e he => ?_⟩⟩;have := hes e he;simp only [tkOf', hK] at this;exact isKey_of (e4 ▸ this)
      · cases hk
    · next cs =>
      split at hk
      · next fs vs hfs hvs =>
        split at hk
        · next hc =>
          cases hk;simp only [Bool.and_eq_true] at hc;simp only [Rel] at hr;obtain ⟨us, rfl, hr⟩ := hr;have hus := litsOf_rel hvs hr;subst hus;obtain ⟨g, rfl, hg, hnm⟩ := tk_structInv (e4 ▸ hfs);refine ⟨rfl, fun e => ?_, .inr ?_⟩
          · have h1 := check_fields (P := P) (w := w) (vs := us) e 9998 g.toList (by rw [<- hg]; exact hc.2);unfold Instr.checkKey;simp only [Sem.run_bind, r_und hu, Result.andThen_ok];rw [<- Array.forIn_toList];simp only [Nat.reduceAdd] at h1;rw [h1]; rfl
          · cases es with
            | nil => rfl
            | cons => simp [isNilL] at hc
        · cases hk
      · cases hk
    · cases hk
  · cases hk
theorem findKey_nil {kt : TypeId} {d : TypeDesc} (hu : P.underlying kt = some d) (u : Value) : (Instr.findKey kt u []).run P w = .ok none w := by
  simp [Instr.findKey, r_und hu, Instr.findNow]
theorem und_of {kt : TypeId} {es : List (Value × DV)} {k : DV} {kv : Value} (hk : dkey P kt es k = some kv) : ∃ d, P.underlying kt = some d := by
  unfold dkey at hk;split at hk
  · next K hK => obtain ⟨i, d, z, hi, hu, _⟩ := td_spec hK; exact ⟨d, hu⟩
  · cases hk
theorem tk_map {d : TypeDesc} {k e : TypeId} (h : tkOf d = .map k e) : d = .map k e := by
  cases d <;> simp_all [tkOf];split at h <;> cases h
theorem mapOf_rel (H : HSat B U ρ S w h) {x : DV} {v : Value} {es : List (Value × DV)} (hm : mapOf x h = some es) (hr : Rel ρ S w x v) :
    ∃ vs : List MapEntry, vs.map (·.key) = es.map (·.1) /\ RelL ρ S w (es.map (·.2)) (vs.map (·.val)) /\ DV.usesL U (es.map (·.2)) /\
      ((v = .map none /\ vs = []) ∨ ∃ b ck, v = .map (some b) /\ w.heap[b]? = some (.map (List.toArray vs) ck)) := by
  unfold mapOf at hm;split at hm
  · next id =>
    split at hm
    · next es' hh =>
      cases hm;have h1 := H.heap id _ hh;have h2 := (H.heapU id _ hh).2;simp only [HRel] at h1;simp only [Rel] at hr;obtain ⟨b, hb, rfl⟩ := hr;obtain ⟨b', vs, ck, k1, k2, k3, k4, _⟩ := h1;rw [hb] at k1; simp at k1; subst k1;exact ⟨vs, k3, k4, h2, .inr ⟨_, ck, rfl, k2⟩⟩
    · cases hm
  · unfold pmap at hm;split at hm
    · cases hm;obtain rfl := rel_lit hr;exact ⟨[], rfl, trivial, trivial, .inl ⟨rfl, rfl⟩⟩
    · next ks xs =>
      cases hm;simp only [Rel] at hr;generalize hy : PV.map ks xs = y at hr;cases hr with
      | ub b => cases hy
      | lit => cases hy
      | ptr => cases hy
      | dat => cases hy
      | map ks' xs' b vs ck hS hb hk hl hr hs =>
        cases hy;have e1 : (ks.zip (xs.map DV.p)).map (·.1) = ks := List.map_fst_zip (by rw [List.length_map]; omega);have e2 : (ks.zip (xs.map DV.p)).map (·.2) = xs.map .p := List.map_snd_zip (by rw [List.length_map]; omega);have hvl : vs.length = xs.length := by rw [hl, <- hk, List.length_map]
        refine ⟨vs, by rw [e1]; exact hk, ?_, ?_, .inr ⟨b, ck, rfl, hb⟩⟩
        · rw [e2];refine RelL_mk (by simp [hvl]) fun j hj => ?_
          rw [List.length_map] at hj;have e3 : (xs.map DV.p).getD j default = .p (xs.getD j default) := by simp [List.getD_eq_getElem?_getD, hj]
          rw [e3]; simp only [Rel]; exact hr j hj
        · rw [e2]; exact usesL_iff.2 fun d hd => by
            obtain ⟨x, _, rfl⟩ := List.mem_map.1 hd;trivial
    · cases hm
  · cases hm
theorem lookup_ok (H : HSat B U ρ S w h) (E : ESat N U ρ S w f a) {nid : Nat} {t kt et : TypeId} {T : TD} {x k : DV} {v u : Value} {ok : Bool} {out : Out} (ht : td P t = some T) (hk : T.k = .map kt et) (hx : Rel ρ S w x v) (hku : Rel ρ S w k u)
    (hd : dlookup P kt et x k ok h = some out) (hp : out.pre) : StepOk P B N U nid f h a w (do pure (Next.value (<- Instr.lookup t v u ok))) out := by
  obtain ⟨i, d, z, hi, hu, hz, e1, e2, e3, e4, _⟩ := td_spec ht;obtain rfl := tk_map (e4 ▸ hk);unfold dlookup at hd;split at hd
  · next F es hE hes =>
    obtain ⟨i2, d2, z2, hi2, hu2, hz2, s1, s2, s3, s4, _, _, s10⟩ := td_spec hE;split at hd
    · next zz kv hzz hkv =>
      split at hd
      · cases hd
      · next hagg =>
        split at hd
        · next hvz =>
          cases hd;simp only [Bool.and_eq_true] at hvz;obtain ⟨hfok, hvz⟩ := hvz;dsimp only at hp;obtain ⟨rfl, hchk, hfind⟩ := key_ok hkv hku hp;obtain ⟨vs, k1, k2, k3, k4⟩ := mapOf_rel H hes hx;have hz1 : z2 = zz := by
            have hv : vcell z2 = true := by
              have hfo := hfok;rw [s10] at hfo;cases d2 with
              | struct fs => exact absurd tk_struct (by rw [<- s4]; simpa using hagg)
              | _ => exact hfo
            rw [s3] at hzz;cases z2 <;> simp_all [Value.cells, vcell]
          subst hz1;have hzr := r_zero (P := P) hi2 hz2 w;have hres : ∃ y, Rel ρ S w ((mfind es u).getD (.p (.lit z2))) y /\ ((mfind es u).getD (.p (.lit z2))).uses U /\ (Instr.lookup t v u ok).run P w = .ok (if ok then .tuple #[y, .bool (mfind es u).isSome] else y) w := by
            have hf : (∃ r, (Instr.findKey kt u vs).run P w = .ok r w /\ ((r = none /\ mfind es u = none) ∨ ∃ j y dv, r = some (j, y) /\ mfind es u = some dv /\ Rel ρ S w dv y /\ dv.uses U)) := by
              rcases hfind with ⟨d, hd, hkk, hall⟩ | rfl
              · rcases find_spec (ρ := ρ) (S := S) (w := w) hkk es vs 0 k1 hall k2 with ⟨q1, q2, _⟩ | ⟨j, e, dv, q1, q2, q3, q4, q5, ⟨q, qm, qe⟩, _⟩
                · exact ⟨none, MapKept.run_findKey hd q1, .inl ⟨rfl, q2⟩⟩
                · exact ⟨_, MapKept.run_findKey hd q1, .inr ⟨_, _, dv, rfl, q4, q5, qe ▸ usesL_iff.1 k3 _ (List.mem_map.2 ⟨q, qm, rfl⟩)⟩⟩
              · obtain ⟨d, hd⟩ := und_of hkv;have : vs = [] := by simpa using k1
                subst this;exact ⟨none, findKey_nil hd u, .inl ⟨rfl, rfl⟩⟩
            obtain ⟨r, hfr, hr⟩ := hf;rcases hr with ⟨rfl, hn⟩ | ⟨j, y, dv, rfl, hn, hrel, huse⟩
            · refine ⟨z2, ?_, ?_, ?_⟩
              · rw [hn]; simp only [Option.getD_none, Rel]; exact .lit _ hvz
              · rw [hn]; trivial
              · rcases k4 with ⟨rfl, rfl⟩ | ⟨b, ck, rfl, hb⟩
                · simp only [Instr.lookup, Sem.run_bind, r_und hu, Result.andThen_ok, Sem.run_pure, hchk, hfr, hn, hzr];cases ok <;> rfl
                · simp only [Instr.lookup, Sem.run_bind, r_und hu, Result.andThen_ok, Sem.run_pure, MapKept.run_getObj_map hb, hchk, hfr, hn, hzr];cases ok <;> rfl
            · refine ⟨y, ?_, ?_, ?_⟩
              · rw [hn]; exact hrel
              · rw [hn]; exact huse
              · rcases k4 with ⟨rfl, rfl⟩ | ⟨b, ck, rfl, hb⟩
                · simp only [Instr.lookup, Sem.run_bind, r_und hu, Result.andThen_ok, Sem.run_pure, hchk, hfr, hn];cases ok <;> rfl
                · simp only [Instr.lookup, Sem.run_bind, r_und hu, Result.andThen_ok, Sem.run_pure, MapKept.run_getObj_map hb, hchk, hfr, hn];cases ok <;> rfl
          obtain ⟨y, hy1, hy2, hy3⟩ := hres;refine step_no H E (v := if ok then .tuple #[y, .bool (mfind es u).isSome] else y) (by simp [hy3]) ?_ ?_ trivial
          · cases ok
            · exact hy1
            · simp only [if_true, Rel]; exact ⟨[y, _], rfl, hy1, lit_rel rfl, trivial⟩
          · cases ok
            · exact hy2
            · exact ⟨hy2, trivial, trivial⟩
        · cases hd
    · cases hd
  · cases hd
theorem RelL_set : ∀ {ds : List DV} {vs : List Value} (j : Nat) {d : DV} {v : Value}, RelL ρ S w ds vs -> Rel ρ S w d v -> RelL ρ S w (ds.set j d) (vs.set j v)
  | [], [], _, _, _, _, _ => trivial
  | _ :: _, _ :: _, 0, _, _, h, k => ⟨k, h.2⟩
  | _ :: _, _ :: _, j + 1, _, _, h, k => ⟨h.1, RelL_set j h.2 k⟩
  | [], _ :: _, _, _, _, h, _ => h.elim
  | _ :: _, [], _, _, _, h, _ => h.elim
theorem modify_at {α : Type} (l : List α) (j : Nat) (g : α -> α) (e : α) (h : l[j]? = some e) : (l.toArray.modify j g) = (l.set j (g e)).toArray := by
  apply Array.ext';simp only [Array.toList_modify];induction l generalizing j with
  | nil => simp at h
  | cons x l ih =>
    cases j with
    | zero => simp at h; simp [h]
    | succ j => simp at h; simpa using ih j h
theorem mapset_ok (H : HSat B U ρ S w h) (E : ESat N U ρ S w f a) {nid : Nat} {t kt et : TypeId} {T : TD} {x k y : DV} {v u yv : Value} {out : Out} (ht : td P t = some T) (hk : T.k = .map kt et) (hx : Rel ρ S w x v) (hku : Rel ρ S w k u) (hy : Rel ρ S w y yv) (hyu : y.uses U)
    (hd : dmapset P kt x k y h = some out) (hp : out.pre) : StepOk P B N U nid f h a w (do Instr.mapUpdate t v u yv; pure Next.skip) out := by
  obtain ⟨i, d, z, hi, hu, hz, e1, e2, e3, e4, _⟩ := td_spec ht;obtain rfl := tk_map (e4 ▸ hk);unfold dmapset at hd;split at hd
  · next id =>
    split at hd
    · next es hh =>
      split at hd
      · next kv hkv =>
        split at hd
        · next hcell =>
          cases hd;dsimp only at hp;obtain ⟨rfl, hchk, hfind⟩ := key_ok hkv hku hp;have h1 := H.heap id _ hh;have h2 := (H.heapU id _ hh).2;simp only [HRel] at h1;simp only [HV.uses] at h2;simp only [Rel] at hx;obtain ⟨b, hb, rfl⟩ := hx;obtain ⟨b', vs, ck, k1, k2, k3, k4, k5⟩ := h1;rw [hb] at k1; simp at k1; subst k1;have hlt : b < w.heap.size := by
            rcases Nat.lt_or_ge b w.heap.size with q | q
            · exact q
            · simp [Array.getElem?_eq_none q] at k2
          have hblkb : hblk (ρ id) (.map es) = some b := by simp [hblk, hb]
          have hfin : ∃ vs' ck', (Instr.mapUpdate t (.map (some b)) u yv).run P w = .ok () { w with heap := w.heap.setIfInBounds b (.map (List.toArray vs') ck') } /\
              vs'.map (·.key) = (mset es u y).map (·.1) /\ RelL ρ S w ((mset es u y).map (·.2)) (vs'.map (·.val)) /\ DV.usesL U ((mset es u y).map (·.2)) /\ MapKept.Stamped (List.toArray vs') ck' := by
            have happ : ∀ (hn : (Instr.findKey kt u vs).run P w = .ok none w) (hm : mset es u y = es ++ [(u, y)]) (hne : ∀ x, x ∈ vs -> x.key ≠ u), ∃ vs' ck', (Instr.mapUpdate t (.map (some b)) u yv).run P w = .ok () { w with heap := w.heap.setIfInBounds b (.map (List.toArray vs') ck') } /\
              vs'.map (·.key) = (mset es u y).map (·.1) /\ RelL ρ S w ((mset es u y).map (·.2)) (vs'.map (·.val)) /\ DV.usesL U ((mset es u y).map (·.2)) /\ MapKept.Stamped (List.toArray vs') ck' := fun hn hm hne => by
              refine ⟨vs ++ [{ key := u, val := yv, born := ck }], ck + 1, ?_, ?_, ?_, ?_, ?_⟩
              · simp only [Instr.mapUpdate, Sem.run_bind, r_und hu, Result.andThen_ok, MapKept.run_getObj_map k2, hchk, hn, MapKept.run_setObj_map _ k2];simp
              · rw [hm]; simp [k3]
              · rw [hm, List.map_append, List.map_append]; exact RelL_append k4 ⟨hy, trivial⟩
              · rw [hm, List.map_append]; exact usesL_append h2 ⟨hyu, trivial⟩
              · have := MapKept.stamped_push k5 (key := u) (val := yv) hne;simpa using this
            rcases hfind with ⟨d, hd, hkk, hall⟩ | rfl
            · rcases find_spec (ρ := ρ) (S := S) (w := w) hkk es vs 0 k3 hall k4 with ⟨q1, q2, q3⟩ | ⟨j, e, dv, q1, q2, q3, q4, q5, _, q6⟩
              · exact happ (MapKept.run_findKey hd q1) (q3 y) (mfind_no hkk es vs k3 hall q2)
              · have hfk := MapKept.run_findKey (P := P) (w := w) hd q1;have hsb := key_vcell hkk 10000;refine ⟨vs.set j { key := u, val := yv, born := e.born }, ck, ?_, ?_, ?_, ?_, stamped_set k5 q2 rfl q3.symm⟩
                · have hme := modify_at vs j (fun e => { e with key := u, val := yv }) e q2;simp only [Instr.mapUpdate, Sem.run_bind, r_und hu, Result.andThen_ok, MapKept.run_getObj_map k2, hchk, hfk, Nat.zero_add, List.getElem?_toArray, q2, Option.map_some, Option.getD_some, q3, Instr.keyThatStays, hsb, if_true, Sem.run_pure, MapKept.run_setObj_map _ k2];rw [hme]
                · rw [q6, List.map_set, List.map_set, k3]
                · rw [q6, List.map_set, List.map_set]; exact RelL_set j k4 hy
                · rw [q6, List.map_set];refine usesL_iff.2 fun d hd => ?_
                  rcases List.mem_or_eq_of_mem_set hd with q | rfl
                  · exact usesL_iff.1 h2 d q
                  · exact hyu
            · obtain ⟨d, hd⟩ := und_of hkv;have : vs = [] := by simpa using k3
              subst this;exact happ (findKey_nil hd u) rfl (fun x hx => by simp at hx)
          obtain ⟨vs', ck', hrun, q1, q2, q3, q4⟩ := hfin;have hS : ¬ S b := H.sep id _ b hh hblkb;refine step_set H E (w' := { w with heap := w.heap.setIfInBounds b (.map (List.toArray vs') ck') }) (b := b) (old := .map es) (by simp [hrun]) hh hblkb (fun c hc => by simp [hblk, hb] at hc; exact hc.symm) (fun k hk => by simp [Array.getElem?_setIfInBounds_ne (Ne.symm hk)]) (by simp) rfl rfl rfl ?_ q3;simp only [HRel];exact ⟨b, vs', ck', hb, by simp [hlt], q1, RelL.mono (U := U) (fun _ _ => rfl) (fun _ k => k) (fun c hc => by
            have : b ≠ c := fun e => hS (e ▸ hc)
            simp [Array.getElem?_setIfInBounds_ne this]) _ _ q3 q2, q4⟩
        · cases hd
      · cases hd
    · cases hd
  · cases hd
theorem makeMap_ok (H : HSat B U ρ S w h) (E : ESat N U ρ S w f a) {nid : Nat} (hn : ¬ U nid) (hn0 : ¬ B.U0 nid) {t : TypeId} :
    StepOk P B N U nid f h a w (do pure (Next.value (<- Instr.makeMap t none))) { pre := True, fact := True, d := .mref nid, e := .add nid (.map []) } := by
  refine step_add H E hn hn0 (v := .map (some w.heap.size)) (g := { a := some ⟨w.heap.size, 0, none⟩, len := 0, cap := 0 }) (w' := { w with heap := w.heap.push (.map #[] 0) }) (by simp [run_makeMap]) push_old (by simp) rfl rfl rfl (by simp [hblk]) ?_ trivial ?_ (.inr rfl)
  · simp only [HRel];exact ⟨w.heap.size, [], 0, by simp, by simp, rfl, trivial, MapKept.stamped_empty 0⟩
  · simp only [Rel]; exact ⟨w.heap.size, by simp, rfl⟩
theorem maplen_ok (H : HSat B U ρ S w h) (E : ESat N U ρ S w f a) {nid : Nat} {t ty kt et : TypeId} {T : TD} {x : DV} {v : Value} {out : Out} (ht : td P t = some T) (hk : T.k = .map kt et) (hx : Rel ρ S w x v)
    (hd : dmaplen x h = some out) : StepOk P B N U nid f h a w (do pure (Next.value (<- Builtin.len_ #[t] ty #[v]))) out := by
  obtain ⟨i, d, z, hi, hu, hz, e1, e2, e3, e4, _⟩ := td_spec ht;obtain rfl := tk_map (e4 ▸ hk);unfold dmaplen at hd;split at hd
  · next es hes =>
    obtain ⟨vs, k1, k2, k3, k4⟩ := mapOf_rel H hes hx;have hlen : vs.length = es.length := by simpa using congrArg List.length k1
    refine pure1_ok H E hd (v := goInt es.length) ?_ (lit_rel rfl) trivial;rcases k4 with ⟨rfl, rfl⟩ | ⟨b, ck, rfl, hb⟩
    · have : es.length = 0 := by simpa using hlen.symm
      simp [Builtin.len_, r_und hu, this]
    · simp [Builtin.len_, r_und hu, MapKept.run_getObj_map hb, hlen]
  · cases hd
end
end Go.Eng
