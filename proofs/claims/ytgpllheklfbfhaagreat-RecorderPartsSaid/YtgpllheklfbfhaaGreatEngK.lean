/-
  A part of the engine that reckons calls at the level of data.
  No condition.
-/

import Derived.Test.YtgpllheklfbfhaaGreatEngJ
namespace Go.Eng
set_option linter.all false
open Go.RowKit
section
variable [Dfr]
variable {P : Program} {B : Base} {N : Nat} {a : Act} {w : World}
theorem drun_sound {pin nx : Nat} {ops : Array Oper} {K : List (Nat × DV) -> List (Nat × HV) -> Prop} {Q : Exit -> Act -> World -> Prop} (hpin : ∀ i, B.U0 i -> i < pin) (hle : pin <= nx) :
    ∀ (os : List Oper) (i : Nat) (A : List (Nat × DV)) (H : List (Nat × HV)) (a : Act) (w : World), (∀ j, os[j]? = ops[i + j]?) -> St B N (nx + 8 * i) A H a w -> drun P N pin nx ops os i A H K ->
      (∀ A' H' a' w', St B N (nx + 8 * (i + os.length)) A' H' a' w' -> K A' H' -> Q .normal a' w') -> wpOps P ops Q (List.range' i os.length) a w
  | [], i, A, H, a, w, _, hS, hd, hQ => by simpa [wpOps] using hQ A H a w (by simpa using hS) hd
  | o :: os, i, A, H, a, w, hl, hS, hd, hQ => by
    have h0 : ops[i]? = some o := by simpa using (hl 0).symm
    simp only [List.length_cons, List.range'_succ, wpOps, h0];have hs := dstep_sound (Q := Q) hS hpin (by omega : pin <= nx + 8 * i) hd;have hlen : nx + 8 * (i + 1 + os.length) = nx + 8 * (i + (o :: os).length) := by simp; omega
    have ih : ∀ A' H' a' w', St B N (nx + 8 * (i + 1)) A' H' a' w' -> drun P N pin nx ops os (i + 1) A' H' K -> wpOps P ops Q (List.range' (i + 1) os.length) a' w' := fun A' H' a' w' hS' hd' =>
      drun_sound hpin hle os (i + 1) A' H' a' w' (fun j => by have := hl (j + 1); simpa [Nat.add_assoc, Nat.add_comm 1 j] using this) hS' hd' fun A2 H2 a2 w2 h2 hK => hQ A2 H2 a2 w2 (hlen ▸ h2) hK
    split
    · next hw =>
      rw [if_pos hw] at hs;exact .inl (Oper.wp_mono (fun a' w' ⟨A', H', hS', hK⟩ => ih A' H' a' w' hS' hK) hs)
    · next hw =>
      rw [if_neg hw] at hs;obtain ⟨A', H', hS', hK⟩ := hs;exact ih A' H' _ _ hS' hK
def fput (f : Nat -> DV) (dst : Option Nat) (d : DV) : Nat -> DV :=
  match dst with
  | some t => upd f t d
  | none => f
def QD (P : Program) (N pin nx : Nat) (ops : Array Oper) (h : Nat -> Option HV) (o : Oper) (c : Bool) (d : DV) (f : Nat -> DV) : Prop :=
  guardD ops o f = some c /\ dstOk N o.dst = true /\ (c = true -> oksD f o.op = true) /\
  ((∃ g args, callOf P o.op (ev f) = some (g, args) /\ (c = true -> DCalls P g args h nx d h) /\ d.uses (fun i => i < nx)) ∨
   (callOf P o.op (ev f) = none /\ ∃ out, dop P nx pin o.op (ev f) h = some out /\ out.d = d /\ (c = true -> out.pre) /\ out.e = .no))
def StF (B : Base) (N nx : Nat) (f : Nat -> DV) (h : Nat -> Option HV) (a : Act) (w : World) : Prop :=
  ∃ ρ S, HSat B (fun i => i < nx) ρ S w h /\ ESat N (fun i => i < nx) ρ S w f a
theorem ESat.putf {U : Nat -> Prop} {ρ : Nat -> Hd} {S : Nat -> Prop} {f : Nat -> DV} (E : ESat N U ρ S w f a) {dst : Option Tmp} (hd : dstOk N dst = true) {x : DV} {v : Value} (hx : Rel ρ S w x v) (hu : x.uses U) :
    ESat N U ρ S w (fput f dst x) (a.put dst v) := by
  cases dst with
  | none => exact E
  | some d => exact E.put d (by simpa [dstOk] using hd) hx hu
theorem HSat.shrink {U U' : Nat -> Prop} {ρ : Nat -> Hd} {S : Nat -> Prop} {h : Nat -> Option HV} (H : HSat B U ρ S w h) (hU : ∀ id v, h id = some v -> U' id /\ v.uses U') : HSat B U' ρ S w h where
  heap := H.heap
  heapU := hU
  disj := H.disj
  sep := H.sep
  prov := H.prov
  sIn := H.sIn
  sProv := H.sProv
  sOld := H.sOld
  pin := H.pin
  ownU := H.ownU
  os := H.os
  tape := H.tape
  output := H.output
  size := H.size
  keep := H.keep
theorem QD_sound {pin nx : Nat} {ops : Array Oper} {h : Nat -> Option HV} {o : Oper} {c : Bool} {d : DV} {f : Nat -> DV} {Q : Exit -> Act -> World -> Prop} (hS : StF B N nx f h a w) (hpin : ∀ i, B.U0 i -> i < pin) (hle : pin <= nx) (hq : QD P N pin nx ops h o c d f) :
    if Region.wanted o (yielded ops a.tmps) then o.wp P a w (fun a' w' => StF B N nx (fput f o.dst (wrapD o c d)) h a' w') Q
    else StF B N nx (fput f o.dst (wrapD o c d)) h (a.put o.dst undef) w := by
  obtain ⟨ρ, S, HS, ES⟩ := hS;obtain ⟨hg, hdst, hoks, hop⟩ := hq;have hn : ¬ nx < nx := Nat.lt_irrefl _;have hn0 : ¬ B.U0 nx := fun k => by have := hpin nx k; omega
  have hw := guard_sound ES hg;rw [hw];have gsome : c = false -> o.guard.isSome = true := fun hc => by
    cases hgu : o.guard with
    | some x => rfl
    | none => simp [guardD, hgu, hc] at hg
  have wrap_rel : ∀ {ρ' : Nat -> Hd} {S' : Nat -> Prop} {w' : World} {d : DV} {v : Value}, c = true -> Rel ρ' S' w' d v -> Rel ρ' S' w' (wrapD o c d) v := fun hc hr => by
    unfold wrapD; split
    · simp only [Rel]; exact ⟨fun _ => hr, fun e => (by rw [hc] at e; cases e)⟩
    · exact hr
  have wrap_uses : ∀ {d : DV}, d.uses (fun i => i < nx) -> (wrapD o c d).uses (fun i => i < nx) := fun hr => by
    unfold wrapD; split
    · exact fun _ => hr
    · exact hr
  by_cases hc : c = true
  · rw [if_pos hc];rcases hop with ⟨g, args, hco, hcall, hdu⟩ | ⟨hco, out, hdo, rfl, hpre, he⟩
    · obtain ⟨hcb, hcon⟩ := hcall hc;have hopx := oksD_all (callOf_pick hco) (hoks hc);obtain ⟨dst, op, ty, pos, after, guard⟩ := o;cases op with
      | call cc =>
        obtain ⟨callee, cargs, cts⟩ := cc;cases callee with
        | value gop =>
          simp only [callOf] at hco;split at hco
          · next k caps hk =>
            obtain ⟨rfl, rfl⟩ := Prod.mk.inj (Option.some.inj hco);have hgr := ev_rel ES (hopx gop (by simp [Op.operands, Call.operands]));have hgu := ev_uses ES (hopx gop (by simp [Op.operands, Call.operands]));rw [hk] at hgr hgu;simp only [Rel] at hgr;obtain ⟨cvs, hgv, hcr⟩ := hgr;have hargs := evs_rel ES cargs.toList fun x hx => hopx x (by simp only [Op.operands, Call.operands]; simp; right; simpa using hx)
            have hc1 := hcon (fun i => i < nx) ρ S w (cargs.toList.map a.eval ++ cvs) HS.to0 (fun i hi => by unfold W8 at hi; omega) (RelL_append hargs.1 hcr) (usesL_append hargs.2 hgu);refine call_wp (c := ⟨.value gop, cargs, cts⟩) rfl hgv hc1 ?_;rintro e w' ⟨v, ρ', S', rfl, H1, hr, hu⟩;refine ⟨v, rfl, ?_⟩;have H2 := (HS.call (fun i k => by have := hpin i k; omega) (fun i hi => by cases hi) H1).shrink HS.heapU;have E2 : ESat N (fun i => i < nx) ρ' S' w' f a := ES.mono (fun i hi => H1.pin i hi) (fun b hb => H1.sOld b hb) (fun b hb => H1.keep b (HS.sIn b hb) (fun i ⟨_, _, v, k1, k2⟩ => HS.sep i v b k1 k2 hb) (fun ⟨i, v, _, k1, k2⟩ => HS.sep i v b k1 k2 hb)) fun _ k => k
            exact ⟨ρ', S', H2, E2.putf hdst (wrap_rel hc hr) (wrap_uses hdu)⟩
          · cases hco
        | _ => cases hco
      | _ => cases hco
    · have := dop_sound' HS ES hn hn0 hpin hdo (hpre hc) (hoks hc);obtain ⟨r, v, w', ρ', S', hrun, hrv, H1, E1, hr, hu, hfact, huq, _⟩ := this;rw [he] at H1 E1;have hu' := huq (by rw [he]; rfl);have H2 : HSat B (fun i => i < nx) ρ' S' w' h := H1.shrink HS.heapU;have E2 : ESat N (fun i => i < nx) ρ' S' w' f a := ⟨E1.size, E1.defers, E1.env, ES.envU⟩;have hfin : StF B N nx (fput f o.dst (wrapD o c out.d)) h (a.put o.dst v) w' := ⟨ρ', S', H2, E2.putf hdst (wrap_rel hc hr) (wrap_uses hu')⟩;unfold Oper.wp;rw [hrun];rcases hrv with rfl | ⟨rfl, rfl⟩
      · exact hfin
      · exact hfin
  · rw [if_neg hc];have hcf : c = false := by simpa using hc
    refine ⟨ρ, S, HS, ES.putf hdst ?_ ?_⟩
    · simp only [wrapD, gsome hcf, if_true, Rel]; exact ⟨fun e => absurd e hc, fun _ => trivial⟩
    · simp only [wrapD, gsome hcf, if_true, DV.uses]; exact fun e => absurd e hc
theorem ev_congr {f f' : Nat -> DV} {x : Operand} (h : ∀ t, x = .tmp t -> f' t = f t) : ev f' x = ev f x := by
  cases x with
  | tmp t => exact h t rfl
  | _ => rfl
theorem pairs_congr {ρ ρ' : Operand -> DV} (ps : Array (Nat × Operand)) (h : ∀ x, x ∈ (ps.toList.map (·.2)) -> ρ x = ρ' x) :
    (ps.toList.map fun (i, x) => (i, (ρ x).un)) = (ps.toList.map fun (i, x) => (i, (ρ' x).un)) :=
  List.map_congr_left fun p hm => by
    obtain ⟨i, x⟩ := p;simp only [h x (List.mem_map.2 ⟨(i, x), hm, rfl⟩)]
theorem dop_congr {nid pin : Nat} {o : Op} {ρ ρ' : Operand -> DV} {h : Nat -> Option HV} (hr : ∀ x, x ∈ o.operands.toList -> ρ x = ρ' x) : dop P nid pin o ρ h = dop P nid pin o ρ' h := by
  cases o with
  | build t ps => simp only [dop]; rw [pairs_congr ps fun x hx => hr x (by simpa [Op.operands] using hx)]
  | makeSlice t x y => simp only [dop]; rw [hr x (by simp [Op.operands]), hr y (by simp [Op.operands])]
  | buildSlice t n ps => simp only [dop]; rw [pairs_congr ps fun x hx => hr x (by simpa [Op.operands] using hx)]
  | makeFunc fn first caps =>
    cases fn <;> simp only [dop];rw [List.map_congr_left fun x hx => by rw [hr x (by simp only [Op.operands]; simp; right; simpa using hx)]]
  | slice t x lo hi mx =>
    have hx := hr x (by simp [Op.operands]);cases mx <;> simp only [dop];have h1 : asIO ρ lo = asIO ρ' lo := by cases lo with
      | none => rfl
      | some y => simp only [asIO]; rw [hr y (by simp [Op.operands])]
    have h2 : asIO ρ hi = asIO ρ' hi := by cases hi with
      | none => rfl
      | some y => simp only [asIO]; rw [hr y (by simp [Op.operands])]
    rw [hx, h1, h2]
  | call c =>
    obtain ⟨callee, args, ts⟩ := c;cases callee with
    | builtin b =>
      have ha : ∀ x, x ∈ args.toList -> ρ x = ρ' x := fun x hx => hr x (by simp only [Op.operands, Call.operands]; simpa using hx)
      cases b <;> simp only [dop];all_goals
        generalize args.toList = l at ha;generalize ts.toList = m;match l, m with
        | [], _ => rfl
        | [x], [] => simp only [ha x (by simp)]
        | [x], [_] => simp only [ha x (by simp)]
        | [x], _ :: _ :: _ => simp only [ha x (by simp)]
        | [x, y], [] => simp only [ha x (by simp), ha y (by simp)]
        | [x, y], [_] => simp only [ha x (by simp), ha y (by simp)]
        | [x, y], [_, _] => simp only [ha x (by simp), ha y (by simp)]
        | [x, y], _ :: _ :: _ :: _ => simp only [ha x (by simp), ha y (by simp)]
        | _ :: _ :: _ :: _, _ => rfl
    | _ => rfl
  | move x => simp only [dop]; rw [hr x (by simp [Op.operands])]
  | assign x => simp only [dop]; rw [hr x (by simp [Op.operands])]
  | box e x => simp only [dop]; rw [hr x (by simp [Op.operands])]
  | load t x => simp only [dop]; rw [hr x (by simp [Op.operands])]
  | store t x y => simp only [dop]; rw [hr x (by simp [Op.operands]), hr y (by simp [Op.operands])]
  | nilCheck x => simp only [dop]; rw [hr x (by simp [Op.operands])]
  | binOp op t x y yt => simp only [dop]; rw [hr x (by simp [Op.operands]), hr y (by simp [Op.operands])]
  | unOp op t x => simp only [dop]; rw [hr x (by simp [Op.operands])]
  | convert s t x => simp only [dop]; rw [hr x (by simp [Op.operands])]
  | pick c x y => simp only [dop]; rw [hr c (by simp [Op.operands]), hr x (by simp [Op.operands]), hr y (by simp [Op.operands])]
  | fieldAddr t x k => simp only [dop]; rw [hr x (by simp [Op.operands])]
  | field t x k => simp only [dop]; rw [hr x (by simp [Op.operands])]
  | indexAddr t x i => simp only [dop]; rw [hr x (by simp [Op.operands]), hr i (by simp [Op.operands])]
  | index t x i => simp only [dop]; rw [hr x (by simp [Op.operands]), hr i (by simp [Op.operands])]
  | makeMap t r => cases r <;> simp only [dop]
  | lookup t x k ok => simp only [dop]; rw [hr x (by simp [Op.operands]), hr k (by simp [Op.operands])]
  | mapUpdate t x k v => simp only [dop]; rw [hr x (by simp [Op.operands]), hr k (by simp [Op.operands]), hr v (by simp [Op.operands])]
  | insert t x k v => simp only [dop]; rw [hr x (by simp [Op.operands]), hr k (by simp [Op.operands]), hr v (by simp [Op.operands])]
  | extract x i => simp only [dop]; rw [hr x (by simp [Op.operands])]
  | _ => rfl
theorem callOf_congr {o : Op} {ρ ρ' : Operand -> DV} (hr : ∀ x, x ∈ o.operands.toList -> ρ x = ρ' x) : callOf P o ρ = callOf P o ρ' := by
  cases o with
  | call c =>
    obtain ⟨callee, args, ts⟩ := c;cases callee with
    | value g =>
      simp only [callOf];rw [hr g (by simp [Op.operands, Call.operands]), List.map_congr_left fun x hx => by rw [hr x (by simp only [Op.operands, Call.operands]; simp; right; simpa using hx)]]
    | _ => rfl
  | _ => rfl
theorem oksD_congr {o : Op} {f f' : Nat -> DV} (hx : ∀ x, x ∈ o.operands.toList -> ev f' x = ev f x) : oksD f' o = oksD f o := by
  cases o with
  | pick c x y => simp only [oksD]; rw [hx c (by simp [Op.operands]), hx x (by simp [Op.operands]), hx y (by simp [Op.operands])]
  | _ =>
    simp only [oksD];rw [Bool.eq_iff_iff, List.all_eq_true, List.all_eq_true];exact ⟨fun h x hm => by rw [<- hx x hm]; exact h x hm, fun h x hm => by rw [hx x hm]; exact h x hm⟩
theorem QD_congr {pin nx : Nat} {ops : Array Oper} {h : Nat -> Option HV} {o : Oper} {c : Bool} {d : DV} {f f' : Nat -> DV} (hf : ∀ t, t ∈ o.looksAt ops -> f' t = f t) (hq : QD P N pin nx ops h o c d f) : QD P N pin nx ops h o c d f' := by
  have hx : ∀ x, x ∈ o.op.operands.toList -> ev f' x = ev f x := fun x hx => ev_congr fun t e => hf t (by
    subst e;exact List.mem_append_left _ (List.mem_filterMap.2 ⟨.tmp t, hx, rfl⟩))
  obtain ⟨hg, hdst, hoks, hop⟩ := hq;refine ⟨?_, hdst, fun hc => ?_, ?_⟩
  · rw [<- hg];unfold guardD;cases hgu : o.guard with
    | none => rfl
    | some jw =>
      obtain ⟨j, want⟩ := jw;dsimp only;cases hs : (ops[j]?).bind (·.dst) with
      | none => rfl
      | some s =>
        dsimp only;rw [hf s (by simp [Oper.looksAt, hgu, hs])]
  · rw [oksD_congr hx]; exact hoks hc
  · rw [callOf_congr hx, dop_congr hx];exact hop
def dOpQ (P : Program) (N pin nx : Nat) (ops : Array Oper) (h : Nat -> Option HV) (i : Nat) (K : (Nat -> DV) -> Prop) (f : Nat -> DV) : Prop :=
  match ops[i]? with
  | none => K f
  | some o => ∃ c d, QD P N pin nx ops h o c d f /\ K (fput f o.dst (wrapD o c d))
def wpAnyD (P : Program) (N pin nx : Nat) (ops : Array Oper) (h : Nat -> Option HV) (K : (Nat -> DV) -> Prop) : Nat -> Array Bool -> (Nat -> DV) -> Prop
  | 0, listed, f => Region.ready .any ops listed = [] /\ K f
  | fuel + 1, listed, f => (Region.ready .any ops listed = [] -> K f) /\ ∀ i, i ∈ Region.ready .any ops listed -> dOpQ P N pin nx ops h i (wpAnyD P N pin nx ops h K fuel (listed.setIfInBounds i true)) f
theorem wpAny_of_D {pin nx : Nat} {ops : Array Oper} {h : Nat -> Option HV} {K : (Nat -> DV) -> Prop} {Q : Exit -> Act -> World -> Prop} (hpin : ∀ i, B.U0 i -> i < pin) (hle : pin <= nx)
    (hQ : ∀ f a w, StF B N nx f h a w -> K f -> Q .normal a w) : ∀ (fuel : Nat) (listed : Array Bool) (f : Nat -> DV) (a : Act) (w : World), StF B N nx f h a w -> wpAnyD P N pin nx ops h K fuel listed f -> wpAny P .any ops Q fuel listed a w
  | 0, _, f, a, w, hS, hd => ⟨hd.1, hQ f a w hS hd.2⟩
  | fuel + 1, listed, f, a, w, hS, hd => by
    refine ⟨fun h0 => hQ f a w hS (hd.1 h0), fun i hi => ?_⟩;have := hd.2 i hi;unfold dOpQ at this;unfold wpOp;cases ho : ops[i]? with
    | none => rw [ho] at this; exact wpAny_of_D hpin hle hQ fuel _ f a w hS this
    | some o =>
      rw [ho] at this;obtain ⟨c, d, hq, hk⟩ := this;have hs := QD_sound (Q := Q) hS hpin hle hq;dsimp only;split
      · next hw => rw [if_pos hw] at hs; exact .inl (Oper.wp_mono (fun a' w' hS' => wpAny_of_D hpin hle hQ fuel _ _ a' w' hS' hk) hs)
      · next hw => rw [if_neg hw] at hs; exact wpAny_of_D hpin hle hQ fuel _ _ _ _ hs hk
theorem fput_comm {f : Nat -> DV} {p q : Option Nat} {x y : DV} (h : ∀ d, p = some d -> q ≠ some d) : fput (fput f p x) q y = fput (fput f q y) p x := by
  cases p with
  | none => rfl
  | some d =>
    cases q with
    | none => rfl
    | some e =>
      have hne : e ≠ d := fun k => h d rfl (by rw [k])
      funext t
      simp only [fput, upd];split
      · next h1 => subst h1; rw [if_neg hne]
      · rfl
theorem fput_look {f : Nat -> DV} {p : Option Nat} {x : DV} {l : List Nat} (h : ∀ d, p = some d -> d ∉ l) : ∀ t, t ∈ l -> fput f p x t = f t := by
  intro t ht;cases p with
  | none => rfl
  | some d =>
    have : t ≠ d := fun e => h d rfl (e ▸ ht)
    exact upd_ne _ _ this
theorem dOpQ_mono {pin nx : Nat} {ops : Array Oper} {h : Nat -> Option HV} {i : Nat} {K K' : (Nat -> DV) -> Prop} {f : Nat -> DV} (hk : ∀ f, K f -> K' f) (hd : dOpQ P N pin nx ops h i K f) : dOpQ P N pin nx ops h i K' f := by
  unfold dOpQ at *
  split
  · next e => rw [e] at hd; exact hk _ hd
  · next o e =>
    rw [e] at hd;obtain ⟨c, d, hq, hK⟩ := hd;exact ⟨c, d, hq, hk _ hK⟩
theorem dOpQ_put {pin nx : Nat} {ops : Array Oper} {h : Nat -> Option HV} {j : Nat} {oi oj : Oper} {c : Bool} {d : DV} {K : (Nat -> DV) -> Prop} {f : Nat -> DV} (hj : ops[j]? = some oj) (hap : oi.apart ops oj = true)
    (hq : QD P N pin nx ops h oi c d f) (hd : dOpQ P N pin nx ops h j K (fput f oi.dst (wrapD oi c d))) :
    dOpQ P N pin nx ops h j (fun f' => QD P N pin nx ops h oi c d f' /\ K (fput f' oi.dst (wrapD oi c d))) f := by
  obtain ⟨h1, h2, h3⟩ := Oper.apart_spec hap;unfold dOpQ at *
  rw [hj] at hd ⊢;obtain ⟨c', d', hq', hK⟩ := hd;refine ⟨c', d', QD_congr (fun t ht => (fput_look h1 t ht).symm) hq', QD_congr (fput_look h3) hq, ?_⟩;rw [fput_comm (fun e he k => h2 e k he)];exact hK
theorem wpAnyD_first {pin nx : Nat} {ops : Array Oper} {h : Nat -> Option HV} {K : (Nat -> DV) -> Prop} {i : Nat} {oi : Oper} {c : Bool} {d : DV} (hi : ops[i]? = some oi) :
    ∀ (fuel : Nat) (listed : Array Bool) (f : Nat -> DV),
      (∀ j oj, ops[j]? = some oj -> j ≠ i -> listed.getD j true = false -> (∀ e ∈ oj.after, Region.binds .any e = true -> e.on ≠ i) -> oi.apart ops oj = true) ->
      i ∈ Region.ready .any ops listed -> QD P N pin nx ops h oi c d f ->
      wpAnyD P N pin nx ops h K fuel (listed.setIfInBounds i true) (fput f oi.dst (wrapD oi c d)) -> wpAnyD P N pin nx ops h K (fuel + 1) listed f := by
  intro fuel;induction fuel with
  | zero =>
    intro listed f _ hr hy H;refine ⟨fun h => (by rw [h] at hr; cases hr), fun j hj => ?_⟩;by_cases hji : j = i
    · subst hji; unfold dOpQ; rw [hi]; exact ⟨c, d, hy, H⟩
    · have := ready_mono hj hji;rw [H.1] at this;cases this
  | succ fuel ih =>
    intro listed f hfree hr hy H;refine ⟨fun h => (by rw [h] at hr; cases hr), fun j hj => ?_⟩;by_cases hji : j = i
    · subst hji; unfold dOpQ; rw [hi]; exact ⟨c, d, hy, H⟩
    · have h1 := H.2 j (ready_mono hj hji);obtain ⟨hjun, oj, hoj, hall⟩ := mem_ready.1 hj;have hnot : ∀ e ∈ oj.after, Region.binds .any e = true -> e.on ≠ i := fun e he hb heq => by
        have h1 := hall e he hb;have h0 := (mem_ready.1 hr).1;rw [heq] at h1;rcases Nat.lt_or_ge i listed.size with h' | h'
        · simp [h'] at h0 h1; rw [h0] at h1; cases h1
        · simp [Array.getElem?_eq_none h'] at h1
      have h2 := dOpQ_put hoj (hfree j oj hoj hji hjun hnot) hy h1;have hfree' : ∀ k ok, ops[k]? = some ok -> k ≠ i -> (listed.setIfInBounds j true).getD k true = false ->
          (∀ e ∈ ok.after, Region.binds .any e = true -> e.on ≠ i) -> oi.apart ops ok = true := fun k ok hk hki hun hno => by
        refine hfree k ok hk hki ?_ hno;by_cases hjk : j = k
        · subst hjk; exact hjun
        · rw [getD_set_ne true hjk] at hun; exact hun
      refine dOpQ_mono (fun f' h3 => ih (listed.setIfInBounds j true) f' hfree' (ready_mono hr (Ne.symm hji)) h3.1 ?_) h2;rw [Array.setIfInBounds_comm _ _ hji];exact h3.2
def dstepQ (P : Program) (N pin nx : Nat) (ops : Array Oper) (o : Oper) (A : List (Nat × DV)) (H : List (Nat × HV)) (K : List (Nat × DV) -> Prop) : Prop :=
  match guardD ops o (eget A) with
  | none => False
  | some c =>
    dstOk N o.dst = true /\ (c = true -> oksD (eget A) o.op = true) /\
    match callOf P o.op (ev (eget A)) with
    | some (g, args) => ∃ d, (c = true -> DCalls P g args (hget H) nx d (hget H)) /\ d.uses (fun i => i < nx) /\ K (eput A o.dst (wrapD o c d))
    | none => match dop P nx pin o.op (ev (eget A)) (hget H) with
      | none => False
      | some out => (c = true -> out.pre) /\ out.e.quiet = true /\ K (eput A o.dst (wrapD o c out.d))
def drunQ (P : Program) (N pin nx : Nat) (ops : Array Oper) : List Oper -> List (Nat × DV) -> List (Nat × HV) -> (List (Nat × DV) -> Prop) -> Prop
  | [], A, _, K => K A
  | o :: os, A, H, K => dstepQ P N pin nx ops o A H fun A' => drunQ P N pin nx ops os A' H K
theorem eget_eput (A : List (Nat × DV)) (dst : Option Nat) (d : DV) : eget (eput A dst d) = fput (eget A) dst d := by
  cases dst with
  | none => rfl
  | some t => exact eget_put A t d
theorem dstepQ_spec {pin nx : Nat} {ops : Array Oper} {o : Oper} {A : List (Nat × DV)} {H : List (Nat × HV)} {K : List (Nat × DV) -> Prop} (hd : dstepQ P N pin nx ops o A H K) :
    ∃ c d, QD P N pin nx ops (hget H) o c d (eget A) /\ K (eput A o.dst (wrapD o c d)) := by
  unfold dstepQ at hd;cases hg : guardD ops o (eget A) with
  | none => rw [hg] at hd; exact hd.elim
  | some c =>
    rw [hg] at hd;obtain ⟨h1, h2, h3⟩ := hd;cases hco : callOf P o.op (ev (eget A)) with
    | some ga =>
      obtain ⟨g, args⟩ := ga;rw [hco] at h3;obtain ⟨d, k1, k2, k3⟩ := h3;exact ⟨c, d, ⟨hg, h1, h2, .inl ⟨g, args, hco, k1, k2⟩⟩, k3⟩
    | none =>
      rw [hco] at h3;dsimp only at h3;cases hdo : dop P nx pin o.op (ev (eget A)) (hget H) with
      | none => rw [hdo] at h3; exact h3.elim
      | some out =>
        rw [hdo] at h3;obtain ⟨k1, k2, k3⟩ := h3;refine ⟨c, out.d, ⟨hg, h1, h2, .inr ⟨hco, out, hdo, rfl, k1, ?_⟩⟩, k3⟩;cases hx : out.e <;> simp [hx, Eff.quiet] at k2;rfl
theorem wpAnyD_lex {pin nx : Nat} {ops : Array Oper} {H : List (Nat × HV)} {K : List (Nat × DV) -> Prop} : ∀ (l : List Oper) (k : Nat) (listed : Array Bool) (A : List (Nat × DV)), (∀ j, l[j]? = ops[k + j]?) ->
    Region.lexFrom .any ops l.length k listed = true -> drunQ P N pin nx ops l A H K -> wpAnyD P N pin nx ops (hget H) (fun f => ∃ A', eget A' = f /\ K A') l.length listed (eget A)
  | [], _, _, A, _, hB, hd => ⟨by simpa [Region.lexFrom] using hB, A, rfl, hd⟩
  | o :: l, k, listed, A, hl, hB, hd => by
    have h0 : ops[k]? = some o := by simpa using (hl 0).symm
    simp only [List.length_cons, Region.lexFrom, Bool.and_eq_true] at hB;obtain ⟨⟨hr, hf⟩, hB'⟩ := hB;obtain ⟨c, d, hq, hK⟩ := dstepQ_spec hd;refine wpAnyD_first h0 l.length listed (eget A) (Region.free_spec h0 hf) (by simpa using hr) hq ?_;rw [<- eget_eput];exact wpAnyD_lex l (k + 1) _ _ (fun j => by have := hl (j + 1); simpa [Nat.add_assoc, Nat.add_comm 1 j] using this) hB' hK
theorem StF_drew {nx : Nat} {f : Nat -> DV} {h : Nat -> Option HV} (hS : StF B N nx f h a w) : StF B N nx f h a { w with drawn := w.drawn + 1 } := by
  obtain ⟨ρ, S, HS, ES⟩ := hS;exact ⟨ρ, S, HS.grow (fun _ _ => rfl) (Nat.le_refl _) rfl rfl rfl, ES.mono (fun _ _ => rfl) (fun _ k => k) (fun _ _ => rfl) fun _ k => k⟩
theorem drunQ_sound {pin nx id : Nat} {ops : Array Oper} {A : List (Nat × DV)} {H : List (Nat × HV)} {K : List (Nat × DV) -> Prop} {Q : Exit -> Act -> World -> Prop} (hm : P.follows .mixedOrders = true) (hB : Region.lexB .any ops = true)
    (hpin : ∀ i, B.U0 i -> i < pin) (hle : pin <= nx) (hS : St B N nx A H a w) (hd : drunQ P N pin nx ops ops.toList A H K) (hQ : ∀ A' a' w', St B N nx A' H a' w' -> K A' -> Q .normal a' w') : (Code.region id ops true).wp P Q a w := by
  simp only [Region.lexB, Bool.and_eq_true] at hB;refine wp_region_any hm ?_;have := wpAnyD_lex (K := K) ops.toList 0 (Array.replicate ops.size false) A (by simp) (by simpa using hB.2) hd;have h2 := wpAny_of_D (Q := Q) hpin hle (fun f a' w' hS' ⟨A', e, hK⟩ => hQ A' a' w' (by subst e; exact hS') hK) _ _ _ _ _ (StF_drew hS) this;simpa using h2
end
end Go.Eng
