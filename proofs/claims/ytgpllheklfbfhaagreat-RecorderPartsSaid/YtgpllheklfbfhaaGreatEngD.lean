/-
  A part of the engine that reckons calls at the level of data.
  No condition.
-/

import Derived.Test.YtgpllheklfbfhaaGreatEngC
import Derived.ChangeKeysEq
namespace Go.Eng
set_option linter.all false
open Go.RowKit
section
variable [Dfr]
variable {P : Program}
theorem td_spec {t : TypeId} {T : TD} (h : td P t = some T) : ∃ i d z, P.info? t = some i /\ P.underlying t = some d /\ i.zero = some z /\
    T.size = i.size /\ T.bytes = i.bytes /\ T.zero = z.cells.toList /\ T.k = tkOf d /\ T.held = P.stoodInHeld t /\ T.eqg = P.eqGuardType P.depth t /\ T.fok = (match d with | .struct fs => fs.toList.all fun f => (P.info? f.type).isSome | _ => vcell z) := by
  unfold td at h;split at h
  · next i d h1 h2 =>
    split at h
    · next z h3 => cases h; exact ⟨i, d, z, h1, h2, h3, rfl, rfl, rfl, rfl, rfl, rfl, rfl⟩
    · cases h
  · cases h
theorem r_und {t : TypeId} {d : TypeDesc} (h : P.underlying t = some d) (w : World) : (underlying t).run P w = .ok d w := run_underlying h w
theorem r_info {t : TypeId} {i : TypeInfo} (h : P.info? t = some i) (w : World) : (typeInfo t).run P w = .ok i w := by simp [typeInfo, h]
theorem r_size {t : TypeId} {i : TypeInfo} (h : P.info? t = some i) (w : World) : (sizeOf t).run P w = .ok i.size w := by simp [sizeOf, r_info h]
theorem r_zero {t : TypeId} {i : TypeInfo} {z : Value} (h : P.info? t = some i) (hz : i.zero = some z) (w : World) : (zeroValue t).run P w = .ok z w := by simp [zeroValue, r_info h, hz]
theorem tk_struct {fs : Array Field} : (tkOf (.struct fs)).isAgg = true := by unfold tkOf; dsimp only; split <;> rfl
theorem r_isAgg {t : TypeId} {d : TypeDesc} (h : P.underlying t = some d) (w : World) : (isAgg t).run P w = .ok (tkOf d).isAgg w := by
  cases d with
  | struct fs => rw [tk_struct]; simp [isAgg, r_und h]
  | _ => simp [isAgg, r_und h, tkOf, TK.isAgg]
theorem cdv_rel {ρ : Nat -> Hd} {S : Nat -> Prop} {w : World} (v : Value) : Rel ρ S w (cdv v) v := by
  unfold cdv;split
  · next h => simp only [Rel]; exact .lit v h
  · split
    · next cs _ =>
      split
      · next h =>
        simp only [Rel];refine ⟨cs.toList, by simp, RelL_mk (by simp) fun i hi => ?_⟩;simp only [List.length_map] at hi;have hm : cs.toList.getD i default ∈ cs.toList := by
          rw [List.getD_eq_getElem?_getD, List.getElem?_eq_getElem hi]; simp
        have e : (cs.toList.map fun c => DV.p (.lit c)).getD i default = DV.p (.lit (cs.toList.getD i default)) := by
          generalize cs.toList = l at hi ⊢;simp [hi]
        rw [e]; simp only [Rel];exact .lit _ (List.all_eq_true.1 h _ hm)
      · simp only [Rel]
    · simp only [Rel]
theorem cdv_uses {U : Nat -> Prop} (v : Value) : (cdv v).uses U := by
  unfold cdv;split
  · trivial
  · split
    · split
      · simp only [DV.uses]; rw [usesL_iff]; intro d hd; obtain ⟨c, _, rfl⟩ := List.mem_map.1 hd; trivial
      · trivial
    · trivial
theorem un_uses {U : Nat -> Prop} {d : DV} (h : d.uses U) (hok : d.okB = true) : d.un.uses U := by
  cases d with
  | opt b d => exact h (by simpa [DV.okB] using hok)
  | _ => exact h
theorem un_rel {ρ : Nat -> Hd} {S : Nat -> Prop} {w : World} {d : DV} {v : Value} (h : Rel ρ S w d v) (hok : d.okB = true) : Rel ρ S w d.un v := by
  cases d with
  | opt b d => simp only [Rel] at h; exact h.1 (by simpa [DV.okB] using hok)
  | _ => exact h
variable {B : Base} {N : Nat} {U : Nat -> Prop} {ρ : Nat -> Hd} {S : Nat -> Prop} {w : World} {f : Nat -> DV} {h : Nat -> Option HV} {a : Act}
theorem ev_rel0 (E : ESat N U ρ S w f a) (x : Operand) : Rel ρ S w (ev f x) (a.eval x) := by
  cases x with
  | tmp t => exact E.env t
  | const v => exact cdv_rel v
  | global g => simp only [ev, Rel]
  | func g => simp only [ev, Rel]; exact ⟨[], rfl, trivial⟩
theorem ev_uses0 (E : ESat N U ρ S w f a) (x : Operand) : (ev f x).uses U := by
  cases x with
  | tmp t => exact E.envU t
  | const v => exact cdv_uses v
  | global g => trivial
  | func g => trivial
theorem ev_rel (E : ESat N U ρ S w f a) {x : Operand} (hok : (ev f x).okB = true) : Rel ρ S w (ev f x).un (a.eval x) := un_rel (ev_rel0 E x) hok
theorem ev_uses (E : ESat N U ρ S w f a) {x : Operand} (hok : (ev f x).okB = true) : (ev f x).un.uses U := un_uses (ev_uses0 E x) hok
theorem rel_lit {v u : Value} (h : Rel ρ S w (.p (.lit v)) u) : u = v := by simp only [Rel] at h; cases h; rfl
def effH (nid : Nat) (h : Nat -> Option HV) : Eff -> Nat -> Option HV
  | .no => h
  | .add id v => upd h id (some v)
  | .set id v => upd h id (some v)
  | .app old v => upd (upd (hren old nid h) nid none) old (some v)
def effF (nid : Nat) (f : Nat -> DV) : Eff -> Nat -> DV
  | .app old _ => fun t => (f t).ren old nid
  | _ => f
def StepOk (P : Program) (B : Base) (N : Nat) (U : Nat -> Prop) (nid : Nat) (f : Nat -> DV) (h : Nat -> Option HV) (a : Act) (w : World) (s : Sem Next) (out : Out) : Prop :=
  ∃ r v w' ρ' S', s.run P w = .ok r w' /\ (r = .value v ∨ (r = .skip /\ v = undef)) /\
    HSat B (fun i => U i ∨ i = nid) ρ' S' w' (effH nid h out.e) /\ ESat N (fun i => U i ∨ i = nid) ρ' S' w' (effF nid f out.e) a /\
    Rel ρ' S' w' out.d v /\ out.d.uses (fun i => U i ∨ i = nid) /\ out.fact /\ (out.e.quiet = true -> out.d.uses U) /\
    (∀ old hv, out.e = .app old hv -> ∃ ρ2, HSat B (fun i => U i ∨ i = nid) ρ2 S' w' (upd (upd h old none) nid (some hv)) /\ ESat N (fun i => U i ∨ i = nid) ρ2 S' w' f a /\ Rel ρ2 S' w' (.gl nid) v)
theorem step_no (H : HSat B U ρ S w h) (E : ESat N U ρ S w f a) {nid : Nat} {s : Sem Next} {d : DV} {v : Value} {q c : Prop}
    (hr : s.run P w = .ok (.value v) w) (hd : Rel ρ S w d v) (hu : d.uses U) (hc : c) : StepOk P B N U nid f h a w s { pre := q, fact := c, d, e := .no } :=
  ⟨.value v, v, w, ρ, S, hr, .inl rfl, H.used fun _ k => .inl k, E.mono (fun _ _ => rfl) (fun _ k => k) (fun _ _ => rfl) fun _ k => .inl k, hd, uses_mono (fun _ k => .inl k) _ hu, hc, fun _ => hu, fun _ _ e => (by cases e)⟩
theorem step_add (H : HSat B U ρ S w h) (E : ESat N U ρ S w f a) {nid : Nat} (hn : ¬ U nid) (hn0 : ¬ B.U0 nid) {s : Sem Next} {d : DV} {v : Value} {q : Prop} {w' : World} {hv : HV} {g : Hd}
    (hr : s.run P w = .ok (.value v) w') (hw : ∀ k, k < w.heap.size -> w'.heap[k]? = w.heap[k]?) (hsz : w.heap.size <= w'.heap.size) (hos : w'.os = w.os) (ht : w'.tape = w.tape) (ho : w'.output = w.output)
    (hb : ∀ b, hblk g hv = some b -> b = w.heap.size) (hv' : HRel (upd ρ nid g) S w' nid hv) (hu : hv.uses U)
    (hd : Rel (upd ρ nid g) S w' d v) (hdu : d.uses (fun i => U i ∨ i = nid)) : StepOk P B N U nid f h a w s { pre := q, fact := True, d, e := .add nid hv } := by
  have hρ : ∀ i, U i -> upd ρ nid g i = ρ i := fun i hi => by
    have hne : i ≠ nid := fun e => hn (e ▸ hi)
    exact upd_ne _ _ hne
  refine ⟨.value v, v, w', upd ρ nid g, S, hr, .inl rfl, ?_, ?_, hd, hdu, trivial, fun e => (by cases e), fun _ _ e => (by cases e)⟩
  · refine H.install nid hv w.heap.size hρ ?_ (fun k hk _ => hw k hk) hsz hos ht ho ?_ (.inr (.inr H.size)) ?_ (by simpa using hb) hv' (HV.uses_mono (fun _ k => .inl k) _ hu)
    · intro i hi;have hne : i ≠ nid := fun e => hn0 (e ▸ hi)
      exact upd_ne _ _ hne
    · intro hS; have := H.sIn _ hS; omega
    · intro j u _ hj e; have := hblk_lt (H.heap j u hj) e; omega
  · exact E.mono hρ (fun _ k => k) (fun b hb => hw b (H.sIn b hb)) fun _ k => .inl k
theorem toList_eq (x y : ByteArray) : (x.toList == y.toList) = decide (x = y) := by
  rw [Bool.eq_iff_iff];simp only [beq_iff_eq, decide_eq_true_eq];constructor
  · intro e;have e1 := congrArg List.toArray e;have : x.data = y.data := by
      have hx : x.toList = x.data.toList := by simp [ByteArray.toList_eq]
      have hy : y.toList = y.data.toList := by simp [ByteArray.toList_eq]
      rw [hx, hy] at e1;simpa using e1
    cases x; cases y; simp_all
  · intro e; rw [e]
theorem pure1_spec {d : DV} {o : Out} (h : pure1 d = some o) : o = { pre := True, fact := True, d, e := .no } := by simpa [pure1] using h.symm
theorem i64max : IntKind.i64.max = 9223372036854775807 := by decide
theorem dbin_run {op : BinOp} {t : TypeId} {x y v : Value} {q : Prop} (h : dbin op x y = some (q, v)) (hq : q) (w : World) : (binOp op t x y).run P w = .ok v w /\ vcell v = true := by
  unfold dbin at h;split at h
  · next k a k' b =>
    cases op <;> dsimp only at h
    case shl => cases h; constructor; · have : ¬ b < 0 := by omega
                                        simp [binOp, Op.shift, this]
                · rfl
    case shr => cases h; constructor; · have : ¬ b < 0 := by omega
                                        simp [binOp, Op.shift, this]
                · rfl
    all_goals
      split at h
      · next hk =>
        subst hk;cases h;constructor
        · first
            | simp [binOp, Op.intArith]; done
            | (simp [binOp, Op.intDiv, hq]; done)
            | (simp [binOp, Op.intBits]; done)
            | (simp [binOp, Op.intCmp]; done)
        · rfl
      · cases h
  · next a b =>
    cases op <;> dsimp only at h <;> cases h;all_goals
      constructor
      · first
          | (simp [binOp, Op.stringOp, toList_eq]; done)
          | (simp [binOp, Op.stringOp]; unfold BL at hq; omega)
      · rfl
  · cases h
theorem guard_run {op : BinOp} {t : TypeId} {x y : Operand} {u v : Value} (hu : vcell u = true) (hn : u ≠ .nilIface) (w : World) : (eqGuard op t x y u v).run P w = .ok () w := by
  unfold eqGuard;cases op <;> simp;all_goals
    split
    · exact absurd rfl hn
    · simp [vcell] at hu
    · rfl
theorem dbin_ne {op : BinOp} {x y v : Value} {q : Prop} (h : dbin op x y = some (q, v)) : vcell x = true /\ x ≠ .nilIface := by
  unfold dbin at h;split at h
  · exact ⟨rfl, by simp⟩
  · exact ⟨rfl, by simp⟩
  · cases h
theorem dun_run {op : UnOp} {x v : Value} (h : dun op x = some v) (w : World) : (Op.unary op x).run P w = .ok v w /\ vcell v = true := by
  unfold dun at h;split at h
  · next k n =>
    cases op <;> dsimp only at h <;> cases h;simp [Op.unary, Op.intArith, vcell]
  · next b =>
    cases op <;> dsimp only at h <;> cases h;simp [Op.unary, vcell]
  · cases h
theorem addr_add (b off j : Nat) : (⟨b, off, none⟩ : Addr).add j = ⟨b, off + j, none⟩ := by
  unfold Addr.add; split
  · next e => subst e; rfl
  · rfl
theorem run_agg {t : TypeId} {i : TypeInfo} {d : TypeDesc} (hi : P.info? t = some i) (hd : P.underlying t = some d) (hagg : (tkOf d).isAgg = true) {b off : Nat} {c : Nat -> Value}
    (hc : ∀ j, j < i.size -> w.cell? ⟨b, off + j, none⟩ = some (c j)) : (loadVar t ⟨b, off, none⟩).run P w = .ok (.agg ((List.range i.size).map c).toArray) w := by
  have := run_loadCells (P := P) w ⟨b, off, none⟩ i.size c (fun j hj => by rw [addr_add]; exact hc j hj);simp [loadVar, r_isAgg hd, hagg, r_size hi, this]
theorem run_one {t : TypeId} {d : TypeDesc} (hd : P.underlying t = some d) (hagg : (tkOf d).isAgg = false) {b off : Nat} {c : Value}
    (hc : w.cell? ⟨b, off, none⟩ = some c) : (loadVar t ⟨b, off, none⟩).run P w = .ok c w := by
  simp [loadVar, r_isAgg hd, hagg, hc]
theorem RelL_range {ds : List DV} {n : Nat} {c : Nat -> Value} (hl : ds.length = n) (hr : ∀ j, j < n -> Rel ρ S w (ds.getD j default) (c j)) : RelL ρ S w ds ((List.range n).map c) := by
  refine RelL_mk (by simp [hl]) fun j hj => ?_
  have : ((List.range n).map c).getD j default = c j := by simp [hl ▸ hj]
  rw [this]; exact hr j (hl ▸ hj)
theorem usesL_sub {l m : List DV} (hs : ∀ d, d ∈ m -> d ∈ l) (hu : DV.usesL U l) : DV.usesL U m := usesL_iff.2 fun d hd => usesL_iff.1 hu d (hs d hd)
theorem uses_get {l : List DV} {i : Nat} (hu : DV.usesL U l) : (l.getD i default).uses U := by
  rw [List.getD_eq_getElem?_getD];cases e : l[i]? with
  | none => trivial
  | some x => exact usesL_iff.1 hu x (List.mem_of_getElem? e)
theorem loadp_ok (H : HSat B U ρ S w h) (E : ESat N U ρ S w f a) {nid : Nat} {t : TypeId} {T : TD} {cs : List PV} {v : Value} {out : Out}
    (ht : td P t = some T) (hx : PRel S w (.ptr cs) v) (hd : (if T.k.isAgg then some { pre := T.size <= cs.length, fact := True, d := .agg ((cs.take T.size).map .p), e := .no }
      else some { pre := 0 < cs.length, fact := True, d := .p (cs.getD 0 default), e := .no } : Option Out) = some out) (hp : out.pre) :
    StepOk P B N U nid f h a w (do pure (Next.value (<- Instr.loadAt t v))) out := by
  obtain ⟨i, d, z, hi, hu, hz, e1, e2, e3, e4, _⟩ := td_spec ht;have hx' := hx;generalize hy : PV.ptr cs = y at hx';cases hx' with
  | ub b => cases hy
  | map => cases hy
  | lit v' hv => cases hy
  | dat => cases hy
  | ptr cs' b off c hS hc hr =>
    cases hy;rw [e4, e1] at hd;split at hd
    · next hagg =>
      obtain rfl := Option.some.inj hd;refine step_no H E (v := .agg ((List.range i.size).map c).toArray) ?_ ?_ ?_ trivial
      · have := run_agg (P := P) hi hu hagg (b := b) (off := off) (c := c) (w := w) (fun j hj => hc j (by have : i.size <= cs.length := hp; omega));simp [Instr.loadAt, Instr.sureAddr, this]
      · simp only [Rel];have hp : i.size <= cs.length := hp;refine ⟨_, rfl, RelL_range (by simp; omega) fun j hj => ?_⟩;have := hr j (by omega);have e : ((cs.take i.size).map DV.p).getD j default = DV.p (cs.getD j default) := by
          have : j < cs.length := by omega
          simp [hj, this]
        rw [e]; simpa only [Rel] using this
      · simp only [DV.uses]; rw [usesL_iff]; intro d hd; obtain ⟨y, _, rfl⟩ := List.mem_map.1 hd; trivial
    · next hagg =>
      obtain rfl := Option.some.inj hd;have hp : 0 < cs.length := hp;refine step_no H E (v := c 0) ?_ ?_ trivial trivial
      · have := run_one (P := P) hu (by simpa using hagg) (w := w) (b := b) (off := off) (by simpa using hc 0 hp);simp [Instr.loadAt, Instr.sureAddr, this]
      · simp only [Rel]; exact hr 0 hp
theorem lent_ptr {b off n : Nat} {g : Hd} {r : List PV} {l : List (List PV)} (hb : g.a = some ⟨b, 0, none⟩) (h : PRel S w (.dat n (r :: l)) (.slice g.a g.len g.cap)) : PRel S w (.ptr (r.drop off)) (.pointer (some ⟨b, off, none⟩)) := by
  generalize hy : PV.dat n (r :: l) = y at h;generalize hv : Value.slice g.a g.len g.cap = v at h;cases h with
  | ub b => cases hy
  | map => cases hy
  | ptr => cases hy
  | lit => cases hy
  | dat n' l' a b' o' cap c hl hcap ha hn hc hr =>
    cases hy;have e1 : g.a = a := by injection hv
    obtain ⟨h1, h2⟩ := ha (by simp);rw [<- e1, hb] at h1;cases h1;have hrl : r.length = n := by simpa using hn 0 (by simp)
    refine .ptr _ b off (fun j => c 0 (off + j)) h2 (fun j hj => ?_) (fun j hj => ?_)
    · rw [List.length_drop] at hj;have := hc 0 (off + j) (by simp) (by omega);rw [Nat.zero_mul, Nat.zero_add, Nat.zero_add] at this;exact this
    · rw [List.length_drop] at hj;have := hr 0 (off + j) (by simp) (by omega);have e : (r.drop off).getD j default = r.getD (off + j) default := by simp [List.getD_eq_getElem?_getD, List.getElem?_drop]
      rw [e];simpa using this
theorem load_ok (H : HSat B U ρ S w h) (E : ESat N U ρ S w f a) {nid : Nat} {t : TypeId} {T : TD} {x : DV} {v : Value} {out : Out}
    (ht : td P t = some T) (hx : Rel ρ S w x v) (hd : dload T x h = some out) (hp : out.pre) :
    StepOk P B N U nid f h a w (do pure (Next.value (<- Instr.loadAt t v))) out := by
  obtain ⟨i, d, z, hi, hu, hz, e1, e2, e3, e4, _⟩ := td_spec ht;unfold dload at hd;split at hd
  · next id off =>
    simp only [Rel] at hx;obtain ⟨b, hb, rfl⟩ := hx;split at hd
    · next tt cs hh =>
      have h1 := H.heap id _ hh;have h1u := (H.heapU id _ hh).2;simp only [HRel] at h1;obtain ⟨b', vs, fz, k1, k2, k3, _⟩ := h1;rw [hb] at k1; simp at k1; subst k1;have hlen := RelL_length k3;rw [e4, e1] at hd;split at hd
      · next hagg =>
        split at hd
        · next hle =>
          have := pure1_spec hd; subst this;refine step_no H E (v := .agg ((List.range i.size).map fun j => vs.getD (off + j) default).toArray) ?_ ?_ ?_ trivial
          · have := run_agg (P := P) hi hu hagg (b := b) (off := off) (c := fun j => vs.getD (off + j) default) (w := w) (fun j hj => cell?_heap k2 (by omega));simp [Instr.loadAt, Instr.sureAddr, this]
          · simp only [Rel];refine ⟨_, rfl, RelL_range (by simp; omega) fun j hj => ?_⟩;have := RelL_get k3 (off + j) (by omega);simpa [hj] using this
          · exact usesL_sub (fun d hd => List.mem_of_mem_drop (List.mem_of_mem_take hd)) h1u
        · cases hd
      · next hagg =>
        split at hd
        · next y hy =>
          have := pure1_spec hd; subst this;have hlt : off < cs.length := by
            rcases Nat.lt_or_ge off cs.length with k | k
            · exact k
            · simp [List.getElem?_eq_none k] at hy
          have hey : cs.getD off default = y := by rw [List.getD_eq_getElem?_getD, hy]; rfl
          refine step_no H E (v := vs.getD off default) ?_ ?_ ?_ trivial
          · have := run_one (P := P) hu (by simpa using hagg) (w := w) (b := b) (off := off) (cell?_heap k2 (by omega));simp [Instr.loadAt, Instr.sureAddr, this]
          · rw [<- hey]; exact RelL_get k3 off hlt
          · rw [<- hey]; exact uses_get h1u
        · cases hd
    · next r l hh =>
      have h1 := H.heap id _ hh;simp only [HRel] at h1;exact loadp_ok H E ht (lent_ptr hb h1.2.2) hd hp
    · cases hd
  · next id n i' j' =>
    simp only [Rel] at hx;obtain ⟨b, hb, rfl⟩ := hx;split at hd
    · next tt m l hh =>
      have h1 := H.heap id _ hh;have h1u := (H.heapU id _ hh).2;simp only [HRel] at h1;simp only [HV.uses] at h1u;obtain ⟨q1, q2, q3, q4, q5⟩ := h1;rw [e4, e1] at hd;split at hd
      · next hmn =>
        subst hmn;have hp' : i' < l.length := by
          split at hd
          · split at hd
            · obtain rfl := Option.some.inj hd; exact hp
            · cases hd
          · split at hd
            · obtain rfl := Option.some.inj hd; exact hp
            · cases hd
        have hcap : (ρ id).cap ≠ 0 := by omega
        rcases q5 with q5 | ⟨b', vs, sp, fz, k1, k2, k3, k4, _⟩
        · exact absurd q5 hcap
        rw [hb] at k1; simp at k1; subst k1;have hfl := flatten_len l m q4;have hlen := RelL_length k3;have hbound : ∀ j, j < m -> i' * m + j < l.length * m := fun j hj => by
          have : (i' + 1) * m <= l.length * m := Nat.mul_le_mul_right m hp';rw [Nat.add_mul] at this; omega
        have hcell : ∀ j, j < m -> w.cell? ⟨b, i' * m + j, none⟩ = some (vs.getD (i' * m + j) default) := fun j hj => by
          have := hbound j hj;rw [cell?_heap k2 (by simp; omega)];congr 1
          simp only [List.getD_eq_getElem?_getD];rw [List.getElem?_append_left (by omega)]
        have hrel : ∀ j, j < m -> Rel ρ S w ((l.getD i' []).getD j default) (vs.getD (i' * m + j) default) := fun j hj => by
          have := RelL_get k3 (i' * m + j) (by rw [hfl]; exact hbound j hj)
          rwa [flatten_at _ _ m q4 i' j hp' hj] at this
        have hrow : (l.getD i' []).length = m := q4 _ (by rw [List.getD_eq_getElem?_getD, List.getElem?_eq_getElem hp']; simp);have hrowu : DV.usesL U (l.getD i' []) := by
          refine usesL_sub (fun d hd => ?_) h1u;exact List.mem_flatten.2 ⟨_, by rw [List.getD_eq_getElem?_getD, List.getElem?_eq_getElem hp']; simp, hd⟩
        split at hd
        · next hagg =>
          split at hd
          · next hle =>
            obtain rfl := Option.some.inj hd;refine step_no H E (v := .agg ((List.range i.size).map fun j => vs.getD (i' * m + (j' + j)) default).toArray) ?_ ?_ ?_ trivial
            · have := run_agg (P := P) hi hu hagg (b := b) (off := i' * m + j') (c := fun j => vs.getD (i' * m + (j' + j)) default) (w := w) (fun j hj => by rw [Nat.add_assoc]; exact hcell _ (by omega));simp [Instr.loadAt, Instr.sureAddr, this]
            · simp only [Rel];refine ⟨_, rfl, RelL_range (by rw [List.length_take, List.length_drop, hrow]; omega) fun j hj => ?_⟩;have := hrel (j' + j) (by omega);have e : (((l.getD i' []).drop j').take i.size).getD j default = (l.getD i' []).getD (j' + j) default := by
                generalize l.getD i' [] = r;simp [hj]
              rw [e]; exact this
            · exact usesL_sub (fun d hd => List.mem_of_mem_drop (List.mem_of_mem_take hd)) hrowu
          · cases hd
        · next hagg =>
          split at hd
          · next hlt =>
            obtain rfl := Option.some.inj hd;refine step_no H E (v := vs.getD (i' * m + j') default) ?_ ?_ ?_ trivial
            · have := run_one (P := P) hu (by simpa using hagg) (w := w) (b := b) (off := i' * m + j') (hcell _ hlt);simp [Instr.loadAt, Instr.sureAddr, this]
            · exact hrel j' hlt
            · exact uses_get hrowu
          · cases hd
      · cases hd
    · cases hd
  · next cs => exact loadp_ok H E ht (by simpa only [Rel] using hx) hd hp
  · cases hd
end
end Go.Eng
