/-
  A part of the engine that reckons calls at the level of data.
  No condition.
-/

import Derived.Test.YtgpllheklfbfhaaGreatEngX
namespace Go.Eng
set_option linter.all false
open Go.RowKit
section
variable [Dfr]
variable {P : Program} {B : Base} {N : Nat} {U : Nat -> Prop} {ρ : Nat -> Hd} {S : Nat -> Prop} {w : World} {f : Nat -> DV} {h : Nat -> Option HV} {a : Act}
theorem asI_spec {d : DV} {n : Int} (h : asI d = some n) : ∃ k, d = .p (.lit (.int k n)) := by
  unfold asI at h;split at h
  · next k m => cases h; exact ⟨k, rfl⟩
  · cases h
theorem asIO_spec (E : ESat N U ρ S w f a) {o : Option Operand} {l : Option Int} (h : asIO (ev f) o = some l) (hok : ∀ x, o = some x -> (ev f x).okB = true) :
    (o.map a.eval = none /\ l = none) ∨ ∃ k n, o.map a.eval = some (.int k n) /\ l = some n := by
  cases o with
  | none => simp [asIO] at h; exact .inl ⟨rfl, h.symm⟩
  | some x =>
    simp only [asIO, Option.map_eq_some_iff] at h;obtain ⟨n, hn, rfl⟩ := h;obtain ⟨k, hk⟩ := asI_spec hn;have := ev_rel E (hok x rfl);rw [hk] at this;exact .inr ⟨k, n, by simp [rel_lit this], rfl⟩
theorem slice_str_ok (H : HSat B U ρ S w h) (E : ESat N U ρ S w f a) {nid : Nat} {t : TypeId} {T : TD} {x : DV} {v : Value} {lo hi : Option Value} {l r : Option Int} {out : Out}
    (ht : td P t = some T) (hk : T.k = .str) (hl : (lo = none /\ l = none) ∨ ∃ k n, lo = some (.int k n) /\ l = some n) (hr : (hi = none /\ r = none) ∨ ∃ k n, hi = some (.int k n) /\ r = some n)
    (hx : Rel ρ S w x v) (hxs : ∃ s, x = .p (.lit (.string s))) (hd : dslice x l r = some out) (hp : out.pre) :
    StepOk P B N U nid f h a w (do pure (Next.value (<- Instr.sliceAt t v lo hi none))) out := by
  obtain ⟨i, d, z, hi', hu, hz, e1, e2, e3, e4, _⟩ := td_spec ht;have hds : d = .string := tk_str (e4 ▸ hk);subst hds;obtain ⟨s, rfl⟩ := hxs;obtain rfl := rel_lit hx;simp only [dslice] at hd;obtain rfl := Option.some.inj hd;obtain ⟨p1, p2, p3⟩ := hp;refine step_no H E (v := .string (s.extract (l.getD 0).toNat (r.getD s.size).toNat)) ?_ (lit_rel rfl) trivial trivial;have := bounds_run (P := P) (w := w) (len := s.size) (cap := s.size) (isS := false) hl hr p1 p2 p3 (Nat.le_refl _);simp [Instr.sliceAt, r_und hu, Instr.slice, this]
theorem slice_dat_ok (H : HSat B U ρ S w h) (E : ESat N U ρ S w f a) {nid : Nat} {t e : TypeId} {T F : TD} {x : DV} {v : Value} {lo hi : Option Value} {l r : Option Int} {out : Out}
    (ht : td P t = some T) (hk : T.k = .slice e) (hF : td P e = some F) (hl : (lo = none /\ l = none) ∨ ∃ k n, lo = some (.int k n) /\ l = some n) (hr : (hi = none /\ r = none) ∨ ∃ k n, hi = some (.int k n) /\ r = some n)
    (hx : Rel ρ S w x v) (hd : dslice1 F.size x l r = some out) (hp : out.pre) :
    StepOk P B N U nid f h a w (do pure (Next.value (<- Instr.sliceAt t v lo hi none))) out := by
  obtain ⟨i, d, z, hi', hu, hz, e1, e2, e3, e4, _⟩ := td_spec ht;obtain ⟨i2, d2, z2, hi2, hu2, hz2, s1, _⟩ := td_spec hF;have hds : d = .slice e := tk_slice (e4 ▸ hk);subst hds;unfold dslice1 at hd;split at hd
  · next m xs =>
    by_cases hm : F.size = m
    · subst hm;rw [if_pos rfl] at hd;simp only [dslice] at hd;obtain rfl := Option.some.inj hd;obtain ⟨p1, p2, p3⟩ := hp;simp only [Rel] at hx;generalize hy : PV.dat F.size xs = y at hx;cases hx with
      | ub b => cases hy
      | map => cases hy
      | lit => cases hy
      | ptr => cases hy
      | dat n' l' a0 b off cap c hlB hcap ha hn hc hrr =>
        cases hy;have hb := bounds_run (P := P) (w := w) (len := xs.length) (cap := cap) (isS := true) hl hr p1 p2 p3 hcap;generalize l.getD 0 = L at *
        generalize r.getD (xs.length : Int) = R at *
        have hlen : ((xs.drop L.toNat).take (R.toNat - L.toNat)).length = R.toNat - L.toNat := by simp; omega
        refine step_no H E (v := .slice (if cap = L.toNat then a0 else a0.map (·.add (L.toNat * F.size))) (R.toNat - L.toNat) (cap - L.toNat)) ?_ ?_ trivial trivial
        · simp [Instr.sliceAt, r_und hu, Instr.slice, hb, r_size hi2, s1]
        · simp only [Rel];have hget : ∀ i, i < R.toNat - L.toNat -> ((xs.drop L.toNat).take (R.toNat - L.toNat)).getD i [] = xs.getD (L.toNat + i) [] := fun i hi => by
            simp [hi]
          have hcells : ∀ i j, (L.toNat + i) * F.size + j = L.toNat * F.size + (i * F.size + j) := fun i j => by rw [Nat.add_mul]; omega
          have key : PRel S w (.dat F.size ((xs.drop L.toNat).take (R.toNat - L.toNat))) (.slice (if cap = L.toNat then a0 else a0.map (·.add (L.toNat * F.size))) ((xs.drop L.toNat).take (R.toNat - L.toNat)).length (cap - L.toNat)) := by
            refine .dat _ _ _ b (off + L.toNat * F.size) _ (fun i j => c (L.toNat + i) j) (by rw [hlen]; omega) (by rw [hlen]; omega) (fun h0 => ?_) (fun i hi => ?_) (fun i j hi hj => ?_) (fun i j hi hj => ?_)
            · rw [hlen] at h0;obtain ⟨rfl, hS⟩ := ha (by omega);rw [if_neg (by omega)];exact ⟨by simp [addr_add], hS⟩
            · rw [hlen] at hi;rw [hget i hi]; exact hn _ (by omega)
            · rw [hlen] at hi;have := hc (L.toNat + i) j (by omega) hj;rw [hcells] at this;rw [Nat.add_assoc]; exact this
            · rw [hlen] at hi;rw [hget i hi]; exact hrr _ _ (by omega) hj
          rw [hlen] at key;exact key
    · rw [if_neg hm] at hd; cases hd
  · cases hd
theorem veq_run {t : TypeId} {d : TypeDesc} {T : TD} (hu : P.underlying t = some d) (hk : T.k = tkOf d) {x y : Value} {r : Bool} (hr : veq T.k x y = some r) (n : Nat) : (Op.equalIn (n + 1) t x y).run P w = .ok r w := by
  rw [hk] at hr;unfold veq at hr;split at hr
  · next hd =>
    have := tk_int hd; subst this;split at hr
    · next e => subst e; cases hr; rw [Op.equalIn]; simp [r_und hu]
    · cases hr
  · next hd =>
    have := tk_str hd; subst this;cases hr; rw [Op.equalIn]; simp only [Sem.run_bind, r_und hu, Result.andThen_ok, Sem.run_pure];rw [beq_toListBytes, toList_eq]
  · next hd =>
    have := tk_bool hd; subst this;cases hr; rw [Op.equalIn]; simp [r_und hu]
  · cases hr
def asVal (T : TD) (us : List Value) : Value := if T.k.isAgg then .agg us.toArray else us.headD undef
theorem headD_sub {us : List Value} {off : Nat} (hlt : off < us.length) : us[off]? = some (((us.drop off).take 1).headD undef) := by
  rw [List.getElem?_eq_getElem hlt];have : us.drop off = us[off] :: us.drop (off + 1) := (List.drop_eq_getElem_cons hlt);rw [this]; rfl
theorem part_run {ft : TypeId} {F : TD} (hF : td P ft = some F) {us : List Value} {off : Nat} (hle : off + F.size <= us.length) (h1 : F.k.isAgg = false -> F.size = 1) :
    (part ft us.toArray off).run P w = .ok (asVal F ((us.drop off).take F.size)) w := by
  obtain ⟨i, d, z, hi, hu, hz, e1, e2, e3, e4, _⟩ := td_spec hF;unfold part asVal;by_cases hagg : F.k.isAgg = true
  · rw [if_pos hagg];rw [e4] at hagg;simp [r_isAgg hu, hagg, r_size hi, e1]
  · rw [if_neg hagg];have hs := h1 (by simpa using hagg);rw [e4] at hagg;rw [hs] at hle ⊢;have := headD_sub (us := us) (off := off) (by omega);simp only [Sem.run_bind, r_isAgg hu, Result.andThen_ok, hagg, List.getElem?_toArray, this];rfl
theorem deq_run : ∀ (n m : Nat), n <= m -> ∀ (t : TypeId) (T : TD) (xs ys : List DV) (us vs : List Value) (r : Bool), td P t = some T -> deq P n t xs ys = some r -> RelL ρ S w xs us -> RelL ρ S w ys vs ->
    (Op.equalIn m t (asVal T us) (asVal T vs)).run P w = .ok r w /\ (T.k.isAgg = false -> xs.length = 1 /\ ys.length = 1)
  | 0, _, _, _, _, _, _, _, _, _, _, hd, _, _ => by simp [deq] at hd
  | n + 1, 0, hm, _, _, _, _, _, _, _, _, _, _, _ => by omega
  | n + 1, m + 1, hm, t, T, xs, ys, us, vs, r, ht, hd, hx, hy => by
    obtain ⟨i, d, z, hi, hu, hz, e1, e2, e3, e4, e5, e6, e7⟩ := td_spec ht;simp only [deq, ht] at hd;split at hd
    · next fs hk =>
      refine ⟨?_, fun h => by rw [hk] at h; cases h⟩;split at hd
      · cases hd
      · next hh =>
        rw [e5] at hh;obtain ⟨g, rfl, rfl, hnames⟩ := tk_structInv (e4 ▸ hk);have hfo : P.fieldsOf t = g := by simp [Program.fieldsOf, hu]
        have hv : ∀ us, asVal T us = .agg us.toArray := fun us => by simp [asVal, hk, TK.isAgg]
        rw [hv, hv, run_equalIn_struct w m t us.toArray vs.toArray (by rw [hfo]; exact hu) (by simpa using hh), hfo];have hlx := RelL_length hx;have hly := RelL_length hy;clear hu hk e4 hfo e7;generalize g.toList = fl at hd hnames;induction fl generalizing r with
        | nil => simp [deqF] at hd; subst hd; rfl
        | cons fd fl ih =>
          simp only [List.map_cons, deqF] at hd;split at hd
          · next F hF =>
            split at hd
            · next hle =>
              split at hd
              · next x y h1 h2 =>
                obtain rfl := Option.some.inj hd;have hsub := deq_run n m (by omega) fd.type F _ _ ((us.drop fd.offset).take F.size) ((vs.drop fd.offset).take F.size) x hF h1 (RelL_take _ (RelL_drop _ hx)) (RelL_take _ (RelL_drop _ hy));have hone : F.k.isAgg = false -> F.size = 1 := fun hag => by
                  have := (hsub.2 hag).1;rw [List.length_take, List.length_drop] at this; omega
                have hp1 := part_run (w := w) hF (us := us) (off := fd.offset) (by omega) hone;have hp2 := part_run (w := w) hF (us := vs) (off := fd.offset) (by omega) hone;simp only [List.all_cons, Bool.and_eq_true, bne_iff_ne] at hnames;have ih' := ih y h2 hnames.2;simp only [Op.eqFields, Sem.run_ite, if_pos hnames.1, Sem.run_bind, hp1, hp2, Result.andThen_ok, hsub.1];cases x
                · simp
                · simpa using ih'
              · cases hd
            · cases hd
          · cases hd
    · next k hns =>
      split at hd
      · next p q =>
        refine ⟨?_, fun _ => ⟨rfl, rfl⟩⟩;have hnag : T.k.isAgg = false := by
          have key : ∀ k : TK, veq k p q = some r -> k.isAgg = false := by intro k h; cases k <;> first | rfl | (simp [veq] at h)
          exact key _ hd
        match us, vs, hx, hy with
        | [u], [v], hx, hy =>
          obtain rfl := rel_lit hx.1;obtain rfl := rel_lit hy.1;simp only [asVal, hnag, Bool.false_eq_true, if_false, List.headD_cons];exact veq_run hu e4 hd m
      · cases hd
theorem equal_agg {t : TypeId} {T : TD} {xs ys : List DV} {u v : Value} {r : Bool} (ht : td P t = some T) (hk : T.k.isAgg = true) (hx : Rel ρ S w (.agg xs) u) (hy : Rel ρ S w (.agg ys) v) (hd : deq P 20 t xs ys = some r) : (Op.equal t u v).run P w = .ok r w := by
  simp only [Rel] at hx hy;obtain ⟨us, rfl, hx⟩ := hx;obtain ⟨vs, rfl, hy⟩ := hy;have := (deq_run 20 10000 (by omega) t T xs ys us vs r ht hd hx hy).1;simpa [asVal, hk, Op.equal, Op.maxDepth] using this
theorem parts_rel (E : ESat N U ρ S w f a) : ∀ l : List (Nat × Operand), (∀ x, x ∈ l -> (ev f x.2).okB = true) -> PartsR ρ S w (l.map fun (i, x) => (i, (ev f x).un)) (l.map fun (i, x) => (i, a.eval x))
  | [], _ => trivial
  | (i, x) :: l, hok => ⟨rfl, ev_rel E (hok (i, x) (by simp)), parts_rel E l fun y hy => hok y (by simp [hy])⟩
theorem isStr_spec {d : DV} (h : isStr d = true) : ∃ s, d = .p (.lit (.string s)) := by
  unfold isStr at h;split at h
  · exact ⟨_, rfl⟩
  · cases h
theorem isStr_not {d : DV} (h : ¬ isStr d = true) : ∀ s, d ≠ .p (.lit (.string s)) := fun s e => by subst e; exact h rfl
theorem exec_bi {dst : Option Tmp} {b : Builtin} {args : Array Operand} {ts : Array TypeId} {ty : TypeId} {pos : String} {after : Array Edge} {guard : Option (Nat × Bool)} {vs : Array Value} (hv : args.map a.eval = vs) :
    execOp a.eval { dst, op := .call { callee := .builtin b, args, argTypes := ts }, type := ty, pos, after, guard } = builtin b ts ty (args.map fun | .const _ => true | _ => false) vs := by
  subst hv; rfl
theorem pick_ok (H : HSat B U ρ S w h) (E : ESat N U ρ S w f a) {nid pin : Nat} {c x y : Operand} {dst : Option Tmp} {ty : TypeId} {pos : String} {after : Array Edge} {guard : Option (Nat × Bool)} {out : Out}
    (hd : dop P nid pin (.pick c x y) (ev f) h = some out) (hok : oksD f (.pick c x y) = true) : StepOk P B N U nid f h a w (execOp a.eval { dst, op := .pick c x y, type := ty, pos, after, guard }) out := by
  simp only [dop] at hd;split at hd
  · next t ht =>
    simp only [oksD, Bool.and_eq_true] at hok;obtain ⟨h1, h2⟩ := hok;rw [ht] at h2;have hc := ev_rel E h1;rw [ht] at hc;have hcv : a.eval c = .bool t := rel_lit hc;have hrun : execOp a.eval { dst, op := .pick c x y, type := ty, pos, after, guard } = (do pure (Next.value (<- (do pure (if <- asBool (a.eval c) then a.eval x else a.eval y) : Sem Value)))) := by
      simp [execOp]
    rw [hrun];refine pure1_ok H E hd (v := if t then a.eval x else a.eval y) ?_ ?_ ?_
    · rw [hcv]; cases t <;> simp [asBool]
    · cases t
      · have hr := ev_rel E (x := y) (by simpa using h2);simp only [dpick];split
        · next p q e1 e2 => rw [e2] at hr; simpa [lb] using hr
        · simpa using hr
      · have hr := ev_rel E (x := x) (by simpa using h2);simp only [dpick];split
        · next p q e1 e2 => rw [e1] at hr; simpa [lb] using hr
        · simpa using hr
    · cases t
      · have hr := ev_uses E (x := y) (by simpa using h2);simp only [dpick];split
        · trivial
        · simpa using hr
      · have hr := ev_uses E (x := x) (by simpa using h2);simp only [dpick];split
        · trivial
        · simpa using hr
  · cases hd
theorem dop_sound (H : HSat B U ρ S w h) (E : ESat N U ρ S w f a) {nid pin : Nat} (hn : ¬ U nid) (hn0 : ¬ B.U0 nid) (hpin : ∀ i, B.U0 i -> i < pin) {o : Oper} {out : Out}
    (hd : dop P nid pin o.op (ev f) h = some out) (hp : out.pre) (hok : ∀ x, x ∈ o.op.operands.toList -> (ev f x).okB = true) : StepOk P B N U nid f h a w (execOp a.eval o) out := by
  obtain ⟨dst, op, ty, pos, after, guard⟩ := o;dsimp only at hd hok;have R : ∀ x, x ∈ op.operands.toList -> Rel ρ S w (ev f x).un (a.eval x) := fun x hx => ev_rel E (hok x hx)
  have V : ∀ x, x ∈ op.operands.toList -> (ev f x).un.uses U := fun x hx => ev_uses E (hok x hx)
  cases op with
  | move x => exact pure1_ok H E (s := pure (a.eval x)) hd rfl (R x (by simp [Op.operands])) (V x (by simp [Op.operands]))
  | assign x => exact pure1_ok H E (s := pure (a.eval x)) hd rfl (R x (by simp [Op.operands])) (V x (by simp [Op.operands]))
  | pick c x y =>
    refine pick_ok H E hd ?_;have k1 := hok c (by simp [Op.operands]);have k2 := hok x (by simp [Op.operands]);have k3 := hok y (by simp [Op.operands]);simp only [dop] at hd;split at hd
    · next t ht => simp only [oksD, k1, ht, k2, k3]; cases t <;> rfl
    · cases hd
  | box e x =>
    simp only [dop] at hd;split at hd
    · split at hd
      · next hc => obtain rfl := Option.some.inj hd; exact box_ok H E hn hn0 (R x (by simp [Op.operands])) (V x (by simp [Op.operands])) hc
      · cases hd
    · cases hd
  | alloc e =>
    simp only [dop] at hd;split at hd
    · next T hT =>
      split at hd
      · next hc => obtain rfl := Option.some.inj hd; exact alloc_ok H E hn hn0 hT hc
      · cases hd
    · cases hd
  | build t parts =>
    simp only [dop] at hd;split at hd
    · next T hT =>
      split at hd
      · next hc =>
        simp only [Bool.and_eq_true] at hc;split at hd
        · next fs hk =>
          split at hd
          · next l hl =>
            split at hd
            · next cs hcs =>
              have := pure1_spec hd; subst this;have hpr := parts_rel E parts.toList (fun x hx => hok x.2 (by simp only [Op.operands]; simpa using ⟨x.1, by simpa using hx⟩));have hfo : T.fok = true := by have := hc.2; rw [hk] at this; simpa [TK.isArr] using this
              have := build_ok H E (nid := nid) hT hc.1 hfo hk hpr (fun x hx => by obtain ⟨y, hy, rfl⟩ := List.mem_map.1 hx; exact V y.2 (by simp only [Op.operands]; simpa using ⟨y.1, by simpa using hy⟩)) hl hcs;have e : (parts.toList.map fun x => (x.1, a.eval x.2)).toArray = parts.map fun x => (x.1, a.eval x.2) := by apply Array.ext'; simp
              rw [e] at this;exact this
            · cases hd
          · cases hd
        · next n e hk =>
          split at hd
          · next F hF =>
            split at hd
            · next l hl =>
              split at hd
              · next cs hcs =>
                have := pure1_spec hd; subst this;have hpr := parts_rel E parts.toList (fun x hx => hok x.2 (by simp only [Op.operands]; simpa using ⟨x.1, by simpa using hx⟩));have := build_arr_ok H E (nid := nid) hT hc.1 hk hF hpr (fun x hx => by obtain ⟨y, hy, rfl⟩ := List.mem_map.1 hx; exact V y.2 (by simp only [Op.operands]; simpa using ⟨y.1, by simpa using hy⟩)) hl hcs;have e : (parts.toList.map fun x => (x.1, a.eval x.2)).toArray = parts.map fun x => (x.1, a.eval x.2) := by apply Array.ext'; simp
                rw [e] at this;exact this
              · cases hd
            · cases hd
          · cases hd
        · cases hd
      · cases hd
    · cases hd
  | makeSlice t x y =>
    simp only [dop] at hd;split at hd
    · next T hT =>
      split at hd
      · next e n m hk hx hy =>
        split at hd
        · next F hF =>
          split at hd
          · next hc =>
            obtain rfl := Option.some.inj hd;obtain ⟨k1, e1⟩ := asI_spec hx;obtain ⟨k2, e2⟩ := asI_spec hy;have r1 := R x (by simp [Op.operands]);have r2 := R y (by simp [Op.operands]);rw [e1] at r1; rw [e2] at r2;have := makeSlice_ok H E hn hn0 hT hk hF hc.1 hc.2.1 hc.2.2 (k1 := k1) (k2 := k2) hp;rw [<- rel_lit r1, <- rel_lit r2] at this;exact this
          · cases hd
        · cases hd
      · cases hd
    · cases hd
  | buildSlice t len parts =>
    simp only [dop] at hd;split at hd
    · next T hT =>
      split at hd
      · next e hk =>
        split at hd
        · next F hF =>
          split at hd
          · next hc =>
            obtain ⟨c1, c2, c3, c4⟩ := hc;split at hd
            · next l hl =>
              obtain rfl := Option.some.inj hd;have hpr := parts_rel E parts.toList (fun x hx => hok x.2 (by simp only [Op.operands]; simpa using ⟨x.1, by simpa using hx⟩));have := buildSlice_ok H E hn hn0 hT hk hF c1 c2 c3 c4 hpr (fun x hx => by obtain ⟨y, hy, rfl⟩ := List.mem_map.1 hx; exact V y.2 (by simp only [Op.operands]; simpa using ⟨y.1, by simpa using hy⟩)) hl;have e : (parts.toList.map fun x => (x.1, a.eval x.2)).toArray = parts.map fun x => (x.1, a.eval x.2) := by apply Array.ext'; simp
              rw [e] at this;exact this
            · cases hd
          · cases hd
        · cases hd
      · cases hd
    · cases hd
  | load t x =>
    simp only [dop] at hd;split at hd
    · next T hT => exact load_ok H E hT (R x (by simp [Op.operands])) hd hp
    · cases hd
  | store t x y =>
    simp only [dop] at hd;split at hd
    · next T hT => exact store_ok H E hT (R x (by simp [Op.operands])) (R y (by simp [Op.operands])) (V y (by simp [Op.operands])) hd hp
    · cases hd
  | nilCheck x => exact nil_ok H E (ox := x) rfl rfl (R x (by simp [Op.operands])) (V x (by simp [Op.operands])) hd
  | binOp op t x y yt =>
    exact binop_ok H E (R x (by simp [Op.operands])) (R y (by simp [Op.operands])) hd hp (fun xs ys ex ey T hT hk r hr => by
      have hx := R x (by simp [Op.operands]);have hy := R y (by simp [Op.operands]);rw [ex] at hx; rw [ey] at hy;exact equal_agg hT hk hx hy hr)
  | unOp op t x => exact unop_ok H E (R x (by simp [Op.operands])) hd
  | convert s t x =>
    simp only [dop] at hd;split at hd
    · next T' T hs ht =>
      split at hd
      · next l hl =>
        split at hd
        · next hc =>
          simp only [Bool.and_eq_true] at hc;obtain rfl := Option.some.inj hd;exact convB_ok H E hs ht (R x (by simp [Op.operands])) hl hc.1 hc.2 hp
        · cases hd
      · split at hd
        · next hc =>
          simp only [Bool.and_eq_true] at hc;exact convS_ok H E hs ht (R x (by simp [Op.operands])) hc.1 hc.2 hd hp
        · exact conv_ok H E hs ht (R x (by simp [Op.operands])) hd
    · cases hd
  | makeFunc fn first caps =>
    cases fn <;> simp only [dop] at hd
    case func g =>
      split at hd
      · next h0 =>
        refine pure1_ok H E (s := Instr.makeFunc (.func g) (first.map a.eval) (caps.map a.eval)) hd (v := .func (.func g) #[] (caps.map a.eval)) ?_ ?_ ?_
        · have : first = #[] := Array.eq_empty_of_size_eq_zero h0
          subst this; simp [Instr.makeFunc]
        · simp only [Rel];refine ⟨caps.toList.map a.eval, by congr 1; apply Array.ext'; simp, ?_⟩;have key : ∀ l : List Operand, (∀ x, x ∈ l -> (ev f x).okB = true) -> RelL ρ S w (l.map fun x => (ev f x).un) (l.map a.eval) := by
            intro l;induction l with
            | nil => intro _; trivial
            | cons x l ih => intro hl; exact ⟨ev_rel E (hl x (by simp)), ih fun y hy => hl y (by simp [hy])⟩
          exact key _ fun x hx => hok x (by simp only [Op.operands]; simp; right; simpa using hx)
        · simp only [DV.uses]; rw [usesL_iff]; intro d hd'; obtain ⟨x, hx, rfl⟩ := List.mem_map.1 hd'; exact V x (by simp only [Op.operands]; simp; right; simpa using hx)
      · cases hd
    all_goals cases hd
  | slice t x lo hi mx =>
    cases mx <;> simp only [dop] at hd
    case some => cases hd
    case none =>
      split at hd
      · next T hT =>
        split at hd
        · next l r hk hl hr =>
          have hl' := asIO_spec E hl (fun y hy => hok y (by simp [Op.operands, hy]));have hr' := asIO_spec E hr (fun y hy => hok y (by simp [Op.operands, hy]));split at hd
          · next his => exact slice_str_ok H E hT hk hl' hr' (R x (by simp [Op.operands])) (isStr_spec his) hd hp
          · cases hd
        · next e l r hk hl hr =>
          have hl' := asIO_spec E hl (fun y hy => hok y (by simp [Op.operands, hy]));have hr' := asIO_spec E hr (fun y hy => hok y (by simp [Op.operands, hy]));split at hd
          · next F hF => exact slice_dat_ok H E hT hk hF hl' hr' (R x (by simp [Op.operands])) hd hp
          · cases hd
        · cases hd
      · cases hd
  | fieldAddr t x k =>
    simp only [dop] at hd;split at hd
    · next T hT =>
      split at hd
      · next fs hk =>
        split at hd
        · next off ft hf =>
          split at hd
          · next F hF =>
            split at hd
            · next h0 =>
              split at hd
              · next d hdd => exact fieldAt_ok H E hT hk hf hF h0 (R x (by simp [Op.operands])) (V x (by simp [Op.operands])) hdd hd
              · cases hd
            · cases hd
          · cases hd
        · cases hd
      · cases hd
    · cases hd
  | field t x k =>
    simp only [dop] at hd;split at hd
    · next T hT =>
      split at hd
      · next fs hk =>
        split at hd
        · next off ft hf =>
          split at hd
          · next F hF => exact field_ok H E hT hk hf hF (R x (by simp [Op.operands])) (V x (by simp [Op.operands])) hd
          · cases hd
        · cases hd
      · cases hd
    · cases hd
  | indexAddr t x i =>
    simp only [dop] at hd;split at hd
    · next T hT =>
      split at hd
      · next e n hk hi =>
        obtain ⟨kk, hkk⟩ := asI_spec hi;have hiv := R i (by simp [Op.operands]);rw [hkk] at hiv;split at hd
        · next F hF =>
          have := indexAt_ok (nid := nid) H E hT hk hF (R x (by simp [Op.operands])) (V x (by simp [Op.operands])) (kk := kk) hd hp;rw [<- rel_lit hiv] at this;exact this
        · cases hd
      · next k e n hk hi =>
        obtain ⟨kk, hkk⟩ := asI_spec hi;have hiv := R i (by simp [Op.operands]);rw [hkk] at hiv;split at hd
        · next F hF =>
          split at hd
          · next d hdd =>
            obtain rfl := Option.some.inj hd;have := indexArr_ok (nid := nid) H E hT hk hF (R x (by simp [Op.operands])) (V x (by simp [Op.operands])) (kk := kk) hdd hp;rw [<- rel_lit hiv] at this;exact this
          · cases hd
        · cases hd
      · cases hd
    · cases hd
  | index t x i =>
    simp only [dop] at hd;split at hd
    · next T hT =>
      split at hd
      · next n hk hi =>
        obtain ⟨kk, hkk⟩ := asI_spec hi;have hiv := R i (by simp [Op.operands]);rw [hkk] at hiv;have := index_ok (nid := nid) H E hT hk (R x (by simp [Op.operands])) (k := kk) hd hp;rw [<- rel_lit hiv] at this;exact this
      · cases hd
    · cases hd
  | extract x i => exact ext_ok H E (R x (by simp [Op.operands])) (V x (by simp [Op.operands])) hd
  | makeMap t r =>
    cases r with
    | none => simp only [dop] at hd; cases hd; exact makeMap_ok H E hn hn0
    | some r => simp only [dop] at hd; cases hd
  | lookup t x k ok =>
    simp only [dop] at hd;split at hd
    · next T hT =>
      split at hd
      · next kt et hk => exact lookup_ok H E hT hk (R x (by simp [Op.operands])) (R k (by simp [Op.operands])) hd hp
      · cases hd
    · cases hd
  | mapUpdate t x k v =>
    simp only [dop] at hd;split at hd
    · next T hT =>
      split at hd
      · next kt et hk => exact mapset_ok H E hT hk (R x (by simp [Op.operands])) (R k (by simp [Op.operands])) (R v (by simp [Op.operands])) (V v (by simp [Op.operands])) hd hp
      · cases hd
    · cases hd
  | insert t x k v =>
    simp only [dop] at hd;split at hd
    · next T hT =>
      split at hd
      · next kt et hk => exact mapset_ok H E hT hk (R x (by simp [Op.operands])) (R k (by simp [Op.operands])) (R v (by simp [Op.operands])) (V v (by simp [Op.operands])) hd hp
      · cases hd
    · cases hd
  | call c =>
    obtain ⟨callee, args, argTypes⟩ := c;cases callee with
    | value g => cases hd
    | invoke r m => cases hd
    | builtin b =>
      have hops : ∀ x, x ∈ args.toList -> Rel ρ S w (ev f x).un (a.eval x) := fun x hx => R x (by simp only [Op.operands, Call.operands]; simpa using hx)
      cases b with
      | len =>
        simp only [dop] at hd;split at hd
        · next x t hx ht =>
          have ha : args = #[x] := by apply Array.ext'; simpa using hx
          have hb : argTypes = #[t] := by apply Array.ext'; simpa using ht
          subst ha hb;have hr := hops x (by simp);split at hd
          · next T hT =>
            split at hd
            · next e hk =>
              split at hd
              · cases hd
              · next his => rw [exec_bi (vs := #[a.eval x]) (by simp)]; exact len_ok H E hT (.inr ⟨⟨e, hk⟩, isStr_not his⟩) hr hd
            · next hk =>
              split at hd
              · next his => rw [exec_bi (vs := #[a.eval x]) (by simp)]; exact len_ok H E hT (.inl ⟨hk, isStr_spec his⟩) hr hd
              · cases hd
            · next kt et hk => rw [exec_bi (vs := #[a.eval x]) (by simp)]; exact maplen_ok H E hT hk hr hd
            · cases hd
          · cases hd
        · cases hd
      | append =>
        simp only [dop] at hd;split at hd
        · next s x t u hx ht =>
          have ha : args = #[s, x] := by apply Array.ext'; simpa using hx
          have hb : argTypes = #[t, u] := by apply Array.ext'; simpa using ht
          subst ha hb;have hs := hops s (by simp);have hx := hops x (by simp);split at hd
          · next T V hT hV =>
            split at hd
            · cases hd
            · next e hk hni =>
              split at hd
              · next F hF =>
                split at hd
                · next hc => rw [exec_bi (vs := #[a.eval s, a.eval x]) (by simp)]; exact append_ok H E hn hn0 hpin hT hk hV (fun k e' => hni k e') hF hc.1 hc.2 hs hx hd hp
                · cases hd
              · cases hd
            · cases hd
          · cases hd
        · cases hd
      | min =>
        simp only [dop] at hd;split at hd
        · next x y hx =>
          have ha : args = #[x, y] := by apply Array.ext'; simpa using hx
          subst ha;rw [exec_bi (vs := #[a.eval x, a.eval y]) (by simp)]; exact minmax_ok H E (ts := argTypes) (ty := ty) (mx := false) (hops x (by simp)) (hops y (by simp)) hd
        · cases hd
      | max =>
        simp only [dop] at hd;split at hd
        · next x y hx =>
          have ha : args = #[x, y] := by apply Array.ext'; simpa using hx
          subst ha;rw [exec_bi (vs := #[a.eval x, a.eval y]) (by simp)]; exact minmax_ok H E (ts := argTypes) (ty := ty) (mx := true) (hops x (by simp)) (hops y (by simp)) hd
        · cases hd
      | _ => cases hd
  | _ => cases hd
theorem dop_sound' (H : HSat B U ρ S w h) (E : ESat N U ρ S w f a) {nid pin : Nat} (hn : ¬ U nid) (hn0 : ¬ B.U0 nid) (hpin : ∀ i, B.U0 i -> i < pin) {o : Oper} {out : Out}
    (hd : dop P nid pin o.op (ev f) h = some out) (hp : out.pre) (hok : oksD f o.op = true) : StepOk P B N U nid f h a w (execOp a.eval o) out := by
  cases hpk : isPick o.op with
  | true =>
    obtain ⟨dst, op, ty, pos, after, guard⟩ := o;cases op with
    | pick c x y => exact pick_ok H E hd hok
    | _ => cases hpk
  | false => exact dop_sound H E hn hn0 hpin hd hp (oksD_all hpk hok)
end
end Go.Eng
