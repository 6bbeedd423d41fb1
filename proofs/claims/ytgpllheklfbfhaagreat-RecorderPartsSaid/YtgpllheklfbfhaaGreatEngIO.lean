/-
  A part of the engine that reckons calls at the level of data.
  No condition.
-/

import Derived.Test.YtgpllheklfbfhaaGreatEngI
namespace Go.Eng
set_option linter.all false
open Go.RowKit
section
variable [Dfr]
variable {P : Program} {B : Base} {N : Nat} {U : Nat -> Prop} {ρ : Nat -> Hd} {S : Nat -> Prop} {w : World} {f : Nat -> DV} {h : Nat -> Option HV} {a : Act}
def isIntK : TK -> Bool
  | .int _ => true
  | _ => false
theorem isIntK_spec {k : TK} (h : isIntK k = true) : ∃ i, k = .int i := by
  cases k <;> first | exact ⟨_, rfl⟩ | cases h
def dcut (F : TD) (e : TypeId) (pin : Nat) (x : DV) (k : Int) (h : Nat -> Option HV) : Option Out :=
  match glId x with
  | none => none
  | some id => match h id with
    | some (.lst e' m l) => if m = F.size /\ e' = e /\ pin <= id then
        some { pre := 0 <= k /\ k <= l.length /\ DV.usesL (fun i => i ≠ id) l.flatten, fact := True, d := .gl id, e := .app id (.lst e m (l.take k.toNat)) } else none
    | _ => none
def dcutN (F : TD) (e : TypeId) (pin : Nat) (x : DV) (k : Int) (h : Nat -> Option HV) : Option Out :=
  if isNilD x = true /\ k = 0 then pure1 (.p (.lit (.slice none 0 0))) else dcut F e pin x k h
def dopX (P : Program) (nid pin : Nat) (o : Op) (ρ : Operand -> DV) (h : Nat -> Option HV) : Option Out :=
  match o with
  | .slice t x none (some hi) none => match td P t with
    | some T => match T.k, asI (ρ hi).un with
      | .slice e, some k => match td P e with
        | some E => dcutN E e pin (ρ x).un k h
        | none => none
      | _, _ => none
    | none => none
  | .call { callee := .builtin .cap, args, argTypes } => match args.toList, argTypes.toList with
    | [x], [t] => match td P t with
      | some T => match T.k with
        | .slice _ => if isNilD (ρ x).un then pure1 (li 0) else none
        | _ => none
      | none => none
    | _, _ => none
  | .call { callee := .builtin .append, args, argTypes } => match args.toList, argTypes.toList with
    | [s, x], [t, u] => match td P t, td P u with
      | some T, some V => match T.k, asI (ρ x).un with
        | .slice e, some n => if isIntK V.k && isNilD (ρ s).un then match td P e with
          | some E => if E.zero.all vcell /\ E.zero.length = E.size /\ 0 < E.size then
              some { pre := 0 < n /\ n <= 2 ^ 40 /\ n * (E.bytes : Int) <= 2 ^ 46, fact := True, d := .gl nid, e := .add nid (.lst e E.size (List.replicate n.toNat (cv E.zero))) } else none
          | none => none else none
        | _, _ => none
      | _, _ => none
    | _, _ => none
  | _ => none
def dopO (P : Program) (nid pin : Nat) (o : Op) (ρ : Operand -> DV) (h : Nat -> Option HV) : Option Out :=
  match dop P nid pin o ρ h with
  | some out => some out
  | none => dopX P nid pin o ρ h
theorem flatten_take {α : Type} {m : Nat} : ∀ (l : List (List α)) (k : Nat), (∀ r, r ∈ l -> r.length = m) -> (l.take k).flatten = l.flatten.take (k * m)
  | [], k, _ => by simp
  | r :: l, 0, _ => by simp
  | r :: l, k + 1, hr => by
    have e := flatten_take l k fun r h => hr r (List.mem_cons_of_mem _ h)
    have er := hr r (List.mem_cons_self ..);rw [List.take_succ_cons, List.flatten_cons, List.flatten_cons, e, List.take_append, List.take_of_length_le (l := r) (by rw [er, Nat.add_mul]; omega), er, Nat.add_mul, Nat.one_mul, Nat.add_sub_cancel]
theorem cut_ok (H : HSat B U ρ S w h) (E : ESat N U ρ S w f a) {nid pin : Nat} (hn : ¬ U nid) (hn0 : ¬ B.U0 nid) (hpin : ∀ i, B.U0 i -> i < pin) {t e : TypeId} {T F : TD} {x : DV} {v : Value} {k : Int} {kk : IntKind} {out : Out}
    (ht : td P t = some T) (hk : T.k = .slice e) (hF : td P e = some F) (hx : Rel ρ S w x v) (hd : dcut F e pin x k h = some out) (hp : out.pre) :
    StepOk P B N U nid f h a w (do pure (Next.value (<- Instr.sliceAt t v none (some (.int kk k)) none))) out := by
  obtain ⟨i, d, z, hi', hu, hz, e1, e2, e3, e4, _⟩ := td_spec ht;obtain ⟨i2, d2, z2, hi2, hu2, hz2, s1, _⟩ := td_spec hF;have hds : d = .slice e := tk_slice (e4 ▸ hk);subst hds;unfold dcut at hd;cases hgl : glId x with
  | none => rw [hgl] at hd; cases hd
  | some id =>
  rw [hgl] at hd;obtain rfl := glId_spec hgl;simp only [Rel] at hx;subst hx;cases hh : h id with
  | none => simp only [hh] at hd; cases hd
  | some hv0 =>
  cases hv0 with
  | blk t0 cs0 => simp only [hh] at hd; cases hd
  | map es0 => simp only [hh] at hd; cases hd
  | lent n0 l0 => simp only [hh] at hd; cases hd
  | lst e' m l =>
    simp only [hh] at hd;by_cases hc : m = F.size /\ e' = e /\ pin <= id
    · rw [if_pos hc] at hd;obtain ⟨rfl, rfl, hpid⟩ := hc;obtain rfl := Option.some.inj hd;obtain ⟨hp1, hp2, hp3⟩ := hp;obtain ⟨q, rfl⟩ : ∃ q : Nat, k = q := ⟨k.toNat, by omega⟩;have hid0 : ¬ B.U0 id := fun k => by have := hpin id k; omega
      have hidU : U id := (H.heapU id _ hh).1;have hne : id ≠ nid := fun e => hn (e ▸ hidU)
      have h1 := H.heap id _ hh;have h1u := (H.heapU id _ hh).2;simp only [HRel] at h1;obtain ⟨q1, q2, q3, q4, q5⟩ := h1;have hql : q <= l.length := by omega
      have hb := bounds_run (P := P) (w := w) (len := l.length) (cap := (ρ id).cap) (isS := true) (lo := none) (hi := some (.int kk (q : Int))) (l := none) (r := some (q : Int)) (.inl ⟨rfl, rfl⟩) (.inr ⟨kk, q, rfl, rfl⟩) (by simp) (by simp) (by simp; omega) q3;have hrun : (do pure (Next.value (<- Instr.sliceAt t (.slice (ρ id).a (ρ id).len (ρ id).cap) none (some (.int kk (q : Int))) none)) : Sem Next).run P w = .ok (.value (.slice (if (ρ id).cap = 0 then (ρ id).a else (ρ id).a.map (·.add (0 * F.size))) q (ρ id).cap)) w := by
        rw [q1];simp only [Option.getD_none, Option.getD_some, Int.toNat_zero, Int.toNat_natCast] at hb;simp [Instr.sliceAt, r_und hu, Instr.slice, hb, r_size hi2, s1]
      have hval : (if (ρ id).cap = 0 then (ρ id).a else (ρ id).a.map (·.add (0 * F.size))) = (ρ id).a := by
        by_cases h0 : (ρ id).cap = 0
        · rw [if_pos h0]
        · rw [if_neg h0];rcases q5 with q5 | ⟨b, vs, sp, fz, k1, _⟩
          · exact absurd q5 h0
          · rw [k1]; simp [addr_add]
      rw [hval] at hrun;have hnew : DV.usesL (fun i => U i /\ i ≠ id) (l.take q).flatten := by
        rw [usesL_iff];intro d hd;obtain ⟨r, hr, hd⟩ := List.mem_flatten.1 hd;have hdl : d ∈ l.flatten := List.mem_flatten.2 ⟨r, List.mem_of_mem_take hr, hd⟩;exact usesL_iff.1 (usesL_and _ h1u hp3) d hdl
      have hρs : ∀ (g : Hd) (i : Nat), (U i /\ i ≠ id) -> upd (upd ρ nid (ρ id)) id g i = ρ i := fun g i hi => by
        have h2 : i ≠ nid := fun e => hn (e ▸ hi.1)
        rw [upd_ne _ _ hi.2, upd_ne _ _ h2]
      have hmono : ∀ (ds : List DV) (us : List Value), DV.usesL (fun i => U i /\ i ≠ id) ds -> RelL ρ S w ds us -> RelL (upd (upd ρ nid (ρ id)) id { a := (ρ id).a, len := q, cap := (ρ id).cap }) S w ds us :=
        fun ds us hu => RelL.mono (hρs _) (fun _ k => k) (fun _ _ => rfl) ds us hu
      have hlen : (l.take q).length = q := by rw [List.length_take]; omega
      by_cases h0 : (ρ id).cap = 0
      · refine step_app H E hn hn0 hid0 (old := .lst e' F.size l) (w' := w) (g := { a := (ρ id).a, len := q, cap := (ρ id).cap }) (mb := w.heap.size) hh hrun (fun _ _ _ => rfl) (Nat.le_refl _) rfl rfl rfl (.inr (Nat.le_refl _)) (by simp [hblk, h0]) ?_ hnew rfl;simp only [HRel, upd_same];refine ⟨by simp; omega, by simp; omega, by simp; omega, fun r hr => q4 r (List.mem_of_mem_take (by simpa using hr)), .inl h0⟩
      · rcases q5 with q5 | ⟨b, vs, sp, fz, k1, k2, k3, k4, k5⟩
        · exact absurd q5 h0
        refine step_app H E hn hn0 hid0 (old := .lst e' F.size l) (w' := w) (g := { a := (ρ id).a, len := q, cap := (ρ id).cap }) (mb := b) hh hrun (fun _ _ _ => rfl) (Nat.le_refl _) rfl rfl rfl (.inl (by simp [hblk, h0, k1])) (by simp [hblk, h0, k1]) ?_ hnew rfl;have hsplit : vs.take (q * F.size) ++ (vs.drop (q * F.size) ++ sp) = vs ++ sp := by rw [<- List.append_assoc, List.take_append_drop]
        simp only [HRel, upd_same];refine ⟨by simp; omega, by simp; omega, by simp; omega, fun r hr => q4 r (List.mem_of_mem_take (by simpa using hr)), .inr ⟨b, vs.take (q * F.size), vs.drop (q * F.size) ++ sp, fz, k1, by rw [hsplit]; exact k2, ?_, by rw [hsplit]; exact k4, fun i hi => k5 i (by rw [hsplit] at hi; exact hi)⟩⟩;have hrel := RelL_take (q * F.size) k3;rw [<- flatten_take l q q4] at hrel;simpa using hmono _ _ hnew hrel
    · rw [if_neg hc] at hd; cases hd
theorem cutN_ok (H : HSat B U ρ S w h) (E : ESat N U ρ S w f a) {nid pin : Nat} (hn : ¬ U nid) (hn0 : ¬ B.U0 nid) (hpin : ∀ i, B.U0 i -> i < pin) {t e : TypeId} {T F : TD} {x : DV} {v : Value} {k : Int} {kk : IntKind} {out : Out}
    (ht : td P t = some T) (hk : T.k = .slice e) (hF : td P e = some F) (hx : Rel ρ S w x v) (hd : dcutN F e pin x k h = some out) (hp : out.pre) :
    StepOk P B N U nid f h a w (do pure (Next.value (<- Instr.sliceAt t v none (some (.int kk k)) none))) out := by
  unfold dcutN at hd;split at hd
  · next hc =>
    obtain ⟨hnil, rfl⟩ := hc;obtain ⟨i, d, z, hi', hu, hz, e1, e2, e3, e4, _⟩ := td_spec ht;obtain ⟨i2, d2, z2, hi2, hu2, hz2, s1, _⟩ := td_spec hF;have hds : d = .slice e := tk_slice (e4 ▸ hk);subst hds;rw [isNilD_spec hnil] at hx;obtain rfl := rel_lit hx;have hb := bounds_run (P := P) (w := w) (len := 0) (cap := 0) (isS := true) (lo := none) (hi := some (.int kk 0)) (l := none) (r := some 0) (.inl ⟨rfl, rfl⟩) (.inr ⟨kk, 0, rfl, rfl⟩) (by simp) (by simp) (by simp) (by omega);refine pure1_ok H E hd (v := .slice none 0 0) ?_ (lit_rel rfl) trivial;simp only [Option.getD_none, Option.getD_some, Int.toNat_zero] at hb;simp [Instr.sliceAt, r_und hu, Instr.slice, hb, r_size hi2, s1]
  · exact cut_ok H E hn hn0 hpin ht hk hF hx hd hp
theorem append_zeros_ok (H : HSat B U ρ S w h) (E : ESat N U ρ S w f a) {nid : Nat} (hn : ¬ U nid) (hn0 : ¬ B.U0 nid) {t u e ty : TypeId} {T V F : TD} {ik k1 : IntKind} {n : Int}
    (ht : td P t = some T) (hk : T.k = .slice e) (hu : td P u = some V) (hV : V.k = .int ik) (hF : td P e = some F) (hz : F.zero.all vcell = true) (hzl : F.zero.length = F.size) (h0 : 0 < F.size) (hp : 0 < n /\ n <= 2 ^ 40 /\ n * (F.bytes : Int) <= 2 ^ 46) :
    StepOk P B N U nid f h a w (do pure (Next.value (<- Builtin.append_ #[t, u] ty #[.slice none 0 0, .int k1 n]))) { pre := 0 < n /\ n <= 2 ^ 40 /\ n * (F.bytes : Int) <= 2 ^ 46, fact := True, d := .gl nid, e := .add nid (.lst e F.size (List.replicate n.toNat (cv F.zero))) } := by
  obtain ⟨i, d, z, hi, hud, hzz, e1, e2, e3, e4, _⟩ := td_spec ht;obtain ⟨i1, d1, z1, hi1, hud1, hzz1, _, _, _, e41, _⟩ := td_spec hu;obtain ⟨i', d', z', hi', hud', hzz', s1, s2, s3, s4, _⟩ := td_spec hF;obtain rfl := tk_slice (e4 ▸ hk);obtain rfl := tk_int (e41 ▸ hV);obtain ⟨p1, p3, p4⟩ := hp;obtain ⟨k, rfl⟩ : ∃ k : Nat, n = k := ⟨n.toNat, by omega⟩;have hza : z'.cells = F.zero.toArray := by rw [s3]
  have hzs : z'.cells.size = F.size := by rw [hza]; simp [hzl]
  have hw : IntKind.i64.wrap (k : Int) = k := IntWalk.i64_in _ (by omega);have hcells : Builtin.zeroCells z'.cells k = (List.replicate k F.zero).flatten.toArray := by
    unfold Builtin.zeroCells;rw [hza, <- zeros_eq F.zero k, hzl];apply Array.ext';simp [hzl]
  have hlen : (List.replicate k F.zero).flatten.length = k * F.size := by simp [hzl]
  have ha : ∀ w' : World, (asInt (Value.int k1 (k : Int))).run P w' = .ok (k : Int) w' := fun w' => by simp [asInt, asIntOf]
  have hle : ¬ (0 + k <= 0) := by omega
  have hb : (k : Int) * (i'.bytes : Int) <= 2 ^ 46 := by rw [<- s2]; exact p4
  have hbn : k * i'.bytes <= 2 ^ 46 := by exact_mod_cast hb
  have hnext : Builtin.nextslicecap (0 + k) 0 = k := by
    unfold Builtin.nextslicecap;rw [if_pos (by omega)]; omega
  let qq := Question.appendCap (0 + k) 0 e
  have hgoal : ∃ newCap w', (Builtin.append_ #[t, u] ty #[.slice none 0 0, .int k1 (k : Int)]).run P w = .ok (.slice (some ⟨w.heap.size, 0, none⟩) k newCap) w' /\ k <= newCap /\
      w'.heap = w.heap.push (.cells ((List.replicate k F.zero).flatten ++ (Builtin.zeroCells z'.cells (newCap - (0 + k))).toList).toArray e) /\ w'.os = w.os /\ w'.tape = w.tape /\ w'.output = w.output := by
    refine ⟨qq.cut (w.tape w.drawn qq), { (w.alloc (.cells ((List.replicate k F.zero).flatten ++ (Builtin.zeroCells z'.cells (qq.cut (w.tape w.drawn qq) - (0 + k))).toList).toArray e)) with drawn := w.drawn + 1 }, ?_, ?_, rfl, rfl, rfl, rfl⟩
    · have hf' : (Question.appendCap (0 + k) 0 e).forced = false := rfl;have hmax' : ¬ (((0 + k : Nat) : Int) > IntKind.i64.max /\ (True ∨ i'.bytes = 0)) := by rw [i64max]; omega
      have hroom' : ¬ (Builtin.nextslicecap (0 + k) 0 * i'.bytes > 2 ^ 48) := by rw [hnext]; omega
      have hneg : ¬ ((k : Int) < 0) := by omega
      have hbig : ¬ ((k : Int) * (i'.bytes : Int) > 2 ^ 48) := by omega
      have hks : ¬ (k * i'.size = 0) := by
        rw [<- s1]; intro h;rcases Nat.mul_eq_zero.1 h with h | h <;> omega
      simp only [Builtin.append_, List.getElem?_toArray, List.getElem?_cons_zero, List.getElem?_cons_succ, Sem.run_bind, r_und hud, r_und hud1, r_size hi', Result.andThen_ok, Sem.run_pure];simp only [if_true, ha, Sem.run_bind, Result.andThen_ok, hw, hneg, if_false, r_info hi', hbig, Sem.run_pure, Int.toNat_natCast, hle, Bool.not_true, Bool.false_eq_true];simp only [hmax', if_false, Sem.run_bind, r_info hi', Result.andThen_ok, hroom', run_choose, hf', Bool.false_eq_true, Result.andThen_ok, run_askRoom, Builtin.firstCells, Sem.run_pure, hks, r_zero hi' hzz', hcells, newRow, newObj, Sem.run, World.alloc];simp [qq];congr 2; apply Array.ext'; simp
    · show k <= Question.cut _ _;simp only [qq, Question.cut]; omega
  obtain ⟨newCap, w', g1, g2, g3, g4, g5, g6⟩ := hgoal;refine newlst_ok H E hn hn0 (vs := (List.replicate k F.zero).flatten) (sp := (Builtin.zeroCells z'.cells (newCap - (0 + k))).toList) (cap := newCap) (w' := w') (fz := (0, 0)) (by simpa using g1) g3 g4 g5 g6 ?_ ?_ ?_ ?_ ?_ ?_ (by simp)
  · rw [Int.toNat_natCast, cv_flatten]; refine cv_rel ?_;rw [List.all_eq_true]; intro x hx;obtain ⟨r, hr, hxr⟩ := List.mem_flatten.1 hx;rw [List.eq_of_mem_replicate hr] at hxr;exact List.all_eq_true.1 hz x hxr
  · rw [cv_flatten]; exact cv_uses
  · simp; unfold BL; omega
  · simpa using g2
  · intro r hr; rw [List.eq_of_mem_replicate hr]; simp [cv, hzl]
  · rw [List.length_append, hlen, Array.length_toList, zeroCells_len, hzs, <- Nat.add_mul]; congr 1; omega
theorem cap_nil_ok (H : HSat B U ρ S w h) (E : ESat N U ρ S w f a) {nid : Nat} {t e ty : TypeId} {T : TD} {v : Value} {x : DV} {out : Out} (ht : td P t = some T) (hk : T.k = .slice e) (hx : Rel ρ S w x v) (hn : isNilD x = true) (hd : pure1 (li 0) = some out) :
    StepOk P B N U nid f h a w (do pure (Next.value (<- Builtin.cap_ #[t] ty #[v]))) out := by
  obtain ⟨i, d, z, hi, hu, hz, e1, e2, e3, e4, _⟩ := td_spec ht;have hds : d = .slice e := tk_slice (e4 ▸ hk);subst hds;obtain rfl := isNilD_spec hn;obtain rfl := rel_lit hx;exact pure1_ok H E hd (v := goInt 0) (by simp [Builtin.cap_, r_und hu]) (lit_rel rfl) trivial
theorem dopO_sound (H : HSat B U ρ S w h) (E : ESat N U ρ S w f a) {nid pin : Nat} (hn : ¬ U nid) (hn0 : ¬ B.U0 nid) (hpin : ∀ i, B.U0 i -> i < pin) {o : Oper} {out : Out}
    (hd : dopO P nid pin o.op (ev f) h = some out) (hp : out.pre) (hok : oksD f o.op = true) : StepOk P B N U nid f h a w (execOp a.eval o) out := by
  unfold dopO at hd;split at hd
  · next x hx =>
    obtain rfl := Option.some.inj hd;exact dop_sound' H E hn hn0 hpin hx hp hok
  · obtain ⟨dst, op, ty, pos, after, guard⟩ := o;dsimp only at hd hok;have hall : isPick op = false -> ∀ x, x ∈ op.operands.toList -> (ev f x).okB = true := fun hpk => oksD_all hpk hok
    unfold dopX at hd;split at hd
    · next t x hi _ =>
      have hall := hall rfl;split at hd
      · next T hT =>
        split at hd
        · next e k hk hki =>
          split at hd
          · next F hF =>
            obtain ⟨kk, hkk⟩ := asI_spec hki;have hr := ev_rel E (hall hi (by simp [Op.operands]));rw [hkk] at hr;have := cutN_ok (nid := nid) (kk := kk) H E hn hn0 hpin hT hk hF (ev_rel E (hall x (by simp [Op.operands]))) hd hp;rw [<- rel_lit hr] at this;exact this
          · cases hd
        · cases hd
      · cases hd
    · next args argTypes _ =>
      have hall := hall rfl;have hops : ∀ x, x ∈ args.toList -> Rel ρ S w (ev f x).un (a.eval x) := fun x hx => ev_rel E (hall x (by simp only [Op.operands, Call.operands]; simpa using hx))
      split at hd
      · next x t hx ht =>
        have ha : args = #[x] := by apply Array.ext'; simpa using hx
        have hb : argTypes = #[t] := by apply Array.ext'; simpa using ht
        subst ha hb;split at hd
        · next T hT =>
          split at hd
          · next e hk =>
            split at hd
            · next hni => rw [exec_bi (vs := #[a.eval x]) (by simp)]; exact cap_nil_ok H E hT hk (hops x (by simp)) hni hd
            · cases hd
          · cases hd
        · cases hd
      · cases hd
    · next args argTypes _ =>
      have hall := hall rfl;have hops : ∀ x, x ∈ args.toList -> Rel ρ S w (ev f x).un (a.eval x) := fun x hx => ev_rel E (hall x (by simp only [Op.operands, Call.operands]; simpa using hx))
      split at hd
      · next s x t u hx ht =>
        have ha : args = #[s, x] := by apply Array.ext'; simpa using hx
        have hb : argTypes = #[t, u] := by apply Array.ext'; simpa using ht
        subst ha hb;split at hd
        · next T V hT hV =>
          split at hd
          · next e n hk hni =>
            split at hd
            · next hc =>
              rw [Bool.and_eq_true] at hc;obtain ⟨ik, hik⟩ := isIntK_spec hc.1;split at hd
              · next F hF =>
                split at hd
                · next hz =>
                  obtain rfl := Option.some.inj hd;obtain ⟨kk, hkk⟩ := asI_spec hni;have hr := hops x (by simp);rw [hkk] at hr;have hs := hops s (by simp);rw [isNilD_spec hc.2] at hs;rw [exec_bi (vs := #[a.eval s, a.eval x]) (by simp), rel_lit hr, rel_lit hs];exact append_zeros_ok H E hn hn0 hT hk hV hik hF hz.1 hz.2.1 hz.2.2 hp
                · cases hd
              · cases hd
            · cases hd
          · cases hd
        · cases hd
      · cases hd
    · cases hd
end
end Go.Eng
