/-
  A part of the engine that reckons calls at the level of data.
  No condition.
-/

import Derived.Test.YtgpllheklfbfhaaGreatEngM
namespace Go.Eng
set_option linter.all false
open Go.RowKit
structure RS where
  A : LE
  H : LH
  i : Nat
  pre : Prop
  fact : Prop
  rest : List Oper
def isCallOp : Op -> Bool
  | .call { callee := .value _, .. } => true
  | _ => false
def ds1 (N nid : Nat) (c : Option Bool) (out : Option Out) (oks : Bool) (dst : Option Tmp) (g : Bool) (A : LE) (H : LH) : Option (LE × LH × Prop × Prop) :=
  match c with
  | some c => match gop c out with
    | some out => some (eput (effFL nid A (effC c out.e)) dst (if g then .opt c out.d else out.d), effHL nid H (effC c out.e), dstOk N dst = true /\ (c = true -> oks = true /\ out.pre), (c = true -> out.fact))
    | none => none
  | none => none
mutual
def drunF (P : Program) (N pin nx : Nat) (ops : Array Oper) : List Oper -> Nat -> LE -> LH -> Prop -> Prop -> Option RS
  | [], i, A, H, p, q => some ⟨A, H, i, p, q, []⟩
  | o :: os, i, A, H, p, q =>
    if isCallOp o.op then some ⟨A, H, i, p, q, o :: os⟩
    else afterF P N pin nx ops (ds1 N (nx + 8 * i) (guardD ops o (eget A)) (dopO P (nx + 8 * i) pin o.op (ev (eget A)) (hget H)) (oksD (eget A) o.op) o.dst o.guard.isSome A H) os i p q
def afterF (P : Program) (N pin nx : Nat) (ops : Array Oper) : Option (LE × LH × Prop × Prop) -> List Oper -> Nat -> Prop -> Prop -> Option RS
  | some (A, H, p', q'), os, i, p, q => drunF P N pin nx ops os (i + 1) A H (p /\ (q -> p')) (q /\ q')
  | none, _, _, _, _ => none
end
section
variable [Dfr]
variable {P : Program} {N pin nx : Nat} {ops : Array Oper}
theorem callOf_none {o : Op} {ρ : Operand -> DV} (h : ¬ isCallOp o = true) : callOf P o ρ = none := by
  cases o with
  | call c =>
    obtain ⟨callee, args, ts⟩ := c;cases callee with
    | value g => exact absurd rfl h
    | _ => rfl
  | _ => rfl
theorem drunF_pre : ∀ (os : List Oper) (i : Nat) (A : LE) (H : LH) (p q : Prop) (r : RS), drunF P N pin nx ops os i A H p q = some r -> r.pre -> p
  | [], i, A, H, p, q, r, h, hp => by
    simp only [drunF, Option.some.injEq] at h; subst h;exact hp
  | o :: os, i, A, H, p, q, r, h, hp => by
    rw [drunF] at h;split at h
    · simp only [Option.some.injEq] at h; subst h;exact hp
    · unfold ds1 at h;cases hg : guardD ops o (eget A) with
      | none => rw [hg] at h; simp [afterF] at h
      | some c =>
        rw [hg] at h;dsimp only at h;cases hd : gop c (dopO P (nx + 8 * i) pin o.op (ev (eget A)) (hget H)) with
        | none => rw [hd] at h; simp [afterF] at h
        | some out =>
          rw [hd] at h;simp only [afterF] at h;exact (drunF_pre os (i + 1) _ _ _ _ r h hp).1
theorem drunF_sound {K : LE -> LH -> Prop} : ∀ (os : List Oper) (i : Nat) (A : LE) (H : LH) (p q : Prop) (r : RS), drunF P N pin nx ops os i A H p q = some r -> q -> r.pre ->
    (r.fact -> drun P N pin nx ops r.rest r.i r.A r.H K) -> drun P N pin nx ops os i A H K
  | [], i, A, H, p, q, r, h, hq, hp, k => by
    simp only [drunF, Option.some.injEq] at h; subst h;exact k hq
  | o :: os, i, A, H, p, q, r, h, hq, hp, k => by
    rw [drunF] at h;split at h
    · simp only [Option.some.injEq] at h; subst h;exact k hq
    · next hc =>
      have hco : callOf P o.op (ev (eget A)) = none := callOf_none hc;unfold ds1 at h;cases hg : guardD ops o (eget A) with
      | none => rw [hg] at h; simp [afterF] at h
      | some c =>
        rw [hg] at h;dsimp only at h;cases hd : gop c (dopO P (nx + 8 * i) pin o.op (ev (eget A)) (hget H)) with
        | none => rw [hd] at h; simp [afterF] at h
        | some out =>
          rw [hd] at h;simp only [afterF] at h;obtain ⟨h1, h2⟩ := (drunF_pre os (i + 1) _ _ _ _ r h hp).2 hq;simp only [drun];unfold dstep;rw [hg];dsimp only;rw [hco];dsimp only;rw [hd];refine ⟨h1, fun e => (h2 e).1, fun e => (h2 e).2, fun hf => ?_⟩;exact drunF_sound os (i + 1) _ _ _ _ r h ⟨hq, hf⟩ hp k
theorem drun_call {K : LE -> LH -> Prop} {o : Oper} {os : List Oper} {i : Nat} {A : LE} {H : LH} {c : Bool} {g : FuncId} {args : List DV} {A2 : LE} {H2 : LH} {i2 : Nat} {pre fact : Prop} {rest : List Oper} (C : List Nat) (d : DV) (H' : LH)
    (hg : guardD ops o (eget A) = some c) (hc : callOf P o.op (ev (eget A)) = some (g, args)) (hd : dstOk N o.dst = true /\ (c = true -> oksD (eget A) o.op = true))
    (hC : ∀ i, i ∈ C -> pin <= i) (hcall : c = true -> DCallsG P g C args (hget H) (nx + 8 * i) d (hget H')) (hq : H' = H ∨ c = true)
    (hF : drunF P N pin nx ops os (i + 1) (eput A o.dst (wrapD o c d)) H' True True = some ⟨A2, H2, i2, pre, fact, rest⟩) (hp : pre)
    (hk : fact -> drun P N pin nx ops rest i2 A2 H2 K) : drun P N pin nx ops (o :: os) i A H K := by
  simp only [drun];unfold dstep;rw [hg];dsimp only;rw [hc];exact ⟨hd.1, hd.2, C, d, H', hC, hcall, hq, drunF_sound os (i + 1) _ _ _ _ _ hF trivial hp hk⟩
theorem drun_callH {K : LE -> LH -> Prop} {o : Oper} {os : List Oper} {i : Nat} {A : LE} {H : LH} {c : Bool} {g : FuncId} {args args0 : List DV} {A2 : LE} {H1 H2 : LH} {i2 : Nat} {pre fact : Prop} {rest : List Oper} (C : List Nat) (d : DV) (need hs' : LH)
    (hg : guardD ops o (eget A) = some c) (hc : callOf P o.op (ev (eget A)) = some (g, args0)) (hN : normA P (tsOf o.op) args0 = args ∨ args0 = args) (hd : dstOk N o.dst = true /\ (c = true -> oksD (eget A) o.op = true))
    (hC : ∀ i, i ∈ C -> pin <= i) (hCn : ∀ i, i ∈ C -> (hget need i).isSome = true) (hsub : subH H need) (hk : keysIn need (nx + 8 * i) hs') (hq : (need = [] /\ hs' = []) ∨ c = true)
    (hcall : c = true -> DCallsG P g C args (hget need) (nx + 8 * i) d (hget hs')) (hH1 : hpat H need hs' = H1)
    (hF : drunF P N pin nx ops os (i + 1) (eput A o.dst (wrapD o c d)) H1 True True = some ⟨A2, H2, i2, pre, fact, rest⟩) (hp : pre)
    (hk2 : fact -> drun P N pin nx ops rest i2 A2 H2 K) : drun P N pin nx ops (o :: os) i A H K := by
  subst hH1;have hcall0 : c = true -> DCallsG P g C args0 (hget need) (nx + 8 * i) d (hget hs') := fun e => by
    rcases hN with hN | hN
    · subst hN; exact (hcall e).nrm _
    · subst hN; exact hcall e
  refine drun_call C d _ hg hc hd hC (fun e => (hcall0 e).on H hsub hCn hk) ?_ hF hp hk2;rcases hq with ⟨rfl, rfl⟩ | hq
  · refine .inl ?_;have key : ∀ H : LH, hupd [] [] H = H := fun H => by
      induction H with
      | nil => rfl
      | cons x r ih => simp [hupd, hget, ih]
    unfold hpat
    simp only [hnew, happ, key]
  · exact .inr hq
structure RQ where
  A : LE
  pre : Prop
  rest : List Oper
def ds2 (N : Nat) (c : Option Bool) (out : Option Out) (oks : Bool) (dst : Option Tmp) (g : Bool) (A : LE) : Option (LE × Prop) :=
  match c, out with
  | some c, some out => some (eput A dst (if g then .opt c out.d else out.d), dstOk N dst = true /\ (c = true -> oks = true /\ out.pre) /\ out.e.quiet = true)
  | _, _ => none
mutual
def drunG (P : Program) (N pin nx : Nat) (ops : Array Oper) (H : LH) : List Oper -> LE -> Prop -> Option RQ
  | [], A, p => some ⟨A, p, []⟩
  | o :: os, A, p =>
    if isCallOp o.op then some ⟨A, p, o :: os⟩
    else afterG P N pin nx ops H (ds2 N (guardD ops o (eget A)) (dop P nx pin o.op (ev (eget A)) (hget H)) (oksD (eget A) o.op) o.dst o.guard.isSome A) os p
def afterG (P : Program) (N pin nx : Nat) (ops : Array Oper) (H : LH) : Option (LE × Prop) -> List Oper -> Prop -> Option RQ
  | some (A, p'), os, p => drunG P N pin nx ops H os A (p /\ p')
  | none, _, _ => none
end
theorem drunG_pre {H : LH} : ∀ (os : List Oper) (A : LE) (p : Prop) (r : RQ), drunG P N pin nx ops H os A p = some r -> r.pre -> p
  | [], A, p, r, h, hp => by
    simp only [drunG, Option.some.injEq] at h; subst h;exact hp
  | o :: os, A, p, r, h, hp => by
    rw [drunG] at h;split at h
    · simp only [Option.some.injEq] at h; subst h;exact hp
    · unfold ds2 at h;cases hg : guardD ops o (eget A) with
      | none => rw [hg] at h; simp [afterG] at h
      | some c =>
        cases hd : dop P nx pin o.op (ev (eget A)) (hget H) with
        | none => rw [hg, hd] at h; simp [afterG] at h
        | some out =>
          rw [hg, hd] at h;simp only [afterG] at h;exact (drunG_pre os _ _ r h hp).1
theorem drunG_sound {H : LH} {K : LE -> Prop} : ∀ (os : List Oper) (A : LE) (p : Prop) (r : RQ), drunG P N pin nx ops H os A p = some r -> r.pre ->
    drunQ P N pin nx ops r.rest r.A H K -> drunQ P N pin nx ops os A H K
  | [], A, p, r, h, hp, k => by
    simp only [drunG, Option.some.injEq] at h; subst h;exact k
  | o :: os, A, p, r, h, hp, k => by
    rw [drunG] at h;split at h
    · simp only [Option.some.injEq] at h; subst h;exact k
    · next hc =>
      have hco : callOf P o.op (ev (eget A)) = none := callOf_none hc;unfold ds2 at h;cases hg : guardD ops o (eget A) with
      | none => rw [hg] at h; simp [afterG] at h
      | some c =>
        cases hd : dop P nx pin o.op (ev (eget A)) (hget H) with
        | none => rw [hg, hd] at h; simp [afterG] at h
        | some out =>
          rw [hg, hd] at h;simp only [afterG] at h;obtain ⟨h1, h2, h3⟩ := (drunG_pre os _ _ r h hp).2;simp only [drunQ];unfold dstepQ;rw [hg];dsimp only;rw [hco];dsimp only;rw [hd];exact ⟨h1, fun e => (h2 e).1, fun e => (h2 e).2, h3, drunG_sound os _ _ r h hp k⟩
def thenK (P : Program) (N pin : Nat) (G : List Nat) (b : Code) (Q : Exit -> LE -> LH -> Nat -> Prop) : Exit -> LE -> LH -> Nat -> Prop := fun e A H nx =>
  match e with
  | .normal => SWp P N pin b Q (ekeep A G) H nx
  | e => Q e A H nx
def blockK (id : Nat) (Q : Exit -> LE -> LH -> Nat -> Prop) : Exit -> LE -> LH -> Nat -> Prop := fun e A H nx =>
  match e with
  | .exit i => if i = id then Q .normal A H nx else Q (.exit i) A H nx
  | e => Q e A H nx
def scopeK (Q : Exit -> LE -> LH -> Nat -> Prop) : Exit -> LE -> LH -> Nat -> Prop := fun e A H nx =>
  match e with
  | .goto _ => False
  | e => Q e A H nx
variable {G : List Nat} {Q : Exit -> LE -> LH -> Nat -> Prop} {A : LE} {H : LH}
theorem swp_seq (G : List Nat) {x y : Code} (h : SWp P N pin x (thenK P N pin G y Q) A H nx) : SWp P N pin (.seq x y) Q A H nx := fun hp B hB a w hS => by
  refine wp_seq (wp_mono (h hp B hB a w hS) fun e a' w' ⟨A', H', nx', k1, k2, k3⟩ => ?_);cases e with
  | normal => exact k3 k1 B hB a' w' (k2.weak (eget_keep A' G))
  | _ => exact ⟨A', H', nx', k1, k2, k3⟩
theorem thenK_normal {y : Code} {A2 : LE} (hA : ekeep A G = A2) (h : SWp P N pin y Q A2 H nx) : thenK P N pin G y Q .normal A H nx := by subst hA; exact h
theorem thenK_ret {y : Code} (h : Q .ret A H nx) : thenK P N pin G y Q .ret A H nx := h
theorem thenK_exit {y : Code} {i : Nat} (h : Q (.exit i) A H nx) : thenK P N pin G y Q (.exit i) A H nx := h
theorem swp_block {id : Nat} {c : Code} (h : SWp P N pin c (blockK id Q) A H nx) : SWp P N pin (.block id c) Q A H nx := fun hp B hB a w hS => by
  refine wp_block (wp_mono (h hp B hB a w hS) fun e a' w' ⟨A', H', nx', k1, k2, k3⟩ => ?_);cases e with
  | exit i =>
    simp only [Exit.inBlock];simp only [blockK] at k3;split
    · next e => rw [if_pos e] at k3; exact ⟨A', H', nx', k1, k2, k3⟩
    · next e => rw [if_neg e] at k3; exact ⟨A', H', nx', k1, k2, k3⟩
  | _ => exact ⟨A', H', nx', k1, k2, k3⟩
theorem blockK_normal {id : Nat} (h : Q .normal A H nx) : blockK id Q .normal A H nx := h
theorem blockK_ret {id : Nat} (h : Q .ret A H nx) : blockK id Q .ret A H nx := h
theorem blockK_here {id : Nat} (h : Q .normal A H nx) : blockK id Q (.exit id) A H nx := by simp only [blockK, if_true]; exact h
theorem blockK_exit {id i : Nat} (hne : i ≠ id) (h : Q (.exit i) A H nx) : blockK id Q (.exit i) A H nx := by simp only [blockK, if_neg hne]; exact h
theorem swp_scope {c : Code} (h : SWp P N pin c (scopeK Q) A H nx) : SWp P N pin (.scope c) Q A H nx := fun hp B hB a w hS => by
  refine wp_scope_straight (wp_mono (h hp B hB a w hS) fun e a' w' ⟨A', H', nx', k1, k2, k3⟩ => ?_);cases e with
  | goto l => exact k3.elim
  | _ => exact ⟨A', H', nx', k1, k2, k3⟩
theorem scopeK_normal (h : Q .normal A H nx) : scopeK Q .normal A H nx := h
theorem scopeK_ret (h : Q .ret A H nx) : scopeK Q .ret A H nx := h
theorem scopeK_exit {i : Nat} (h : Q (.exit i) A H nx) : scopeK Q (.exit i) A H nx := h
theorem swp_skip (h : Q .normal A H nx) : SWp P N pin .skip Q A H nx := fun hp _ _ _ _ hS => wp_skip ⟨A, H, nx, hp, hS, h⟩
theorem swp_exit {i : Nat} (h : Q (.exit i) A H nx) : SWp P N pin (.exit i) Q A H nx := fun hp _ _ _ _ hS => wp_exit ⟨A, H, nx, hp, hS, h⟩
theorem swp_ret (h : Q .ret A H nx) : SWp P N pin .ret Q A H nx := fun hp _ _ _ _ hS => wp_ret ⟨A, H, nx, hp, hS, h⟩
theorem swp_cond {c : Operand} {x y : Code} {t : Bool} (hc : ev (eget A) c = .p (.lit (.bool t))) (h1 : t = true -> SWp P N pin x Q A H nx) (h2 : t = false -> SWp P N pin y Q A H nx) : SWp P N pin (.cond c x y) Q A H nx := fun hp B hB a w hS => by
  obtain ⟨ρ, S, HS, ES⟩ := id hS;have hv := ev_rel0 ES c;rw [hc] at hv;exact wp_cond_split (rel_lit hv) (fun e => h1 e hp B hB a w hS) (fun e => h2 e hp B hB a w hS)
theorem swp_condU {c : Operand} {x y : Code} (hc : ev (eget A) c = .p .ub) (h1 : SWp P N pin x Q A H nx) (h2 : SWp P N pin y Q A H nx) : SWp P N pin (.cond c x y) Q A H nx := fun hp B hB a w hS => by
  obtain ⟨ρ, S, HS, ES⟩ := id hS;have hv := ev_rel0 ES c;rw [hc] at hv;have hb : ∃ b : Bool, a.eval c = .bool b := by
    simp only [Rel] at hv;generalize hz : PV.ub = z at hv;generalize ha : a.eval c = u at hv;cases hv with
    | ub b => exact ⟨b, rfl⟩
    | lit => cases hz
    | dat => cases hz
    | ptr => cases hz
    | map => cases hz
  obtain ⟨b, hb⟩ := hb;exact wp_cond_split hb (fun _ => h1 hp B hB a w hS) (fun _ => h2 hp B hB a w hS)
def condD (d : DV) (p q : Prop) : Prop :=
  match d with
  | .p (.lit (.bool t)) => (t = true -> p) /\ (t = false -> q)
  | .p .ub => p /\ q
  | _ => False
theorem condD_b {t : Bool} {p q : Prop} (h1 : t = true -> p) (h2 : t = false -> q) : condD (.p (.lit (.bool t))) p q := ⟨h1, h2⟩
theorem condD_u {p q : Prop} (h1 : p) (h2 : q) : condD (.p .ub) p q := ⟨h1, h2⟩
theorem swp_condX {c : Operand} {x y : Code} {d : DV} (hc : ev (eget A) c = d) (h : condD d (SWp P N pin x Q A H nx) (SWp P N pin y Q A H nx)) : SWp P N pin (.cond c x y) Q A H nx := by
  unfold condD at h;split at h
  · exact swp_cond hc h.1 h.2
  · exact swp_condU hc h.1 h.2
  · exact h.elim
theorem swp_region {id : Nat} (h : drun P N pin nx ops ops.toList 0 A H fun A' H' => Q .normal A' H' (nx + 8 * ops.toList.length)) : SWp P N pin (.region id ops false) Q A H nx := fun hp B hB a w hS => by
  refine wp_region ?_;have := drun_sound (Q := fun e a' w' => ∃ A' H' nx', pin <= nx' /\ St B N nx' A' H' a' w' /\ Q e A' H' nx') hB hp ops.toList 0 A H a w (by simp) hS h fun A' H' a' w' hS' hK => ⟨A', H', _, by omega, (by simpa using hS' : St B N (nx + 8 * ops.toList.length) A' H' a' w'), hK⟩
  rw [List.range_eq_range'];simpa using this
theorem swp_draw (hm : P.follows .mixedOrders = true) {id : Nat} (ho : Region.lexB .any ops = true) (h : drunQ P N pin nx ops ops.toList A H fun A' => Q .normal A' H nx) : SWp P N pin (.region id ops true) Q A H nx := fun hp _ hB _ _ hS =>
  drunQ_sound hm ho hB hp hS h fun A' _ _ hS' hK => ⟨A', H, nx, hp, hS', hK⟩
theorem swp_regionF {id i nx' : Nat} {A' : LE} {H' : LH} {pre fact : Prop} (hF : drunF P N pin nx ops ops.toList 0 A H True True = some ⟨A', H', i, pre, fact, []⟩) (hn : nx + 8 * ops.toList.length = nx') (hp : pre) (h : fact -> Q .normal A' H' nx') :
    SWp P N pin (.region id ops false) Q A H nx := by
  subst hn;exact swp_region (drunF_sound _ _ _ _ True True _ hF trivial hp fun hf => h hf)
theorem swp_regionC {id i nx' : Nat} {A' : LE} {H' : LH} {pre fact : Prop} {o : Oper} {os : List Oper} (hF : drunF P N pin nx ops ops.toList 0 A H True True = some ⟨A', H', i, pre, fact, o :: os⟩) (hn : nx + 8 * ops.toList.length = nx') (hp : pre) (h : fact -> drun P N pin nx ops (o :: os) i A' H' fun A' H' => Q .normal A' H' nx') :
    SWp P N pin (.region id ops false) Q A H nx := by
  subst hn;exact swp_region (drunF_sound _ _ _ _ True True _ hF trivial hp fun hf => h hf)
theorem drun_end {K : LE -> LH -> Prop} {i : Nat} (h : K A H) : drun P N pin nx ops [] i A H K := h
theorem swp_drawF (hm : P.follows .mixedOrders = true) {id : Nat} {A' : LE} {pre : Prop} (ho : Region.lexB .any ops = true) (hF : drunG P N pin nx ops H ops.toList A True = some ⟨A', pre, []⟩) (hp : pre) (h : Q .normal A' H nx) : SWp P N pin (.region id ops true) Q A H nx :=
  swp_draw hm ho (drunG_sound _ _ True _ hF hp h)
def hkr (o n : Nat) : LH -> LH
  | [] => []
  | (i, v) :: r => (rnm o n i, v.ren o n) :: hkr o n r
theorem hget_hkr {o n : Nat} : ∀ {H : LH} (i : Nat), hget H n = none -> hget (hkr o n H) i = hren o n (hget H) i
  | [], i, _ => by simp [hkr, hget, hren]
  | (s, x) :: r, i, hn => by
    have hs : n ≠ s := fun e => by simp [hget, e] at hn
    have hr : hget r n = none := by simpa [hget, hs] using hn
    have ih := hget_hkr (o := o) i hr;simp only [hkr, hget, ih];unfold hren rnm;by_cases h1 : s = o
    · subst h1;by_cases h2 : i = n
      · subst h2; simp [hget]
      · by_cases h3 : i = s
        · subst h3; simp [h2]
        · simp [h2, h3, hget]
    · rw [if_neg h1];by_cases h2 : i = n
      · subst h2;have : ¬ o = s := fun e => h1 e.symm
        simp [hs, hget, this]
      · by_cases h3 : i = o
        · subst h3;have : ¬ i = s := fun e => h1 e.symm
          simp [h2, this]
        · by_cases h4 : i = s
          · subst h4; simp [h2, h3, hget]
          · simp [h2, h3, h4, hget]
theorem St.ren {B : Base} {o n : Nat} {a : Act} {w : World} (hS : St B N nx A H a w) (hpin : ∀ i, B.U0 i -> i < pin) (ho : pin <= o) (hn : pin <= n) (hlt : n < nx) (hA : ∀ t, (eget A t).uses fun i => i < nx /\ i ≠ n) (hH : ∀ i v, hget H i = some v -> (i < nx /\ i ≠ n) /\ v.uses fun i => i < nx /\ i ≠ n) :
    St B N nx (eren o n A) (hkr o n H) a w := by
  obtain ⟨ρ, S, HS, ES⟩ := hS;have hU0 : ∀ i, pin <= i -> ¬ B.U0 i := fun i hi k => by have := hpin i k; omega
  have H1 : HSat B (fun i => i < nx /\ i ≠ n) ρ S w (hget H) := HS.shrink hH;have E1 : ESat N (fun i => i < nx /\ i ≠ n) ρ S w (eget A) a := ⟨ES.size, ES.defers, ES.env, hA⟩;have hUn : ¬ (n < nx /\ n ≠ n) := fun k => k.2 rfl
  have H2 := H1.ren o n hUn (hU0 n hn) (fun _ _ => hU0 o ho);have E2 := E1.ren o n hUn;have hU : ∀ i, Uren (fun i => i < nx /\ i ≠ n) o n i -> i < nx := fun i k => by
    rcases k with k | k
    · exact k.1.1
    · omega
  have hnn : hget H n = none := by
    cases e : hget H n with
    | none => rfl
    | some v => exact absurd rfl (hH n v e).1.2
  refine ⟨_, S, (H2.used hU).drop fun i v hi => ?_, ?_⟩
  · rwa [hget_hkr i hnn] at hi
  · have := E2.mono (fun _ _ => rfl) (fun _ k => k) (fun _ _ => rfl) hU
    rwa [<- eget_ren] at this
def neA (nx n : Nat) : LE -> Prop
  | [] => True
  | (_, d) :: A => d.uses (fun i => i < nx /\ i ≠ n) /\ neA nx n A
def neH (nx n : Nat) : LH -> Prop
  | [] => True
  | (i, v) :: H => (i < nx /\ i ≠ n) /\ v.uses (fun i => i < nx /\ i ≠ n) /\ neH nx n H
theorem neA_get {n : Nat} : ∀ {A : LE}, neA nx n A -> ∀ t, (eget A t).uses fun i => i < nx /\ i ≠ n
  | [], _, _ => trivial
  | (s, d) :: A, h, t => by
    simp only [eget]; split
    · exact h.1
    · exact neA_get h.2 t
theorem neH_get {n : Nat} : ∀ {H : LH}, neH nx n H -> ∀ i v, hget H i = some v -> (i < nx /\ i ≠ n) /\ v.uses fun i => i < nx /\ i ≠ n
  | [], _, _, _, h => by cases h
  | (s, d) :: H, hu, i, v, h => by
    simp only [hget] at h; split at h
    · next e => subst e; cases h; exact ⟨hu.1, hu.2.1⟩
    · exact neH_get hu.2.2 i v h
theorem swp_ren {c : Code} (o n : Nat) (ho : pin <= o) (hn : pin <= n) (hlt : n < nx) (hA : neA nx n A) (hH : neH nx n H) {A2 : LE} {H2 : LH} (eA : eren o n A = A2) (eH : hkr o n H = H2) (h : SWp P N pin c Q A2 H2 nx) : SWp P N pin c Q A H nx := fun hp B hB a w hS => by
  subst eA eH;exact h hp B hB a w (hS.ren hB ho hn hlt (neA_get hA) (neH_get hH))
def efrz (o : Nat) (x : FV) : LE -> LE
  | [] => []
  | (s, d) :: A => (s, d.frz o x) :: efrz o x A
theorem eget_frz (o : Nat) (x : FV) : ∀ (A : LE), eget (efrz o x A) = fun t => (eget A t).frz o x
  | [] => by funext t; rfl
  | (s, d) :: A => by
    funext t
    simp only [efrz, eget, eget_frz o x A];split <;> rfl
theorem swp_frz {c : Code} (o : Nat) {v : HV} {x : FV} (ho : pin <= o) (hv : hget H o = some v) (hx : v.fv = some x) {A2 : LE} {H2 : LH} (eA : efrz o x A = A2) (eH : hfrzL o x H = H2) (h : SWp P N pin c Q A2 H2 nx) : SWp P N pin c Q A H nx := fun hp B hB a w hS => by
  subst eA eH;obtain ⟨ρ, S, HS, ES⟩ := hS;have h1 := HS.frz hv hx (fun k => by have := hB o k; omega);have h2 := ESat.frz HS ES hv hx;rw [<- hget_frz] at h1;refine h hp B hB a w ⟨ρ, _, h1, ?_⟩;rw [eget_frz]; exact h2
theorem swp_hkeep {c : Code} (G : List Nat) {H2 : LH} (eH : hkeep H G = H2) (h : SWp P N pin c Q A H2 nx) : SWp P N pin c Q A H nx := fun hp B hB a w hS => by
  subst eH;obtain ⟨ρ, S, HS, ES⟩ := hS;exact h hp B hB a w ⟨ρ, S, HS.drop (hget_keep H G), ES⟩
def RenTo (pin nx : Nat) : List (Nat × Nat) -> LE -> LH -> LE -> LH -> Prop
  | [], A, H, A', H' => A = A' /\ H = H'
  | (o, n) :: R, A, H, A', H' => pin <= o /\ pin <= n /\ n < nx /\ neA nx n A /\ neH nx n H /\ RenTo pin nx R (eren o n A) (hkr o n H) A' H'
theorem St.renTo {B : Base} {a : Act} {w : World} (hpin : ∀ i, B.U0 i -> i < pin) : ∀ (R : List (Nat × Nat)) (A : LE) (H : LH) (A' : LE) (H' : LH), RenTo pin nx R A H A' H' -> St B N nx A H a w -> St B N nx A' H' a w
  | [], A, H, A', H', h, hS => by obtain ⟨rfl, rfl⟩ := h; exact hS
  | (o, n) :: R, A, H, A', H', h, hS => St.renTo hpin R _ _ A' H' h.2.2.2.2.2 (hS.ren hpin h.1 h.2.1 h.2.2.1 (neA_get h.2.2.2.1) (neH_get h.2.2.2.2.1))
def loopK (pin : Nat) (L : List Nat) (k : Nat) (I : Nat -> LE -> LH -> Prop) (Q : Exit -> LE -> LH -> Nat -> Prop) : Exit -> LE -> LH -> Nat -> Prop := fun e A H nx =>
  match e with
  | .normal => ∃ k', k' < k /\ ∃ R K A' H', RenTo pin nx R (ekeep A L) (hkeep H K) A' H' /\ I k' A' H'
  | e => Q e A H nx
theorem loopK_normal {L : List Nat} {k : Nat} {I : Nat -> LE -> LH -> Prop} (K : List Nat) {A2 : LE} {H2 : LH} (hA : ekeep A L = A2) (hH : hkeep H K = H2) (h : ∃ k', k' < k /\ I k' A2 H2) : loopK pin L k I Q .normal A H nx := by
  subst hA; subst hH;obtain ⟨k', h1, h2⟩ := h;exact ⟨k', h1, [], K, _, _, ⟨rfl, rfl⟩, h2⟩
theorem loopK_ren {L : List Nat} {k : Nat} {I : Nat -> LE -> LH -> Prop} (R : List (Nat × Nat)) (K : List Nat) {A2 A3 : LE} {H2 H3 : LH} (hA : ekeep A L = A2) (hH : hkeep H K = H2) (hR : RenTo pin nx R A2 H2 A3 H3) (h : ∃ k', k' < k /\ I k' A3 H3) : loopK pin L k I Q .normal A H nx := by
  subst hA; subst hH;obtain ⟨k', h1, h2⟩ := h;exact ⟨k', h1, R, K, _, _, hR, h2⟩
theorem loopK_ret {L : List Nat} {k : Nat} {I : Nat -> LE -> LH -> Prop} (h : Q .ret A H nx) : loopK pin L k I Q .ret A H nx := h
theorem loopK_exit {L : List Nat} {k i : Nat} {I : Nat -> LE -> LH -> Prop} (h : Q (.exit i) A H nx) : loopK pin L k I Q (.exit i) A H nx := h
theorem ren1 {pin nx o n : Nat} {A A3 : LE} {H H3 : LH} (h1 : pin <= o) (h2 : pin <= n) (h3 : n < nx) (hA : neA nx n A) (hH : neH nx n H) (eA : eren o n A = A3) (eH : hkr o n H = H3) : RenTo pin nx [(o, n)] A H A3 H3 := ⟨h1, h2, h3, hA, hH, eA, eH⟩
theorem St.whole {B : Base} {n0 : Nat} {a : Act} {w : World} (hS : St B N nx A H a w) (hA : usesA n0 A) (hH : usesH n0 H) : St B N n0 A H a w := by
  obtain ⟨ρ, S, HS, ES⟩ := hS;exact ⟨ρ, S, HS.shrink (usesH_get hH), ES.size, ES.defers, ES.env, usesA_get hA⟩
theorem loop_swp {body : Code} (L K : List Nat) (n0 : Nat) (I : Nat -> LE -> LH -> Prop) (hp : pin <= n0) (hI : ∀ k A H, I k A H -> usesA n0 A /\ usesH n0 H)
    (h0 : ∃ k, I k (ekeep A L) (hkeep H K))
    (hr : ∀ k A H, I k A H -> SWp P N pin body (loopK pin L k I Q) A H n0) : SWp P N pin (.loop body) Q A H nx := by
  intro _ B hB a w hS;obtain ⟨k0, hk0⟩ := h0;have hS0 : St B N n0 (ekeep A L) (hkeep H K) a w := hS.reset L K (hI _ _ _ hk0).1 (hI _ _ _ hk0).2;have key : ∀ k a w, (∃ A H, St B N n0 A H a w /\ I k A H) -> ∀ (b : Frame) (kk : List Item) (cs : List Frame), ∃ e a' w', (∃ A' H' nx', pin <= nx' /\ St B N nx' A' H' a' w' /\ Q e A' H' nx') /\
      Arrives P (lone (b.at a (.code body :: .inLoop body :: kk)) cs w) b kk cs e a' w' := by
    intro k;induction k using Nat.strongRecOn with
    | _ k ih =>
      intro a w ⟨A1, H1, hS1, hI1⟩ b kk cs;have hb := hr k A1 H1 hI1 hp B hB a w hS1;obtain ⟨e, a1, w1, ⟨A', H', nx', q1, q2, q3⟩, harr⟩ := hb b (.inLoop body :: kk) cs;cases e with
      | normal =>
        obtain ⟨k', hlt, R, K', A2, H2, hR, hI'⟩ := q3;obtain ⟨ρ, S, HS, ES⟩ := q2;have hS1' : St B N nx' (ekeep A' L) (hkeep H' K') a1 w1 := ⟨ρ, S, HS.drop (hget_keep H' K'), ES.weak (eget_keep A' L)⟩;have hS' := (St.renTo hB R _ _ A2 H2 hR hS1').whole (hI _ _ _ hI').1 (hI _ _ _ hI').2;obtain ⟨e2, a2, w2, hq2, harr2⟩ := ih k' hlt a1 w1 ⟨_, _, hS', hI'⟩ b kk cs;exact ⟨e2, a2, w2, hq2, .of_steps (Steps.trans harr (.one step_inLoop)) harr2⟩
      | exit id => exact ⟨_, a1, w1, ⟨A', H', nx', q1, q2, q3⟩, .pass (x := .inLoop body) rfl (fun _ _ => .inl (by simp)) harr⟩
      | goto l => exact ⟨_, a1, w1, ⟨A', H', nx', q1, q2, q3⟩, .pass (x := .inLoop body) rfl (fun _ _ => .inl (by simp)) harr⟩
      | ret => exact ⟨_, a1, w1, ⟨A', H', nx', q1, q2, q3⟩, .pass (x := .inLoop body) rfl (fun _ _ => .inl (by simp)) harr⟩
      | panic ch => exact ⟨_, a1, w1, ⟨A', H', nx', q1, q2, q3⟩, .pass (x := .inLoop body) rfl (fun _ _ => .inl (by simp)) harr⟩
      | outgrown => exact ⟨_, a1, w1, ⟨A', H', nx', q1, q2, q3⟩, .pass (x := .inLoop body) rfl (fun _ _ => .inl (by simp)) harr⟩
  intro b kk cs;obtain ⟨e, a', w', hq, harr⟩ := key k0 a w ⟨_, _, hS0, hk0⟩ b kk cs;exact ⟨e, a', w', hq, .of_steps (.one step_loop) harr⟩
end
attribute [irreducible] thenK blockK scopeK loopK condD
end Go.Eng
