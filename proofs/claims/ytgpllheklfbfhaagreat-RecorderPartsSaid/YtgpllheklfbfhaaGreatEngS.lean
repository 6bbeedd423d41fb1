/-
  A part of the engine that reckons calls at the level of data.
  No condition.
-/

import Derived.Test.YtgpllheklfbfhaaGreatEngR
namespace Go.Eng
set_option linter.all false
open Go.RowKit
structure XS where
  A : LE
  H : LH
  j : Nat
  pre : Prop
  chk : Bool
  rest : List Oper
def xs1 (N nid : Nat) (c : Option Bool) (out : Option Out) (oks : Bool) (dst : Option Tmp) (g : Bool) (ids : List Nat) (ck : List Nat -> Bool) (A : LE) (H : LH) : Option (LE × LH × Prop × Bool) :=
  match c, out with
  | some c, some out => some (eput A dst (if g then .opt c (dx nid out.e out.d) else dx nid out.e out.d), effHX nid H (effC c out.e), dstOk N dst = true /\ (c = true -> oks = true /\ out.pre) /\ ids.all (fun i => (hget H i).isSome) = true, ck (effIds (effC c out.e)))
  | _, _ => none
mutual
def xrunF (P : Program) (N pin nx : Nat) (ops : Array Oper) (M V : List Nat) : List Oper -> Nat -> LE -> LH -> Prop -> Bool -> Option XS
  | [], i, A, H, p, q => some ⟨A, H, i, p, q, []⟩
  | o :: os, i, A, H, p, q =>
    if isCallOp o.op then some ⟨A, H, i, p, q, o :: os⟩
    else afterX P N pin nx ops M V (xs1 N (nx + 8 * i) (guardD ops o (eget A)) (dop P (nx + 8 * i) pin o.op (ev (eget A)) (hget H)) (oksD (eget A) o.op) o.dst o.guard.isSome (opIds o.op (ev (eget A))) (fpB ops M nx V i (opIds o.op (ev (eget A)))) A H) os i p q
def afterX (P : Program) (N pin nx : Nat) (ops : Array Oper) (M V : List Nat) : Option (LE × LH × Prop × Bool) -> List Oper -> Nat -> Prop -> Bool -> Option XS
  | some (A, H, p', q'), os, i, p, q => xrunF P N pin nx ops M V os (i + 1) A H (p /\ p') (q && q')
  | none, _, _, _, _ => none
end
section
variable [Dfr]
variable {P : Program} {N pin nx : Nat} {ops : Array Oper} {M V : List Nat}
theorem fpB_nil (j : Nat) : fpB ops M nx V j [] [] = true := by simp [fpB]
theorem xrunF_pre : ∀ (os : List Oper) (i : Nat) (A : LE) (H : LH) (p : Prop) (q : Bool) (r : XS), xrunF P N pin nx ops M V os i A H p q = some r -> r.pre -> r.chk = true -> p /\ q = true
  | [], i, A, H, p, q, r, h, hp, hq => by simp only [xrunF, Option.some.injEq] at h; subst h; exact ⟨hp, hq⟩
  | o :: os, i, A, H, p, q, r, h, hp, hq => by
    simp only [xrunF] at h;split at h
    · simp only [Option.some.injEq] at h; subst h; exact ⟨hp, hq⟩
    · cases hx : xs1 N (nx + 8 * i) (guardD ops o (eget A)) (dop P (nx + 8 * i) pin o.op (ev (eget A)) (hget H)) (oksD (eget A) o.op) o.dst o.guard.isSome (opIds o.op (ev (eget A))) (fpB ops M nx V i (opIds o.op (ev (eget A)))) A H with
      | none => rw [hx] at h; simp [afterX] at h
      | some t =>
        obtain ⟨A', H', p', q'⟩ := t;rw [hx] at h;simp only [afterX] at h;obtain ⟨h1, h2⟩ := xrunF_pre os (i + 1) A' H' _ _ r h hp hq;rw [Bool.and_eq_true] at h2;exact ⟨h1.1, h2.1⟩
theorem xrunF_sound {K : LE -> LH -> Prop} : ∀ (os : List Oper) (i : Nat) (A : LE) (H : LH) (p : Prop) (q : Bool) (r : XS), xrunF P N pin nx ops M V os i A H p q = some r -> r.pre -> r.chk = true ->
    xrun P N pin nx ops M V r.rest r.j r.A r.H K -> xrun P N pin nx ops M V os i A H K
  | [], i, A, H, p, q, r, h, hp, hq, k => by simp only [xrunF, Option.some.injEq] at h; subst h; exact k
  | o :: os, i, A, H, p, q, r, h, hp, hq, k => by
    simp only [xrunF] at h;split at h
    · simp only [Option.some.injEq] at h; subst h; exact k
    · next hcall =>
      have hco := callOf_none (P := P) (ρ := ev (eget A)) hcall;cases hg : guardD ops o (eget A) with
      | none => rw [hg] at h; simp [xs1, afterX] at h
      | some c =>
        cases hd : dop P (nx + 8 * i) pin o.op (ev (eget A)) (hget H) with
        | none => rw [hg, hd] at h; simp [xs1, afterX] at h
        | some out =>
          rw [hg, hd] at h;simp only [xs1, afterX] at h;obtain ⟨⟨_, h1, h2, h4⟩, h5⟩ := xrunF_pre os (i + 1) _ _ _ _ r h hp hq;rw [Bool.and_eq_true] at h5;have ih := xrunF_sound (K := K) os (i + 1) _ _ _ _ r h hp hq k;simp only [xrun];unfold xstep;rw [hg];dsimp only;rw [hco];dsimp only;rw [hd];exact ⟨h1, fun e => (h2 e).1, fun e => (h2 e).2, h4, h5.2, ih⟩
theorem swp_drawXF (hm : P.follows .mixedOrders = true) {Q : Exit -> LE -> LH -> Nat -> Prop} {A : LE} {H : LH} {id nx' : Nat} {A' : LE} {H' : LH} {i : Nat} {pre : Prop} {chk : Bool} (V : List Nat) (ho : xB ops (masks ops) = true)
    (hF : xrunF P N pin nx ops (masks ops) V ops.toList 0 A H True true = some ⟨A', H', i, pre, chk, []⟩) (hn : nx + 8 * ops.toList.length = nx') (hc : chk = true) (hp : pre) (h : Q .normal A' H' nx') : SWp P N pin (.region id ops true) Q A H nx := by
  subst hn;exact swp_drawX hm _ V ho (xrunF_sound _ _ _ _ _ _ _ hF hp hc h)
theorem swp_drawXC (hm : P.follows .mixedOrders = true) {Q : Exit -> LE -> LH -> Nat -> Prop} {A : LE} {H : LH} {id nx' : Nat} {A' : LE} {H' : LH} {i : Nat} {pre : Prop} {chk : Bool} {o : Oper} {os : List Oper} (V : List Nat) (ho : xB ops (masks ops) = true)
    (hF : xrunF P N pin nx ops (masks ops) V ops.toList 0 A H True true = some ⟨A', H', i, pre, chk, o :: os⟩) (hn : nx + 8 * ops.toList.length = nx') (hc : chk = true) (hp : pre) (h : xrun P N pin nx ops (masks ops) V (o :: os) i A' H' fun A' H' => Q .normal A' H' nx') : SWp P N pin (.region id ops true) Q A H nx := by
  subst hn;exact swp_drawX hm _ V ho (xrunF_sound _ _ _ _ _ _ _ hF hp hc h)
theorem xrun_call {K : LE -> LH -> Prop} {o : Oper} {os : List Oper} {j : Nat} {A : LE} {H : LH} {c : Bool} {g : FuncId} {args args0 : List DV} {A2 : LE} {H1 H2 : LH} {j2 : Nat} {pre : Prop} {chk : Bool} {rest : List Oper} (C : List Nat) (d : DV) (need hs' : LH)
    (hg : guardD ops o (eget A) = some c) (hc : callOf P o.op (ev (eget A)) = some (g, args0)) (hN : normA P (tsOf o.op) args0 = args ∨ args0 = args) (hd : dstOk N o.dst = true /\ (c = true -> oksD (eget A) o.op = true))
    (he : effB o.op = true) (hC : ∀ i, i ∈ C -> pin <= i) (hCn : ∀ i, i ∈ C -> (hget need i).isSome = true) (hsub : subH H need) (hk : keysIn need (nx + 8 * j) hs') (hq : (need = [] /\ hs' = []) ∨ c = true)
    (hcall : c = true -> DCallsG P g C args (hget need) (nx + 8 * j) d (hget hs')) (hfp : fpB ops M nx V j (keysL need) (keysL need) = true) (hfr : ∀ i, W8 (nx + 8 * j) i -> hget H i = none) (hH1 : hpat H need hs' = H1)
    (hF : xrunF P N pin nx ops M V os (j + 1) (eput A o.dst (wrapD o c d)) H1 True true = some ⟨A2, H2, j2, pre, chk, rest⟩) (hck : chk = true) (hp : pre)
    (h : xrun P N pin nx ops M V rest j2 A2 H2 K) : xrun P N pin nx ops M V (o :: os) j A H K := by
  subst hH1;have hcall0 : c = true -> DCallsG P g C args0 (hget need) (nx + 8 * j) d (hget hs') := fun e => by
    rcases hN with hN | hN
    · subst hN; exact (hcall e).nrm _
    · subst hN; exact hcall e
  simp only [xrun];unfold xstep;rw [hg];dsimp only;rw [hc];exact ⟨hd.1, hd.2, C, d, need, hs', he, hC, hCn, hsub, hk, hq, hcall0, hfp, hfr, xrunF_sound _ _ _ _ _ _ _ hF hp hck h⟩
theorem xrun_end {K : LE -> LH -> Prop} {A : LE} {H : LH} {j : Nat} (h : K A H) : xrun P N pin nx ops M V [] j A H K := h
def above (m : Nat) : LH -> Prop
  | [] => True
  | (i, _) :: r => (i < m ∨ m + 8 <= i) /\ above m r
theorem above_spec {m : Nat} : ∀ {H : LH}, above m H -> ∀ i, W8 m i -> hget H i = none
  | [], _, _, _ => rfl
  | (s, v) :: r, h, i, hi => by
    simp only [hget];rw [if_neg (fun e => by subst e; unfold W8 at hi; have := h.1; omega)];exact above_spec h.2 i hi
def keysC (C : List Nat) (pin : Nat) : LH -> Prop
  | [] => True
  | (i, _) :: r => (i ∈ C ∨ i < pin) /\ keysC C pin r
theorem keysC_get {C : List Nat} : ∀ {H : LH}, keysC C pin H -> ∀ i v, hget H i = some v -> i ∈ C ∨ i < pin
  | [], _, _, _, e => by cases e
  | (s, d) :: H, hu, i, v, e => by
    simp only [hget] at e; split at e
    · next k => subst k; exact hu.1
    · exact keysC_get hu.2 i v e
def allGe (pin : Nat) : List Nat -> Prop
  | [] => True
  | i :: r => pin <= i /\ allGe pin r
theorem allGe_get {pin : Nat} : ∀ {l : List Nat}, allGe pin l -> ∀ i, i ∈ l -> pin <= i
  | [], _, _, h => by cases h
  | j :: r, hp, i, h => by
    rcases List.mem_cons.1 h with e | e
    · rw [e]; exact hp.1
    · exact allGe_get hp.2 i e
end
section
variable {P : Program} {N pin nx : Nat} {M V : List Nat}
theorem contract {g : FuncId} {fn : Func} {c : Code} {n : Nat} {rs : List ResultVar} {ts : List TypeId} (hf : P.funcs[g]? = some fn) (hb : (fn.body, fn.ntmps, fn.results.toList, fn.resultTypes.toList) = (some c, n, rs, ts)) (hname : fn.name ≠ "runtime.NumGoroutine") (pin n0 : Nat) (F C M : List Nat) {args : List DV} {h h' : LH} {d : DV} {m : Nat} (d0 : DV) (h0 : LH)
    (side : pin <= n0 /\ args.length <= n /\ DV.usesL (fun i => i < n0) args /\ usesH n0 h /\ keysC C pin h /\ allGe pin M /\ M.length <= 8 /\ d0.uses (okid h pin M) /\ usesM h pin M h0)
    (names : d0.mp (rf M m) = d /\ hmp (rf M m) h0 = h')
    (hd : SWp P n pin c (endP P pin rs ts F fun d1 H1 => d1 = d0 /\ subH H1 h0) (enum 0 args) h n0) : DCallsG P g C args (hget h) m d (hget h') :=
  DCallsG.intro hf hb hname pin n0 F C M side.1 side.2.1 side.2.2.1 side.2.2.2.1 (keysC_get side.2.2.2.2.1) (allGe_get side.2.2.2.2.2.1) side.2.2.2.2.2.2.1 side.2.2.2.2.2.2.2.1 side.2.2.2.2.2.2.2.2 (hd.mono (endP_mono fun _ _ k => ⟨k.1, subH_get k.2⟩)) names.1 names.2
theorem pureC {g : FuncId} {fn : Func} {c : Code} {n : Nat} {rs : List ResultVar} {ts : List TypeId} (hf : P.funcs[g]? = some fn) (hb : (fn.body, fn.ntmps, fn.results.toList, fn.resultTypes.toList) = (some c, n, rs, ts)) (hname : fn.name ≠ "runtime.NumGoroutine") (F : List Nat) {args : List DV} {d : DV} {m : Nat}
    (side : args.length <= n /\ DV.cleanL args /\ d.clean)
    (hd : SWp P n 0 c (endP P 0 rs ts F fun d1 _ => d1 = d) (enum 0 args) [] 0) : DCalls P g args (hget []) m d (hget []) :=
  DCalls.pure hf hb hname F side.1 side.2.1 side.2.2 hd
end
end Go.Eng
