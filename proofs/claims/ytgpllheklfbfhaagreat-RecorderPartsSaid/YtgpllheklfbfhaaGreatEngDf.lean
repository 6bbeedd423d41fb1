/-
  A part of the engine that reckons calls at the level of data.
  No condition.
-/

import Derived.Test.YtgpllheklfbfhaaGreatEngV
import Derived.Test.YtgpllheklfbfhaaGreatEngS
import Derived.Defers
namespace Go.Eng
set_option linter.all false
open Go.RowKit
def DCallsD (P : Program) (g : FuncId) (args : List DV) (h : Nat -> Option HV) (m : Nat) (d : DV) (h' : Nat -> Option HV) : Prop :=
  callable P g /\ ∀ (U : Nat -> Prop) (ρ : Nat -> Hd) (S : Nat -> Prop) (w : World) (vs : List Value), HSat0 U ρ S w h -> (∀ i, W8 m i -> ¬ U i) -> RelL ρ S w args vs -> DV.usesL U args ->
    CallsD P g vs.toArray .returning w fun e u w' => u = .returning /\ ∃ v ρ' S', e = .returned v /\ HSat (Base.of (fun i => i ∈ ([] : List Nat)) U ρ S w h) (fun i => U i ∨ W8 m i) ρ' S' w' h' /\ Rel ρ' S' w' d v /\ d.uses (fun i => U i ∨ W8 m i)
theorem DCallsD.intro {P : Program} {g : FuncId} {fn : Func} {c : Code} {n : Nat} {rs : List ResultVar} {ts : List TypeId} (hf : P.funcs[g]? = some fn) (hb : (fn.body, fn.ntmps, fn.results.toList, fn.resultTypes.toList) = (some c, n, rs, ts)) (hname : fn.name ≠ "runtime.NumGoroutine") (pin n0 : Nat) (F M : List Nat) {args : List DV} {h h0 h' : LH} {d d0 : DV} {m : Nat}
    (hp : pin <= n0) (hN : args.length <= n) (hu : DV.usesL (fun i => i < n0) args) (hh : usesH n0 h) (hC : ∀ i v, hget h i = some v -> i ∈ ([] : List Nat) ∨ i < pin) (hMp : ∀ i, i ∈ M -> pin <= i) (hMl : M.length <= 8) (hdu : d0.uses (okid h pin M)) (hh' : usesM h pin M h0)
    (hd : SWp P n pin c (endP P pin rs ts F fun d1 H1 => d1 = d0 /\ ∀ i v, hget h0 i = some v -> hget H1 i = some v) (enum 0 args) h n0)
    (ed : d0.mp (rf M m) = d) (eh : hmp (rf M m) h0 = h') : DCallsD P g args (hget h) m d (hget h') := by
  subst ed eh;simp only [Prod.mk.injEq] at hb;obtain ⟨hb, rfl, rfl, rfl⟩ := hb;refine ⟨⟨fn, hf, by simp [hb], hname⟩, fun U ρ S w vs H0 hmU hr huU => ?_⟩;refine (callsD_of_wp hf hb (body_wp hf hb hp hN hu hh hd H0 hC hr)).mono ?_;rintro e u w' ⟨rfl, v, ρ', S', d', H', nx, rfl, HS, hr', hu', rfl, hH⟩;obtain ⟨ρ2, k1, k2, k3⟩ := HSat.leave H0 hmU hMp hMl (HS.drop hH) hh' hr' hdu;exact ⟨rfl, v, ρ2, S', rfl, k1, k2, k3⟩
section
variable {P : Program} {N pin : Nat}
def RetOk (B : Base) (R : DV -> LH -> Prop) : Ending -> World -> Prop := fun e w' =>
  ∃ v ρ' S' d' H' nx, e = .returned v /\ HSat B (fun i => i < nx) ρ' S' w' (hget H') /\ Rel ρ' S' w' d' v /\ d'.uses (fun i => i < nx) /\ R d' H'
def DWp (P : Program) (fn : Func) (N pin : Nat) (R : DV -> LH -> Prop) (c : Code) (A : LE) (H : LH) (nx : Nat) : Prop :=
  pin <= nx -> ∀ (B : Base), (∀ i, B.U0 i -> i < pin) -> ∀ (a : Act) (w : World), St B N nx A H a w -> c.wp P (bodyPostD P fn (RetOk B R)) a w
def thenD (P : Program) (fn : Func) (N pin : Nat) (R : DV -> LH -> Prop) (G : List Nat) (y : Code) : Exit -> LE -> LH -> Nat -> Prop := fun e A H nx =>
  match e with
  | .normal => DWp P fn N pin R y (ekeep A G) H nx
  | _ => False
theorem dwp_seq {fn : Func} {R : DV -> LH -> Prop} {x y : Code} {A : LE} {H : LH} {nx : Nat} (G : List Nat) (h : SWp P N pin x (thenD P fn N pin R G y) A H nx) : DWp P fn N pin R (.seq x y) A H nx := fun hp B hB a w hS => by
  refine wp_seq (wp_mono (h hp B hB a w hS) fun e a1 w1 ⟨A1, H1, nx1, k1, k2, k3⟩ => ?_);cases e with
  | normal => exact k3 k1 B hB a1 w1 (k2.weak (eget_keep A1 G))
  | _ => exact k3.elim
theorem thenD_normal {fn : Func} {R : DV -> LH -> Prop} {y : Code} {A A2 : LE} {H : LH} {nx : Nat} {G : List Nat} (hA : ekeep A G = A2) (h : DWp P fn N pin R y A2 H nx) : thenD P fn N pin R G y .normal A H nx := by subst hA; exact h
def endD (P : Program) (pin : Nat) (rs : List ResultVar) (ts : List TypeId) (F : List Nat) (g : FuncId) (caps : List DV) (R : DV -> LH -> Prop) : Exit -> LE -> LH -> Nat -> Prop := fun e A H nx =>
  (e = .normal ∨ e = .ret) /\ ∃ H2 d1, DCallsD P g caps (hget H) nx d1 (hget H2) /\ ∃ l, dresL P A H2 rs = some l /\ ∃ H3 d, frzAll pin F H2 (resD (normA P ts l)) = some (H3, d) /\ R d H3
theorem endD_ret {rs : List ResultVar} {ts : List TypeId} {F : List Nat} {g : FuncId} {caps : List DV} {R : DV -> LH -> Prop} {A : LE} {H : LH} {nx : Nat} (H2 : LH) (d1 : DV) (hclo : DCallsD P g caps (hget H) nx d1 (hget H2)) {l : List DV} (hl : dresL P A H2 rs = some l) {H3 : LH} {d : DV} (hz : frzAll pin F H2 (resD (normA P ts l)) = some (H3, d)) (hR : R d H3) : endD P pin rs ts F g caps R .ret A H nx :=
  ⟨.inr rfl, H2, d1, hclo, l, hl, H3, d, hz, hR⟩
def deferOp (x : Operand) (ts : Array TypeId) (dst : Option Tmp) (ty : TypeId) (pos : String) (after : Array Edge) : Oper :=
  { dst, op := .defer { callee := .value x, args := #[], argTypes := ts }, type := ty, pos, after, guard := none }
theorem dwp_defer {fn : Func} {R : DV -> LH -> Prop} {id : Nat} {o1 : Oper} {x : Operand} {ts : Array TypeId} {dst : Option Tmp} {ty : TypeId} {pos : String} {after : Array Edge} {y : Code} {A A1 : LE} {H H1 : LH} {nx nx1 : Nat} {g : FuncId} {caps : List DV} {rs : List ResultVar} {ts2 : List TypeId} (F : List Nat) (hres : (fn.results.toList, fn.resultTypes.toList) = (rs, ts2))
    (hg : o1.guard = none) (hd : dstOk N dst = true) (hn : nx + 16 = nx1)
    (h1 : dstep P N pin nx #[o1, deferOp x ts dst ty pos after] o1 A H fun A' H' => (ev (eget A') x).okB = true /\ (ev (eget A') x).un = .clo g caps /\ eput A' dst .junk = A1 /\ H' = H1)
    (h2 : ∀ [Dfr], SWp P N nx1 y (endD P pin rs ts2 F g caps R) A1 H1 nx1) : DWp P fn N pin R (.seq (.region id #[o1, deferOp x ts dst ty pos after] false) y) A H nx := fun hp B hB a w hS => by
  subst hn;simp only [Prod.mk.injEq] at hres;obtain ⟨rfl, rfl⟩ := hres;refine wp_seq (wp_region ?_);have hk := dstep_sound (Q := Exit.then (Code.wp P y (bodyPostD P fn (RetOk B R))) (bodyPostD P fn (RetOk B R))) hS hB hp h1;have hw1 : Region.wanted o1 (yielded #[o1, deferOp x ts dst ty pos after] a.tmps) = true := by
    unfold Region.wanted; rw [hg]
  rw [if_pos hw1] at hk;have hr : List.range (#[o1, deferOp x ts dst ty pos after] : Array Oper).size = [0, 1] := rfl;rw [hr];simp only [wpOps];have e0 : (#[o1, deferOp x ts dst ty pos after] : Array Oper)[0]? = some o1 := rfl;have e1 : (#[o1, deferOp x ts dst ty pos after] : Array Oper)[1]? = some (deferOp x ts dst ty pos after) := rfl;simp only [e0, e1];rw [if_pos hw1];refine .inl (Oper.wp_mono (fun a1 w1 => ?_) hk);rintro ⟨A', H', ⟨ρ1, S1, HS1, ES1⟩, hok, hun, rfl, rfl⟩;have hw2 : Region.wanted (deferOp x ts dst ty pos after) (yielded #[o1, deferOp x ts dst ty pos after] a1.tmps) = true := rfl;rw [if_pos hw2];have hgr := ev_rel ES1 hok;have hgu := ev_uses ES1 hok;rw [hun] at hgr hgu;simp only [Rel] at hgr;obtain ⟨cvs, hgv, hcr⟩ := hgr;simp only [DV.uses] at hgu;have hrun : (execOp a1.eval (deferOp x ts dst ty pos after)).run P w1 = .ok (.defer { target := .fn (.func g) cvs.toArray, args := #[] }) w1 := by
    simp [execOp, resolve, deferOp, Deferred.ofValue, hgv]
  refine .inl ?_;unfold Oper.wp;rw [hrun, Oper.upon_defer];have HS2 : HSat B (fun i => i < nx + 16) ρ1 S1 w1 (hget H') := HS1.used fun i k => by omega
  have ES2 : @ESat dfr0 N (fun i => i < nx + 16) ρ1 S1 w1 (eget A') a1 := ES1.mono (fun _ _ => rfl) (fun _ k => k) (fun _ _ => rfl) fun i k => by omega
  have ES3 : @ESat dfr0 N (fun i => i < nx + 16) ρ1 S1 w1 (eget (eput A' dst .junk)) (a1.put dst undef) := ES2.puto hd (x := .junk) (v := undef) (by simp only [Rel]) trivial rfl;have ha2 : ({ a1 with defers := { target := .fn (.func g) cvs.toArray, args := #[] } :: a1.defers } : Act).put dst undef = { a1.put dst undef with defers := [{ target := .fn (.func g) cvs.toArray, args := #[] }] } := by
    have e2 : a1.defers = [] := ES1.defers;cases dst <;> simp [Act.put, e2]
  have hdf1 := ES3.size;have hdf2 := ES3.env;have hdf3 := ES3.envU;clear ES1 ES2 ES3;show y.wp P (bodyPostD P fn (RetOk B R)) _ _;obtain ⟨D, hD⟩ : ∃ D : Dfr, D = ⟨[{ target := .fn (.func g) cvs.toArray, args := #[] }]⟩ := ⟨_, rfl⟩;have ES4 : @ESat D N (fun i => i < nx + 16) ρ1 S1 w1 (eget (eput A' dst .junk)) (({ a1 with defers := { target := .fn (.func g) cvs.toArray, args := #[] } :: a1.defers } : Act).put dst undef) := by
    rw [ha2];exact @ESat.mk D _ _ _ _ _ _ _ hdf1 (by subst hD; rfl) hdf2 hdf3
  have H0 := HS2.to0;have hSt : @St D (Base.of (fun i => i ∈ ([] : List Nat)) (fun i => i < nx + 16) ρ1 S1 w1 (hget H')) N (nx + 16) (eput A' dst .junk) H' (({ a1 with defers := { target := .fn (.func g) cvs.toArray, args := #[] } :: a1.defers } : Act).put dst undef) w1 :=
    ⟨ρ1, S1, HSat0.to H0 (fun i v k => .inr (H0.heapU i v k).1), ES4⟩
  have hrest := @h2 D (Nat.le_refl _) _ (fun i k => k) _ w1 hSt;refine wp_mono hrest ?_;rintro e a2 w2 ⟨A2, H2, nx2, l1, ⟨ρ2, S2, HS3, ES5⟩, hend, H3, d1, hclo, l, hl, H4, d, hz, hR⟩;have hdef : a2.defers = [{ target := .fn (.func g) cvs.toArray, args := #[] }] := by
    have := ES5.defers; subst hD; exact this
  have hcr2 : RelL ρ2 S2 w2 caps cvs := RelL.mono (U := fun i => i < nx + 16) (fun i hi => HS3.pin i hi) (fun b hb => HS3.sOld b hb)
    (fun b hb => HS3.keep b (H0.sIn b hb) (fun i ⟨_, _, v, k1, k2⟩ => H0.sep i v b k1 k2 hb) (fun ⟨i, v, k1, k2, k3⟩ => by cases k1)) caps cvs (usesL_iff.2 fun d hd => uses_mono (fun i k => by omega) d (usesL_iff.1 hgu d hd)) hcr
  have hcu2 : DV.usesL (fun i => i < nx2) caps := usesL_iff.2 fun d hd => uses_mono (fun i k => by omega) d (usesL_iff.1 hgu d hd)
  obtain ⟨hcall, hcon⟩ := hclo;have hcalls := hcon (fun i => i < nx2) ρ2 S2 w2 cvs HS3.to0 (fun i hi k => by unfold W8 at hi; omega) hcr2 hcu2;have hinv : (invoke (.fn (.func g) cvs.toArray) #[]).run P w2 = .ok (.enter g cvs.toArray) w2 := by
    obtain ⟨fn2, h1, h2, h3⟩ := hcall;have hb : ¬ fn2.body = none := fun e => by rw [e] at h2; cases h2
    simp [invoke, callFunc, h1, h3, hb]
  have leaves : Leaves P fn a2.tmps (RetOk B R) [{ target := .fn (.func g) cvs.toArray, args := #[] }] .returning w2 := by
    refine leaves_cons (by simp) hinv (hcalls.mono ?_);rintro e u w3 ⟨rfl, v, ρ3, S3, rfl, HS4, hr3, hu3⟩;have hs : settle FrameMode.returning = .returning := rfl;dsimp only;rw [hs];have HS5 := HS3.call (fun i k => by have k : i < nx + 16 := k; omega) (fun i hi k => by cases hi) HS4;have HS6 := HS2.call (fun i k => by have := hB i k; omega) (fun i hi k => by cases hi) HS5;have ES6 := ES5.call HS3.to0 (fun i k => .inl k) HS4;have hUw : (fun i => i < nx2 ∨ W8 nx2 i) = fun i => i < nx2 + 8 := by funext i; unfold W8; exact propext ⟨fun k => by omega, fun k => by omega⟩
    rw [hUw] at HS6 ES6;obtain ⟨us, q1, q2, q3⟩ := dresL_sound HS6 ES6 fn.results.toList l hl;refine ⟨(if h : us.toArray.size = 1 then us.toArray[0] else .tuple us.toArray), ?_, ?_⟩
    · rw [results_eq];simp only [Sem.run_bind, Sem.run_map, q1, Result.andThen_ok, Sem.run_pure]
    · have hrel := resD_rel (normA_rel (P := P) (ts := fn.resultTypes.toList) q2);have huse := resD_uses (normA_uses (P := P) (ts := fn.resultTypes.toList) q3);obtain ⟨S4, z1, z2, z3⟩ := frzAll_sound (pin := pin) hB F H3 H4 _ d S3 w3 _ hz HS6 hrel huse;exact ⟨_, ρ3, S4, d, H4, nx2 + 8, rfl, z1, z2, z3, hR⟩
  rcases hend with rfl | rfl
  · show Leaves P fn a2.tmps (RetOk B R) a2.defers .returning w2;rw [hdef]; exact leaves
  · show Leaves P fn a2.tmps (RetOk B R) a2.defers .returning w2;rw [hdef]; exact leaves
end
section
variable {P : Program} {N pin nx : Nat} {M : List Nat}
theorem contractW {g : FuncId} {fn : Func} {c : Code} (hf : P.funcs[g]? = some fn) {n : Nat} (hb : (fn.body, fn.ntmps) = (some c, n)) (hname : fn.name ≠ "runtime.NumGoroutine") (pin n0 : Nat) (C M : List Nat) {args : List DV} {h h' : LH} {d : DV} {m : Nat} (d0 : DV) (h0 : LH)
    (side : pin <= n0 /\ args.length <= n /\ DV.usesL (fun i => i < n0) args /\ usesH n0 h /\ keysC C pin h /\ allGe pin M /\ M.length <= 8 /\ d0.uses (okid h pin M) /\ usesM h pin M h0)
    (names : d0.mp (rf M m) = d /\ hmp (rf M m) h0 = h')
    (hd : DWp P fn n pin (fun d1 H1 => d1 = d0 /\ subH H1 h0) c (enum 0 args) h n0) : DCallsG P g C args (hget h) m d (hget h') := by
  obtain ⟨rfl, rfl⟩ := names;simp only [Prod.mk.injEq] at hb;obtain ⟨hb, rfl⟩ := hb;refine ⟨trivial, fun U ρ S w vs H0 hmU hr huU => CallsX.of ⟨fn, hf, by simp [hb], hname⟩ ?_⟩;have hC := keysC_get side.2.2.2.2.1;have hst := entry (N := fn.ntmps) H0 hC hr side.2.2.1 side.2.2.2.1 side.2.1;refine (calls_of_wp_defers hf hb (hd side.1 _ (fun i k => k) _ w hst)).mono ?_;rintro e w' ⟨v, ρ', S', d', H', nx, rfl, HS, hr', hu', rfl, hH⟩;obtain ⟨ρ2, k1, k2, k3⟩ := HSat.leave H0 hmU (allGe_get side.2.2.2.2.2.1) side.2.2.2.2.2.2.1 (HS.drop (subH_get hH)) side.2.2.2.2.2.2.2.2 hr' side.2.2.2.2.2.2.2.1;exact ⟨v, ρ2, S', rfl, k1, k2, k3⟩
theorem contractD {g : FuncId} {fn : Func} {c : Code} {n : Nat} {rs : List ResultVar} {ts : List TypeId} (hf : P.funcs[g]? = some fn) (hb : (fn.body, fn.ntmps, fn.results.toList, fn.resultTypes.toList) = (some c, n, rs, ts)) (hname : fn.name ≠ "runtime.NumGoroutine") (pin n0 : Nat) (F M : List Nat) {args : List DV} {h h' : LH} {d : DV} {m : Nat} (d0 : DV) (h0 : LH)
    (side : pin <= n0 /\ args.length <= n /\ DV.usesL (fun i => i < n0) args /\ usesH n0 h /\ keysC [] pin h /\ allGe pin M /\ M.length <= 8 /\ d0.uses (okid h pin M) /\ usesM h pin M h0)
    (names : d0.mp (rf M m) = d /\ hmp (rf M m) h0 = h')
    (hd : SWp P n pin c (endP P pin rs ts F fun d1 H1 => d1 = d0 /\ subH H1 h0) (enum 0 args) h n0) : DCallsD P g args (hget h) m d (hget h') :=
  DCallsD.intro hf hb hname pin n0 F M side.1 side.2.1 side.2.2.1 side.2.2.2.1 (keysC_get side.2.2.2.2.1) (allGe_get side.2.2.2.2.2.1) side.2.2.2.2.2.2.1 side.2.2.2.2.2.2.2.1 side.2.2.2.2.2.2.2.2 (hd.mono (endP_mono fun _ _ k => ⟨k.1, subH_get k.2⟩)) names.1 names.2
end
attribute [irreducible] DWp thenD endD
end Go.Eng
