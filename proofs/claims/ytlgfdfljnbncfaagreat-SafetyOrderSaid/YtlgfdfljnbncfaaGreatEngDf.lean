/-
  A part of the engine that reckons calls at the level of data.
  No condition.
-/

import Derived.Test.YtlgfdfljnbncfaaGreatEngV
import Derived.Test.YtlgfdfljnbncfaaGreatEngS
import Derived.Defers
namespace Go.Eng
set_option linter.all false
open Go.RowKit
def DCallsD (P : Program) (g : FuncId) (args : List DV) (h : Nat -> Option HV) (m : Nat) (d : DV) (h' : Nat -> Option HV) : Prop :=
  callable P g /\ ∀ (U : Nat -> Prop) (ρ : Nat -> Hd) (S : Nat -> Prop) (w : World) (vs : List Value), HSat0 U ρ S w h -> (∀ i, W8 m i -> ¬ U i) -> RelL ρ S w args vs -> DV.usesL U args ->
    CallsD P g vs.toArray .returning w fun e u w' => u = .returning /\ ∃ v ρ' S', e = .returned v /\ HSat (Base.of (fun i => i ∈ ([] : List Nat)) U ρ S w h) (fun i => U i ∨ W8 m i) ρ' S' w' h' /\ Rel ρ' S' w' d v /\ d.uses (fun i => U i ∨ W8 m i)
theorem DCallsD.intro {P : Program} {g : FuncId} {fn : Func} {c : Code} {n : Nat} {rs : List ResultVar} {ts : List TypeId} (hf : P.funcs[g]? = some fn) (hb : (fn.body, fn.ntmps, fn.results.toList, fn.resultTypes.toList) = (some c, n, rs, ts)) (hname : fn.name ≠ "runtime.NumGoroutine") (pin n0 : Nat) (F M : List Nat) {args : List DV} {h h0 h' : LH} {d d0 : DV} {m : Nat}
    (hp : pin <= n0) (hN : args.length <= n) (hu : DV.usesL (fun i => i < n0) args) (hh : usesH n0 h) (hC : ∀ i v, hget h i = some v -> i ∈ ([] : List Nat) ∨ i < pin) (hMp : ∀ i, i ∈ M -> pin <= i) (hMl : M.length <= 8) (hdu : d0.uses (okid h pin M)) (hh' : usesM h pin M h0)
    (hd : SWp P n pin c (endP P pin rs ts F fun d1 H1 => d1 = d0 /\ ∀ i v, hget h0 i = some v -> hget H1 i = some v) (enum 0 args) h n0)
    (ed : d0.mp (rf M m) = d) (eh : hmp (rf M m) h0 = h') : DCallsD P g args (hget h) m d (hget h') := by
  subst ed eh;simp only [Prod.mk.injEq] at hb;obtain ⟨hb, rfl, rfl, rfl⟩ := hb;refine ⟨⟨fn, hf, by simp [hb], hname⟩, fun U ρ S w vs H0 hmU hr huU => ?_⟩;refine (callsD_of_wp hf hb (body_wp hf hb hp hN hu hh hd H0 hC hr)).mono ?_;rintro e u w' ⟨rfl, v, ρ', S', d', H', nx, rfl, HS, hr', hu', rfl, hH⟩;obtain ⟨ρ2, k1, k2, k3⟩ := HSat.leave H0 hmU hMp hMl (HS.drop hH) hh' hr' hdu;exact ⟨rfl, v, ρ2, S', rfl, k1, k2, k3⟩
section
variable {P : Program} {N pin : Nat}
def RetOk (B : Base) (R : DV -> LH -> Prop) : Ending -> World -> Prop := fun e w' =>
  ∃ v ρ' S' d' H' nx, e = .returned v /\ HSat B (fun i => i < nx) ρ' S' w' (hget H') /\ Rel ρ' S' w' d' v /\ d'.uses (fun i => i < nx) /\ R d' H'
def DWp (P : Program) (fn : Func) (N pin : Nat) (R : DV -> LH -> Prop) (c : Code) (A : LE) (H : LH) (nx : Nat) : Prop :=
  pin <= nx -> ∀ (B : Base), (∀ i, B.U0 i -> i < pin) -> ∀ (a : Act) (w : World), St B N nx A H a w -> c.wp P (bodyPostD P fn (RetOk B R)) a w
def thenD (P : Program) (fn : Func) (N pin : Nat) (R : DV -> LH -> Prop) (G : List Nat) (y : Code) : Exit -> LE -> LH -> Nat -> Prop := fun e A H nx =>
  match e with
  | .normal => DWp P fn N pin R y (ekeep A G) H nx
  | _ => False
def endD (P : Program) (pin : Nat) (rs : List ResultVar) (ts : List TypeId) (F : List Nat) (g : FuncId) (caps : List DV) (R : DV -> LH -> Prop) : Exit -> LE -> LH -> Nat -> Prop := fun e A H nx =>
  (e = .normal ∨ e = .ret) /\ ∃ H2 d1, DCallsD P g caps (hget H) nx d1 (hget H2) /\ ∃ l, dresL P A H2 rs = some l /\ ∃ H3 d, frzAll pin F H2 (resD (normA P ts l)) = some (H3, d) /\ R d H3
end
section
variable {P : Program} {N pin nx : Nat} {M : List Nat}
end
attribute [irreducible] DWp thenD endD
end Go.Eng
