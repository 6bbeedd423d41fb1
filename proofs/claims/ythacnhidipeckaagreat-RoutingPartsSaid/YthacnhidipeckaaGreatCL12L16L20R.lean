/-
  Contracts of functions of the program, over the engine.
  No condition.
-/
import Derived.Test.YthacnhidipeckaaGreatCL9L10L11
namespace Go.Proofs.YthacnhidipeckaaGreat
open Go.Eng
set_option linter.all false
attribute [local irreducible] DCallsG SWp Fct CallQ XCallQ LCallQ XLCallQ drun xrun
class ModOk (a b : Int) (q : outParam Int) : Prop where
  out : a.tmod b = q
theorem mod_ok {a b q : Int} [h : ModOk a b q] : a.tmod b = q := h.out
class UDivOk (a b : Int) (q : outParam Int) : Prop where
  out : IntKind.u64.wrap (a.tdiv b) = q
theorem udiv_ok {a b q : Int} [h : UDivOk a b q] : IntKind.u64.wrap (a.tdiv b) = q := h.out
attribute [push_cast] mod_ok udiv_ok
def wishI (q s : Int) : Int × Int := if q < 0 ∨ 1099511627776 < q ∨ s < 1 ∨ 86400 < s then (0, 2) else (min (q * s) 1125899906842624, 0)
theorem wish_fits {q s : Int} (h1 : 0 ≤ q) (h2 : q ≤ 1099511627776) (h3 : 1 ≤ s) (h4 : s ≤ 86400) : 0 ≤ q * s ∧ q * s ≤ 94997804639846400 :=
  ⟨Int.mul_nonneg h1 (by omega), Int.mul_le_mul h2 h4 (by omega) (by omega)⟩
theorem wish_f (q s : Int) (m : Nat) : DCalls Tryz.prog 122 [li q, li s] (hget []) m (.tup [li (wishI q s).1, li (wishI q s).2]) (hget []) := by
  unfold wishI
  split
  · next h =>
    refine pureC (n := 24) (rs := [.tmp 4, .tmp 5]) (ts := [3, 37]) Tryz.func122 rfl (by decide) [] (by (exact SD)) ?_
    by_cases h1 : q < 0
    · (have := Nonempty.intro h1)
      (repeat' (first | refine swp_seq [0, 1, 4, 5, 19] ?_ | refine st2 ?_ | (show Fct ..; refine fctI (fun hf => ?_)) | (show SWp _ _ _ (.cond _ _ _) _ _ _ _; first | refine cB (fun hc => ?_) (fun hc => ?_) | refine cU ?_ ?_)))
      exact DVR
    (have := Nonempty.intro h1)
    by_cases h2 : 1099511627776 < q
    · (have := Nonempty.intro h2)
      (repeat' (first | refine swp_seq [0, 1, 4, 5, 19] ?_ | refine st2 ?_ | (show Fct ..; refine fctI (fun hf => ?_)) | (show SWp _ _ _ (.cond _ _ _) _ _ _ _; first | refine cB (fun hc => ?_) (fun hc => ?_) | refine cU ?_ ?_)))
      exact DVR
    (have := Nonempty.intro h2)
    by_cases h3 : s < 1
    · (have := Nonempty.intro h3)
      (repeat' (first | refine swp_seq [0, 1, 4, 5, 19] ?_ | refine st2 ?_ | (show Fct ..; refine fctI (fun hf => ?_)) | (show SWp _ _ _ (.cond _ _ _) _ _ _ _; first | refine cB (fun hc => ?_) (fun hc => ?_) | refine cU ?_ ?_)))
      exact DVR
    (have := Nonempty.intro h3)
    have h4 : 86400 < s := by omega
    (have := Nonempty.intro h4)
    (repeat' (first | refine swp_seq [0, 1, 4, 5, 19] ?_ | refine st2 ?_ | (show Fct ..; refine fctI (fun hf => ?_)) | (show SWp _ _ _ (.cond _ _ _) _ _ _ _; first | refine cB (fun hc => ?_) (fun hc => ?_) | refine cU ?_ ?_)))
    exact DVR
  · next h =>
    have h1 : ¬ q < 0 := by omega
    have h2 : ¬ 1099511627776 < q := by omega
    have h3 : ¬ s < 1 := by omega
    have h4 : ¬ 86400 < s := by omega
    (have := Nonempty.intro h1)
    (have := Nonempty.intro h2)
    (have := Nonempty.intro h3)
    (have := Nonempty.intro h4)
    have hw := wish_fits (q := q) (s := s) (by omega) (by omega) (by omega) (by omega)
    have i1 : MulOk q s (q * s) := ⟨i64w (by omega)⟩
    generalize q * s = p at *
    refine pureC (n := 24) (rs := [.tmp 4, .tmp 5]) (ts := [3, 37]) Tryz.func122 rfl (by decide) [] (by (exact SD)) ?_
    (repeat' (first | refine swp_seq [0, 1, 4, 5, 19] ?_ | refine st2 ?_ | (show Fct ..; refine fctI (fun hf => ?_)) | (show SWp _ _ _ (.cond _ _ _) _ _ _ _; first | refine cB (fun hc => ?_) (fun hc => ?_) | refine cU ?_ ?_)))
    exact DVR
theorem limI_min (q : Nat) : limI q = min (q : Int) 1099511627776 := by
  unfold limI bigB
  by_cases h : 1099511627776 < q
  · rw [decide_eq_true h, if_pos rfl]; omega
  · rw [decide_eq_false h, if_neg (by decide)]; omega
theorem limI_in (q : Nat) : 0 ≤ limI q ∧ limI q ≤ 1099511627776 := by rw [limI_min]; omega
theorem optL_in (o : Option Nat) : 0 ≤ optL o ∧ optL o ≤ 1099511627776 := by
  cases o with
  | none => exact ⟨by decide, by decide⟩
  | some q => exact limI_in q
theorem pumpQ_max {x : Link} {s d : Nat} (hp : pumpB x = true) (hs : s ≤ 1000) : (pumpQ x s d : Int) ≤ 1099511627776 := by
  unfold pumpQ
  have k := (pumpB_in hp).2.2.2.2.2.2 d
  have := pumpQ_le (c := (floorT x.curve d).toNat) (by omega) hs
  omega
theorem flowI_in {n : Net} {l : List Sect} {x : Link} {up down : Int} {s : Nat} {on : Bool} (h : BtwIn n l x up down s) : 0 ≤ flowI n l x up down s on ∧ flowI n l x up down s on ≤ 1099511627776 := by
  unfold flowI
  by_cases k1 : x.kind = 1
  · rw [if_pos k1]; exact limI_in _
  by_cases k2 : x.kind = 2
  · rw [if_neg k1, if_pos k2]; exact optL_in _
  by_cases k3 : x.kind = 3
  · rw [if_neg k1, if_neg k2, if_pos k3]; exact optL_in _
  rw [if_neg k1, if_neg k2, if_neg k3]
  have k4 : x.kind = 4 := by have := kind_in h.xr; omega
  cases on
  · rw [if_neg (by decide)]; exact ⟨by decide, by decide⟩
  · rw [if_pos rfl]
    exact ⟨by omega, pumpQ_max (by unfold pumpB; simp [k4, h.xr]) h.se⟩
def intC (i : Int) : List PV := [.lit (.int .i64 i)]
theorem intC_map (i : Int) : (intC i).map DV.p = [.p (.lit (.int .i64 i))] := rfl
attribute [push_cast] intC_map
theorem conLinkC_f (g : FuncId) (t : TypeId) (cs : List PV) (p : Link → Bool) (l : List Link) (hl : l.length ≤ 281474976710656) (hg : ∀ x, x ∈ l → ∀ m, DCalls Tryz.prog g [linkD x, .ptr 0 0] (hget [(0, .blk t (cs.map .p))]) m (lb (p x)) (hget [(0, .blk t (cs.map .p))])) :
    DCalls Tryz.prog 49 [linkL l, .clo g [.ptr 0 0]] (hget [(0, .blk t (cs.map .p))]) 1 (lb (l.any p)) (hget [(0, .blk t (cs.map .p))]) := by
  have ci := idxLinkC_f g t cs p l hl hg
  refine contract (n := 9) (rs := [.tmp 4]) (ts := [4]) Tryz.func49 rfl (by decide) 1 1 [] [] [] (lb (l.any p)) [(0, .blk t (cs.map .p))] (by (exact SD)) (by (exact SD)) ?_
  (repeat' (first | refine swp_seq [0, 1, 4] ?_ | refine st2 ?_ | (show Fct ..; refine fctI (fun hf => ?_)) | (show SWp _ _ _ (.cond _ _ _) _ _ _ _; first | refine cB (fun hc => ?_) (fun hc => ?_) | refine cU ?_ ?_)))
  (refine cQT [0] (fun hcc => ci) ?_)
  (repeat' (first | refine swp_seq [0, 1, 4] ?_ | refine st2 ?_ | (show Fct ..; refine fctI (fun hf => ?_)) | (show SWp _ _ _ (.cond _ _ _) _ _ _ _; first | refine cB (fun hc => ?_) (fun hc => ?_) | refine cU ?_ ?_)))
  (refine DVQ ?_)
  rw [idxI_any]

end Go.Proofs.YthacnhidipeckaaGreat
