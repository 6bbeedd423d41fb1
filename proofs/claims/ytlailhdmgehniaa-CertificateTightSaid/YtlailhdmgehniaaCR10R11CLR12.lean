/-
  Contracts of functions of the program, over the engine.
  No condition.
-/
import Derived.Test.YtlailhdmgehniaaCR5R6R7R8R9
import Derived.Test.YtlailhdmgehniaaCC33C34C35KSC36K1K2
import Derived.Test.YtlailhdmgehniaaCC0C1C2C3
namespace Go.Proofs.Ytlailhdmgehniaa
open Go.Eng
set_option linter.all false
attribute [local irreducible] DCallsG SWp Fct CallQ XCallQ LCallQ XLCallQ drun xrun

theorem check_all {p : Plan} {l : List (List Int)} (h : failK p l < l.length → False) (h0 : givenE p l = 0) : checkR p l = (true, 0, 0) := by
  unfold checkR
  rw [if_neg (fun k => k h0), if_neg h]
def raiseR (p : Plan) (l : List (List Int)) : List (List Int) × Int :=
  if ¬ givenE p l = 0 then ([], givenE p l) else if failK p l < l.length then ([], 13) else (outsR p l l.length, 0)
def prO (c : Nat) (rs : List (List Int)) : List (List DV) := List.replicate c nilRow ++ rows ilRow rs
theorem prO_len (c : Nat) (rs : List (List Int)) : (prO c rs).length = c + rs.length := by simp [prO, rows]
theorem prO_frz (c : Nat) (rs : List (List Int)) (o : Nat) (x : FV) : (prO c rs).map (DV.frzL o x) = prO c rs := by
  unfold prO; rw [List.map_append, frz_rows, List.map_replicate]; rfl
theorem prO_ren (c : Nat) (rs : List (List Int)) (a b : Nat) : (prO c rs).map (DV.renL a b) = prO c rs := by
  unfold prO; rw [List.map_append, ren_rows, List.map_replicate]; rfl
theorem prO_uses (c : Nat) (rs : List (List Int)) (U : Nat → Prop) : DV.usesL U (prO c rs).flatten := by
  unfold prO
  rw [List.flatten_append]
  refine usesL_append (usesL_iff.2 fun d hd => ?_) (uses_rows ilRow U rs)
  obtain ⟨r, hr, hd⟩ := List.mem_flatten.1 hd
  rw [List.eq_of_mem_replicate hr] at hd
  simp only [nilRow, List.mem_singleton] at hd
  subst hd; trivial
theorem prO_set (c : Nat) (rs : List (List Int)) (r : List Int) : (prO (c + 1) rs).set c [.p (.dat 1 (r.map inRow))] = prO c (r :: rs) := by
  unfold prO
  rw [List.set_append_left _ _ (by rw [List.length_replicate]; omega)]
  have e : (List.replicate (c + 1) nilRow).set c [.p (.dat 1 (r.map inRow))] = List.replicate c nilRow ++ [[.p (.dat 1 (r.map inRow))]] := by
    rw [List.replicate_succ', List.set_append_right _ _ (by rw [List.length_replicate]; omega), List.length_replicate, Nat.sub_self]; rfl
  rw [e, List.append_assoc]; rfl
theorem prO_nil (c : Nat) (rs : List (List Int)) : (prO (c + 1) rs).getD c [] = nilRow := by
  unfold prO
  rw [List.getD_eq_getElem?_getD, List.getElem?_append_left (by rw [List.length_replicate]; omega), List.getElem?_replicate, if_pos (by omega)]; rfl
theorem prO_row (c : Nat) (rs : List (List Int)) (h : 0 < rs.length) : (prO c rs).getD c [] = [.p (.dat 1 ((rs.getD 0 default).map inRow))] := by
  unfold prO
  rw [List.getD_eq_getElem?_getD, List.getElem?_append_right (by rw [List.length_replicate]; omega), List.length_replicate, Nat.sub_self]
  cases rs with
  | nil => cases h
  | cons r rs => rfl
def rowAt (O : List (List DV)) (i : Nat) : List Int := match O.getD i [] with
  | [.p (.dat 1 l)] => l.map fun r => match r with
    | [.lit (.int .i64 z)] => z
    | _ => 0
  | _ => []
theorem rowAt_eq {O : List (List DV)} {i : Nat} {r : List Int} (h : O.getD i [] = [.p (.dat 1 (r.map inRow))]) : rowAt O i = r := by
  unfold rowAt
  rw [h]
  show (r.map inRow).map _ = r
  rw [List.map_map]
  exact List.map_id r
theorem own_row (O : List (List DV)) (i : Nat) [h : Nonempty (O.getD i [] = [.p (.dat 1 ((rowAt O i).map inRow))])] : O.getD i [] = [.p (.dat 1 ((rowAt O i).map inRow))] := h.elim id
theorem own_185 (O : List (List DV)) (i : Nat) [h : Nonempty (O.getD i [] = [.gl 185])] : O.getD i [] = [.gl 185] := h.elim id
attribute [push_cast] own_row own_185
theorem getD_set_ne2 (O : List (List DV)) (i k : Nat) (x : List DV) (h : ¬ k = i) : (O.set i x).getD k [] = O.getD k [] := by
  rw [List.getD_eq_getElem?_getD, List.getElem?_set_ne (fun e => h e.symm), ← List.getD_eq_getElem?_getD]
theorem getD_set_eq2 (O : List (List DV)) (i : Nat) (x : List DV) (h : i < O.length) : (O.set i x).getD i [] = x := by
  rw [List.getD_eq_getElem?_getD, List.getElem?_set_self h]; rfl
theorem set_uses {O : List (List DV)} {U : Nat → Prop} (h : DV.usesL U O.flatten) {K i : Nat} (hK : U K) : DV.usesL U (O.set i [.gl K]).flatten :=
  usesL_iff.2 fun d hd => by
    obtain ⟨r, hr, hd⟩ := List.mem_flatten.1 hd
    rcases List.mem_or_eq_of_mem_set hr with hr | rfl
    · exact usesL_iff.1 h d (List.mem_flatten.2 ⟨r, hr, hd⟩)
    · simp only [List.mem_singleton] at hd; subst hd; exact hK
abbrev hRz (O : List (List DV)) (X : List Int) (i b : Int) : LH := [(152, .lst 22 1 O), (160, .blk 29 [.gl 152]), (200, .blk 3 [li i]), (265, inLt X), (322, .blk 3 [li b])]
def rzV (y c b : Int) : Int := if y = -1 then b else if b = -1 ∨ c + y < b then c + y else b
structure ROk (O : List (List DV)) : Prop where
  uses : ∀ U : Nat → Prop, U 265 → DV.usesL U O.flatten
  mp : ∀ r : Nat → Nat, r 265 = 265 → O.map (DV.mpL r) = O
  ren : ∀ a b : Nat, ¬ 265 = a → O.map (DV.renL a b) = O
set_option maxHeartbeats 1000000 in
theorem cloneI_f (l : List Int) (m : Nat) (hl : l.length ≤ 1048576) : DCallsG Try.prog 12 [] [ints l] (hget []) m (.gl m) (hget [(m, inLt l)]) := by
  refine contract (n := 8) (rs := [.tmp 2]) (ts := [22]) Try.func12 rfl (by decide) 0 0 [] [] [24] (.gl 24) [(24, inLt l)] (by (exact SD)) (by (exact SD)) ?_
  cases l with
  | nil =>
    (repeat' (first | refine swp_seq [0, 2, 4] ?_ | (first | refine rF (fun hf => ?_) | refine tN ?_ | refine swp_skip ?_ | refine swp_block ?_ | refine swp_scope ?_ | refine blockK_normal ?_ | refine scopeK_normal ?_ | (refine cB (fun hc => ?_) (fun hc => ?_) <;> first | exact False.elim hc | exact absurd hc Bool.false_ne_true | exact absurd hc.symm Bool.false_ne_true | skip) | refine cU ?_ ?_)))
    · (refine sN 2 3 1 ?_)
      (refine sR 32 24 ?_)
      (repeat' (first | refine swp_seq [0, 2, 4] ?_ | (first | refine rF (fun hf => ?_) | refine tN ?_ | refine swp_skip ?_ | refine swp_ret ?_ | refine swp_exit ?_ | refine swp_block ?_ | refine swp_scope ?_ | refine thenK_ret ?_ | refine thenK_exit ?_ | refine blockK_normal ?_ | refine blockK_ret ?_ | refine blockK_here ?_ | refine bX ?_ | refine scopeK_normal ?_ | refine scopeK_ret ?_ | refine scopeK_exit ?_ | refine loopK_ret ?_ | refine loopK_exit ?_ | refine dF mixed ?_ | (refine cB (fun hc => ?_) (fun hc => ?_) <;> first | exact False.elim hc | exact absurd hc Bool.false_ne_true | exact absurd hc.symm Bool.false_ne_true | skip) | refine cU ?_ ?_)))
      exact DVS
    · (repeat' (first | refine swp_seq [0, 2, 4] ?_ | (first | refine rF (fun hf => ?_) | refine tN ?_ | refine swp_skip ?_ | refine swp_ret ?_ | refine swp_exit ?_ | refine swp_block ?_ | refine swp_scope ?_ | refine thenK_ret ?_ | refine thenK_exit ?_ | refine blockK_normal ?_ | refine blockK_ret ?_ | refine blockK_here ?_ | refine bX ?_ | refine scopeK_normal ?_ | refine scopeK_ret ?_ | refine scopeK_exit ?_ | refine loopK_ret ?_ | refine loopK_exit ?_ | refine dF mixed ?_ | (refine cB (fun hc => ?_) (fun hc => ?_) <;> first | exact False.elim hc | exact absurd hc Bool.false_ne_true | exact absurd hc.symm Bool.false_ne_true | skip) | refine cU ?_ ?_)))
      exact DVS
  | cons b l =>
    (repeat' (first | refine swp_seq [0, 2, 4] ?_ | (first | refine rF (fun hf => ?_) | refine tN ?_ | refine swp_skip ?_ | refine swp_ret ?_ | refine swp_exit ?_ | refine swp_block ?_ | refine swp_scope ?_ | refine thenK_ret ?_ | refine thenK_exit ?_ | refine blockK_normal ?_ | refine blockK_ret ?_ | refine blockK_here ?_ | refine bX ?_ | refine scopeK_normal ?_ | refine scopeK_ret ?_ | refine scopeK_exit ?_ | refine loopK_ret ?_ | refine loopK_exit ?_ | refine dF mixed ?_ | (refine cB (fun hc => ?_) (fun hc => ?_) <;> first | exact False.elim hc | exact absurd hc Bool.false_ne_true | exact absurd hc.symm Bool.false_ne_true | skip) | refine cU ?_ ?_)))
    exact DVS
theorem own_265 (O : List (List DV)) (i : Nat) [h : Nonempty (O.getD i [] = [.gl 265])] : O.getD i [] = [.gl 265] := h.elim id
attribute [push_cast] own_265
theorem prO_mp (c : Nat) (rs : List (List Int)) (r : Nat → Nat) : (prO c rs).map (DV.mpL r) = prO c rs := by
  unfold prO; rw [List.map_append, rows_mp, List.map_replicate]; rfl
theorem prO_ok (c i : Nat) (rs : List (List Int)) : ROk ((prO c rs).set i [.gl 265]) where
  uses U h := set_uses (prO_uses _ _ _) h
  mp r h := by rw [List.map_set, prO_mp]; simp only [DV.mpL, DV.mp, h]
  ren a b h := by rw [List.map_set, prO_ren]; simp only [DV.renL, DV.ren, rnm, if_neg h]
end Go.Proofs.Ytlailhdmgehniaa
