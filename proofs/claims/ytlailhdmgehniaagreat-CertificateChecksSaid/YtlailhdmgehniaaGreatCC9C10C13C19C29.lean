/-
  Contracts of functions of the program, over the engine.
  No condition.
-/
import Derived.Test.YtlailhdmgehniaaGreatCC2C3C6
import Derived.Test.YtlailhdmgehniaaGreatCC0C1
namespace Go.Proofs.YtlailhdmgehniaaGreat
open Go.Eng
set_option linter.all false
attribute [local irreducible] DCallsG SWp Fct CallQ XCallQ LCallQ XLCallQ drun xrun

def exP : Plan := ⟨5, 10, 0, [5], [0, 4], [⟨0, 0⟩, ⟨4, 8⟩], 3⟩
theorem exP_1 : exP.start = 5 := rfl
theorem exP_2 : exP.cap = 10 := rfl
theorem exP_3 : exP.res = 0 := rfl
theorem exP_4 : exP.inf = [5] := rfl
theorem exP_5 : exP.rel = [0, 4] := rfl
theorem exP_6 : exP.pen = [⟨0, 0⟩, ⟨4, 8⟩] := rfl
theorem exP_7 : exP.wei = 3 := rfl
attribute [push_cast] exP_1 exP_2 exP_3 exP_4 exP_5 exP_6 exP_7
theorem idx_c0 (a : List PV) (l : List (List PV)) : idx (a :: l) 0 = a := rfl
theorem idx_c1 (a b : List PV) (l : List (List PV)) : idx (a :: b :: l) 1 = b := rfl
theorem idx_c2 (a b c : List PV) (l : List (List PV)) : idx (a :: b :: c :: l) 2 = c := rfl
theorem idx_c3 (a b c d : List PV) (l : List (List PV)) : idx (a :: b :: c :: d :: l) 3 = d := rfl
theorem idx_m1 (a : List PV) (l : List (List PV)) : idx (a :: l) (-1) = a := rfl
theorem idx_m2 (a : List PV) (l : List (List PV)) : idx (a :: l) (-2) = a := rfl
attribute [push_cast] idx_m1 idx_m2 idx_c0 idx_c1 idx_c2 idx_c3 List.map_cons List.map_nil List.length_cons List.length_nil decide_true decide_false
set_option maxRecDepth 20000 in
theorem example_f (m : Nat) : DCalls Tryz.prog 35 [] (hget []) m (planD exP) (hget []) := by
  refine pureC (n := 7) (rs := [.cell 0 26]) (ts := [26]) Tryz.func35 rfl (by decide) [8, 16, 40] (by (exact SD)) ?_
  (repeat' (first | refine swp_seq [0] ?_ | refine st2 ?_ | (show Fct ..; refine fctI (fun hf => ?_)) | (show SWp _ _ _ (.cond _ _ _) _ _ _ _; first | refine cB (fun hc => ?_) (fun hc => ?_) | refine cU ?_ ?_)))
  all_goals first | rfl | (exact DVR)
theorem within_f (n a b : Int) (m : Nat) : DCalls Tryz.prog 28 [li n, li a, li b] (hget []) m (lb (decide (a ≤ n) && decide (n ≤ b))) (hget []) := by
  refine pureC (n := 15) (rs := [.tmp 6]) (ts := [4]) Tryz.func28 rfl (by decide) [] (by (exact SD)) ?_
  (repeat' (first | refine swp_seq [0, 1, 2, 6] ?_ | refine st2 ?_ | (show Fct ..; refine fctI (fun hf => ?_)) | (show SWp _ _ _ (.cond _ _ _) _ _ _ _; first | refine cB (fun hc => ?_) (fun hc => ?_) | refine cU ?_ ?_)))
  exact DVR
theorem fits_f (n : Int) (m : Nat) : DCalls Tryz.prog 74 [li n] (hget []) m (lb (decide (-1125899906842624 ≤ n) && decide (n ≤ 1125899906842624))) (hget []) := by
  refine pureC (n := 9) (rs := [.tmp 2]) (ts := [4]) Tryz.func74 rfl (by decide) [] (by (exact SD)) ?_
  (repeat' (first | refine swp_seq [0, 2] ?_ | refine st2 ?_ | (show Fct ..; refine fctI (fun hf => ?_)) | (show SWp _ _ _ (.cond _ _ _) _ _ _ _; first | refine cB (fun hc => ?_) (fun hc => ?_) | refine cU ?_ ?_)))
  exact DVR
theorem fits_a (n : Int) (m : Nat) (h1 : -1125899906842624 ≤ n) (h2 : n ≤ 1125899906842624) : DCalls Tryz.prog 74 [li n] (hget []) m (lb true) (hget []) := by
  have := fits_f n m
  rwa [decide_eq_true h1, decide_eq_true h2] at this
theorem wit_a (n a b : Int) (m : Nat) (h1 : a ≤ n) (h2 : n ≤ b) : DCalls Tryz.prog 28 [li n, li a, li b] (hget []) m (lb true) (hget []) := by
  have := within_f n a b m
  rwa [decide_eq_true h1, decide_eq_true h2] at this
set_option maxRecDepth 20000 in
set_option maxHeartbeats 4000000 in
theorem tValid_x (m : Nat) : DCalls Tryz.prog 68 [knotL [⟨0, 0⟩, ⟨4, 8⟩]] (hget []) m (lb true) (hget []) := by
  refine pureC (n := 57) (rs := [.tmp 2]) (ts := [4]) Tryz.func68 rfl (by decide) [] (by (exact SD)) ?_
  (repeat' (first | (show SWp _ _ _ (.loop _) _ _ _ _; refine swp_rounds (lwp_round ?_)) | (show roundK ..; first | refine roundK_ret ?_ | refine roundK_exit ?_ | refine roundK_normal [0, 2, 3, 4, 12, 13, 14, 15, 16, 55] (by (refine DVQ ?_) <;> rfl) ?_) | refine swp_seq [0, 2, 3, 4, 12, 13, 14, 15, 16, 55] ?_ | refine st1 ?_ | (show CallQ ..; first | refine cF ?_ | refine cQ (fun hcc => (by first | exact fits_a _ _ (by decide) (by decide))) ?_ | (refine lP ?_; refine lQ (fun hcc m => (by first | exact fits_a _ _ (by decide) (by decide))) ?_)) | (show Fct ..; refine fctI (fun hf => ?_)) | (show XCallQ ..; first | refine xcF ?_ | refine xQ (fun hcc => (by first | exact fits_a _ _ (by decide) (by decide))) ?_ | (refine xlP ?_; refine xlQ (fun hcc m => (by first | exact fits_a _ _ (by decide) (by decide))) ?_)) | (show SWp _ _ _ (.region _ _ true) _ _ _ _; refine xG mixed [] ?_) | (show SWp _ _ _ (.cond _ _ _) _ _ _ _; first | (refine cB (fun hc => ?_) (fun hc => ?_) <;> first | exact False.elim hc | exact absurd hc Bool.false_ne_true | exact absurd hc.symm Bool.false_ne_true | skip) | refine cU ?_ ?_)))
  all_goals first | rfl | (exact DVR)
def cmpI (a x : Int) : Int := if a < x then -1 else if x < a then 1 else 0
theorem cmp_f (k : Knot) (x : Int) (m : Nat) : DCalls Tryz.prog 76 [knotD k, li x] (hget []) m (li (cmpI k.x x)) (hget []) := by
  unfold cmpI
  by_cases h1 : k.x < x
  · (have := Nonempty.intro h1)
    rw [if_pos h1]
    refine pureC (n := 15) (rs := [.tmp 4]) (ts := [3]) Tryz.func76 rfl (by decide) [] (by (exact SD)) ?_
    (repeat' (first | refine swp_seq [0, 1, 2, 4, 5, 10] ?_ | refine st2 ?_ | (show Fct ..; refine fctI (fun hf => ?_)) | (show SWp _ _ _ (.cond _ _ _) _ _ _ _; first | refine cB (fun hc => ?_) (fun hc => ?_) | refine cU ?_ ?_)))
    exact DVR
  · (have := Nonempty.intro h1)
    rw [if_neg h1]
    by_cases h2 : x < k.x
    · (have := Nonempty.intro h2)
      rw [if_pos h2]
      refine pureC (n := 15) (rs := [.tmp 4]) (ts := [3]) Tryz.func76 rfl (by decide) [] (by (exact SD)) ?_
      (repeat' (first | refine swp_seq [0, 1, 2, 4, 5, 10] ?_ | refine st2 ?_ | (show Fct ..; refine fctI (fun hf => ?_)) | (show SWp _ _ _ (.cond _ _ _) _ _ _ _; first | refine cB (fun hc => ?_) (fun hc => ?_) | refine cU ?_ ?_)))
      exact DVR
    · (have := Nonempty.intro h2)
      rw [if_neg h2]
      refine pureC (n := 15) (rs := [.tmp 4]) (ts := [3]) Tryz.func76 rfl (by decide) [] (by (exact SD)) ?_
      (repeat' (first | refine swp_seq [0, 1, 2, 4, 5, 10] ?_ | refine st2 ?_ | (show Fct ..; refine fctI (fun hf => ?_)) | (show SWp _ _ _ (.cond _ _ _) _ _ _ _; first | refine cB (fun hc => ?_) (fun hc => ?_) | refine cU ?_ ?_)))
      exact DVR
theorem cmp_00 (m : Nat) : DCalls Tryz.prog 76 [knotD ⟨0, 0⟩, li 0] (hget []) m (li 0) (hget []) := cmp_f ⟨0, 0⟩ 0 m
theorem cmp_40 (m : Nat) : DCalls Tryz.prog 76 [knotD ⟨4, 8⟩, li 0] (hget []) m (li 1) (hget []) := cmp_f ⟨4, 8⟩ 0 m
theorem cmp_04 (m : Nat) : DCalls Tryz.prog 76 [knotD ⟨0, 0⟩, li 4] (hget []) m (li (-1)) (hget []) := cmp_f ⟨0, 0⟩ 4 m
theorem cmp_44 (m : Nat) : DCalls Tryz.prog 76 [knotD ⟨4, 8⟩, li 4] (hget []) m (li 0) (hget []) := cmp_f ⟨4, 8⟩ 4 m
theorem half_2 : IntKind.i64.wrap ((IntKind.u64.wrap 2).fdiv (2 ^ min 1 IntKind.u64.bits)) = 1 := by decide
theorem half_1 : IntKind.i64.wrap ((IntKind.u64.wrap 1).fdiv (2 ^ min 1 IntKind.u64.bits)) = 0 := by decide
attribute [push_cast] half_2 half_1
set_option maxRecDepth 20000 in
set_option maxHeartbeats 4000000 in
theorem bin_0 (m : Nat) : DCalls Tryz.prog 75 [knotL [⟨0, 0⟩, ⟨4, 8⟩], li 0, .clo 76 []] (hget []) m (.tup [li 0, lb true]) (hget []) := by
  refine pureC (n := 49) (rs := [.tmp 6, .tmp 7]) (ts := [3, 4]) Tryz.func75 rfl (by decide) [] (by (exact SD)) ?_
  (repeat' (first | (show SWp _ _ _ (.loop _) _ _ _ _; refine swp_rounds (lwp_round ?_)) | (show roundK ..; first | refine roundK_ret ?_ | refine roundK_exit ?_ | refine roundK_normal [0, 1, 2, 6, 7, 8, 9, 10, 11, 17, 31] (by (refine DVQ ?_) <;> rfl) ?_) | refine swp_seq [0, 1, 2, 6, 7, 8, 9, 10, 11, 17, 31] ?_ | refine st1 ?_ | (show CallQ ..; first | refine cF ?_ | refine cQ (fun hcc => (by first | exact cmp_00 _ | exact cmp_40 _)) ?_ | (refine lP ?_; refine lQ (fun hcc m => (by first | exact cmp_00 _ | exact cmp_40 _)) ?_)) | (show Fct ..; refine fctI (fun hf => ?_)) | (show XCallQ ..; first | refine xcF ?_ | refine xQ (fun hcc => (by first | exact cmp_00 _ | exact cmp_40 _)) ?_ | (refine xlP ?_; refine xlQ (fun hcc m => (by first | exact cmp_00 _ | exact cmp_40 _)) ?_)) | (show SWp _ _ _ (.region _ _ true) _ _ _ _; refine xG mixed [] ?_) | (show SWp _ _ _ (.cond _ _ _) _ _ _ _; first | (refine cB (fun hc => ?_) (fun hc => ?_) <;> first | exact False.elim hc | exact absurd hc Bool.false_ne_true | exact absurd hc.symm Bool.false_ne_true | skip) | refine cU ?_ ?_)))
  all_goals first | rfl | (exact DVR)
set_option maxRecDepth 20000 in
set_option maxHeartbeats 4000000 in
theorem bin_4 (m : Nat) : DCalls Tryz.prog 75 [knotL [⟨0, 0⟩, ⟨4, 8⟩], li 4, .clo 76 []] (hget []) m (.tup [li 1, lb true]) (hget []) := by
  refine pureC (n := 49) (rs := [.tmp 6, .tmp 7]) (ts := [3, 4]) Tryz.func75 rfl (by decide) [] (by (exact SD)) ?_
  (repeat' (first | (show SWp _ _ _ (.loop _) _ _ _ _; refine swp_rounds (lwp_round ?_)) | (show roundK ..; first | refine roundK_ret ?_ | refine roundK_exit ?_ | refine roundK_normal [0, 1, 2, 6, 7, 8, 9, 10, 11, 17, 31] (by (refine DVQ ?_) <;> rfl) ?_) | refine swp_seq [0, 1, 2, 6, 7, 8, 9, 10, 11, 17, 31] ?_ | refine st1 ?_ | (show CallQ ..; first | refine cF ?_ | refine cQ (fun hcc => (by first | exact cmp_04 _ | exact cmp_44 _)) ?_ | (refine lP ?_; refine lQ (fun hcc m => (by first | exact cmp_04 _ | exact cmp_44 _)) ?_)) | (show Fct ..; refine fctI (fun hf => ?_)) | (show XCallQ ..; first | refine xcF ?_ | refine xQ (fun hcc => (by first | exact cmp_04 _ | exact cmp_44 _)) ?_ | (refine xlP ?_; refine xlQ (fun hcc m => (by first | exact cmp_04 _ | exact cmp_44 _)) ?_)) | (show SWp _ _ _ (.region _ _ true) _ _ _ _; refine xG mixed [] ?_) | (show SWp _ _ _ (.cond _ _ _) _ _ _ _; first | (refine cB (fun hc => ?_) (fun hc => ?_) <;> first | exact False.elim hc | exact absurd hc Bool.false_ne_true | exact absurd hc.symm Bool.false_ne_true | skip) | refine cU ?_ ?_)))
  all_goals first | rfl | (exact DVR)
set_option maxRecDepth 20000 in
set_option maxHeartbeats 4000000 in
theorem piece_0 (m : Nat) : DCalls Tryz.prog 69 [knotL [⟨0, 0⟩, ⟨4, 8⟩], li 0] (hget []) m (.tup [li 0, li 0, li 1]) (hget []) := by
  refine pureC (n := 110) (rs := [.tmp 4, .tmp 5, .tmp 6]) (ts := [3, 3, 3]) Tryz.func69 rfl (by decide) [] (by (exact SD)) ?_
  (repeat' (first | (show SWp _ _ _ (.loop _) _ _ _ _; refine swp_rounds (lwp_round ?_)) | (show roundK ..; first | refine roundK_ret ?_ | refine roundK_exit ?_ | refine roundK_normal [0, 1, 4, 5, 6, 7, 8, 9, 10, 11, 12, 13, 16, 18, 20, 28, 39] (by (refine DVQ ?_) <;> rfl) ?_) | refine swp_seq [0, 1, 4, 5, 6, 7, 8, 9, 10, 11, 12, 13, 16, 18, 20, 28, 39] ?_ | refine st1 ?_ | (show CallQ ..; first | refine cF ?_ | refine cQ (fun hcc => (by first | exact bin_0 _)) ?_ | (refine lP ?_; refine lQ (fun hcc m => (by first | exact bin_0 _)) ?_)) | (show Fct ..; refine fctI (fun hf => ?_)) | (show XCallQ ..; first | refine xcF ?_ | refine xQ (fun hcc => (by first | exact bin_0 _)) ?_ | (refine xlP ?_; refine xlQ (fun hcc m => (by first | exact bin_0 _)) ?_)) | (show SWp _ _ _ (.region _ _ true) _ _ _ _; refine xG mixed [] ?_) | (show SWp _ _ _ (.cond _ _ _) _ _ _ _; first | (refine cB (fun hc => ?_) (fun hc => ?_) <;> first | exact False.elim hc | exact absurd hc Bool.false_ne_true | exact absurd hc.symm Bool.false_ne_true | skip) | refine cU ?_ ?_)))
  all_goals first | rfl | (exact DVR)
set_option maxRecDepth 20000 in
set_option maxHeartbeats 4000000 in
theorem piece_4 (m : Nat) : DCalls Tryz.prog 69 [knotL [⟨0, 0⟩, ⟨4, 8⟩], li 4] (hget []) m (.tup [li 8, li 0, li 1]) (hget []) := by
  refine pureC (n := 110) (rs := [.tmp 4, .tmp 5, .tmp 6]) (ts := [3, 3, 3]) Tryz.func69 rfl (by decide) [] (by (exact SD)) ?_
  (repeat' (first | (show SWp _ _ _ (.loop _) _ _ _ _; refine swp_rounds (lwp_round ?_)) | (show roundK ..; first | refine roundK_ret ?_ | refine roundK_exit ?_ | refine roundK_normal [0, 1, 4, 5, 6, 7, 8, 9, 10, 11, 12, 13, 16, 18, 20, 28, 39] (by (refine DVQ ?_) <;> rfl) ?_) | refine swp_seq [0, 1, 4, 5, 6, 7, 8, 9, 10, 11, 12, 13, 16, 18, 20, 28, 39] ?_ | refine st1 ?_ | (show CallQ ..; first | refine cF ?_ | refine cQ (fun hcc => (by first | exact bin_4 _)) ?_ | (refine lP ?_; refine lQ (fun hcc m => (by first | exact bin_4 _)) ?_)) | (show Fct ..; refine fctI (fun hf => ?_)) | (show XCallQ ..; first | refine xcF ?_ | refine xQ (fun hcc => (by first | exact bin_4 _)) ?_ | (refine xlP ?_; refine xlQ (fun hcc m => (by first | exact bin_4 _)) ?_)) | (show SWp _ _ _ (.region _ _ true) _ _ _ _; refine xG mixed [] ?_) | (show SWp _ _ _ (.cond _ _ _) _ _ _ _; first | (refine cB (fun hc => ?_) (fun hc => ?_) <;> first | exact False.elim hc | exact absurd hc Bool.false_ne_true | exact absurd hc.symm Bool.false_ne_true | skip) | refine cU ?_ ?_)))
  all_goals first | rfl | (exact DVR)
theorem floor_0 (m : Nat) : DCalls Tryz.prog 50 [knotL [⟨0, 0⟩, ⟨4, 8⟩], li 0] (hget []) m (.tup [li 0, li 0]) (hget []) := by
  refine pureC (n := 20) (rs := [.tmp 4, .tmp 5]) (ts := [3, 30]) Tryz.func50 rfl (by decide) [] (by (exact SD)) ?_
  (repeat' (first | (show SWp _ _ _ (.loop _) _ _ _ _; refine swp_rounds (lwp_round ?_)) | (show roundK ..; first | refine roundK_ret ?_ | refine roundK_exit ?_ | refine roundK_normal [0, 1, 4, 5, 6, 11] (by (refine DVQ ?_) <;> rfl) ?_) | refine swp_seq [0, 1, 4, 5, 6, 11] ?_ | refine st1 ?_ | (show CallQ ..; first | refine cF ?_ | refine cQ (fun hcc => (by first | exact tValid_x _ | exact piece_0 _)) ?_ | (refine lP ?_; refine lQ (fun hcc m => (by first | exact tValid_x _ | exact piece_0 _)) ?_)) | (show Fct ..; refine fctI (fun hf => ?_)) | (show XCallQ ..; first | refine xcF ?_ | refine xQ (fun hcc => (by first | exact tValid_x _ | exact piece_0 _)) ?_ | (refine xlP ?_; refine xlQ (fun hcc m => (by first | exact tValid_x _ | exact piece_0 _)) ?_)) | (show SWp _ _ _ (.region _ _ true) _ _ _ _; refine xG mixed [] ?_) | (show SWp _ _ _ (.cond _ _ _) _ _ _ _; first | (refine cB (fun hc => ?_) (fun hc => ?_) <;> first | exact False.elim hc | exact absurd hc Bool.false_ne_true | exact absurd hc.symm Bool.false_ne_true | skip) | refine cU ?_ ?_)))
  all_goals first | rfl | (exact DVR)
theorem floor_4 (m : Nat) : DCalls Tryz.prog 50 [knotL [⟨0, 0⟩, ⟨4, 8⟩], li 4] (hget []) m (.tup [li 8, li 0]) (hget []) := by
  refine pureC (n := 20) (rs := [.tmp 4, .tmp 5]) (ts := [3, 30]) Tryz.func50 rfl (by decide) [] (by (exact SD)) ?_
  (repeat' (first | (show SWp _ _ _ (.loop _) _ _ _ _; refine swp_rounds (lwp_round ?_)) | (show roundK ..; first | refine roundK_ret ?_ | refine roundK_exit ?_ | refine roundK_normal [0, 1, 4, 5, 6, 11] (by (refine DVQ ?_) <;> rfl) ?_) | refine swp_seq [0, 1, 4, 5, 6, 11] ?_ | refine st1 ?_ | (show CallQ ..; first | refine cF ?_ | refine cQ (fun hcc => (by first | exact tValid_x _ | exact piece_4 _)) ?_ | (refine lP ?_; refine lQ (fun hcc m => (by first | exact tValid_x _ | exact piece_4 _)) ?_)) | (show Fct ..; refine fctI (fun hf => ?_)) | (show XCallQ ..; first | refine xcF ?_ | refine xQ (fun hcc => (by first | exact tValid_x _ | exact piece_4 _)) ?_ | (refine xlP ?_; refine xlQ (fun hcc m => (by first | exact tValid_x _ | exact piece_4 _)) ?_)) | (show SWp _ _ _ (.region _ _ true) _ _ _ _; refine xG mixed [] ?_) | (show SWp _ _ _ (.cond _ _ _) _ _ _ _; first | (refine cB (fun hc => ?_) (fun hc => ?_) <;> first | exact False.elim hc | exact absurd hc Bool.false_ne_true | exact absurd hc.symm Bool.false_ne_true | skip) | refine cU ?_ ?_)))
  all_goals first | rfl | (exact DVR)
theorem swp_nilrow {P : Program} {N pin nx : Nat} {c : Code} {Q : Exit → LE → LH → Nat → Prop} {A : LE} {H : LH} (o n : Nat) (t : TypeId) (l1 l2 : List (List DV)) (h : SWp P N pin c Q A ((o, .lst t 1 (l1 ++ [.p (.dat n [])] :: l2)) :: H) nx) : SWp P N pin c Q A ((o, .lst t 1 (l1 ++ nilRow :: l2)) :: H) nx := by
  unfold SWp at h ⊢
  intro hp B hB a w hS
  obtain ⟨ρ, S, HS, ES⟩ := hS
  refine h hp B hB a w ⟨ρ, S, HS.seen (fun _ _ => rfl) fun i v hi => ?_, ES⟩
  have key : ∀ (l : List (List DV)) (vs : List Value), RelL ρ S w (l ++ nilRow :: l2).flatten vs → RelL ρ S w (l ++ [DV.p (.dat n [])] :: l2).flatten vs := fun l => by
    induction l with
    | nil =>
      intro vs k
      cases vs with
      | nil => exact k.elim
      | cons v vs => exact ⟨PLe.nil n S w v k.1, k.2⟩
    | cons r l ih =>
      intro vs
      simp only [List.cons_append, List.flatten_cons]
      induction r generalizing vs with
      | nil => exact ih vs
      | cons d r ihr =>
        intro k
        cases vs with
        | nil => exact k.elim
        | cons v vs => exact ⟨k.1, ihr vs k.2⟩
  simp only [hget] at hi
  split at hi
  · next e =>
    subst e
    obtain rfl := Option.some.inj hi
    have h0 : hget ((i, HV.lst t 1 (l1 ++ nilRow :: l2)) :: H) i = some (.lst t 1 (l1 ++ nilRow :: l2)) := by simp [hget]
    have hO := HS.heap i _ h0
    have hU := HS.heapU i _ h0
    simp only [HRel] at hO ⊢
    obtain ⟨k1, k2, k3, k4, k5⟩ := hO
    have el : (l1 ++ [DV.p (.dat n [])] :: l2).length = (l1 ++ nilRow :: l2).length := by simp
    refine ⟨⟨by rw [el]; exact k1, by rw [el]; exact k2, by rw [el]; exact k3, fun r hr => ?_, ?_⟩, hU.1, ?_, fun b hb => ⟨_, h0, hb⟩⟩
    · rcases List.mem_append.1 hr with hr | hr
      · exact k4 r (List.mem_append.2 (.inl hr))
      · rcases List.mem_cons.1 hr with rfl | hr
        · rfl
        · exact k4 r (List.mem_append.2 (.inr (List.mem_cons_of_mem _ hr)))
    · rcases k5 with k5 | ⟨b, vs, sp, fz, q1, q2, q3, q4, q5⟩
      · exact .inl k5
      · exact .inr ⟨b, vs, sp, fz, q1, q2, key _ _ q3, q4, q5⟩
    · refine usesL_iff.2 fun d hd => ?_
      have hu := usesL_iff.1 (show DV.usesL _ (l1 ++ nilRow :: l2).flatten from hU.2)
      simp only [List.flatten_append, List.flatten_cons, List.mem_append, List.mem_cons, List.not_mem_nil, or_false] at hd hu
      rcases hd with hd | rfl | hd
      · exact hu d (.inl hd)
      · trivial
      · exact hu d (.inr (.inr hd))
  · next e =>
    have h0 : hget ((o, HV.lst t 1 (l1 ++ nilRow :: l2)) :: H) i = some v := by simp only [hget, if_neg e]; exact hi
    have hU := HS.heapU i v h0
    exact ⟨HS.heap i v h0, hU.1, hU.2, fun b hb => ⟨v, h0, hb⟩⟩
theorem rall_true {n : Nat} {f : Nat → Bool} (h : ∀ i, i < n → f i = true) : (List.range n).all f = true := List.all_eq_true.2 fun i hi => h i (List.mem_range.1 hi)
theorem rall_false {n i : Nat} {f : Nat → Bool} (hi : i < n) (h : f i = false) : (List.range n).all f = false := by
  rw [List.all_eq_false]; exact ⟨i, List.mem_range.2 hi, by simp [h]⟩
def fitsB (n : Int) : Bool := decide (-1125899906842624 ≤ n) && decide (n ≤ 1125899906842624)
def tabR (t : List Knot) (i : Nat) : Bool := fitsB (t.getD i default).x && fitsB (t.getD i default).y && (decide (i = 0) || (decide ((t.getD (i - 1) default).x < (t.getD i default).x) && decide ((t.getD (i - 1) default).y ≤ (t.getD i default).y)))
def tabB (t : List Knot) : Bool := decide (1 ≤ t.length) && decide (t.length ≤ 100) && (List.range t.length).all (tabR t)
theorem fitsT_f (n : Int) (m : Nat) : DCalls Tryz.prog 74 [li n] (hget []) m (lb (fitsB n)) (hget []) := by
  refine pureC (n := 9) (rs := [.tmp 2]) (ts := [4]) Tryz.func74 rfl (by decide) [] (by (exact SD)) ?_
  (repeat' (first | refine swp_seq [0, 2] ?_ | refine st2 ?_ | (show Fct ..; refine fctI (fun hf => ?_)) | (show SWp _ _ _ (.cond _ _ _) _ _ _ _; first | refine cB (fun hc => ?_) (fun hc => ?_) | refine cU ?_ ?_)))
  exact DVR
theorem rNumber_f (n : Int) (m : Nat) : DCalls Tryz.prog 53 [li n] (hget []) m (lb (fitsB n)) (hget []) := by
  refine pureC (n := 9) (rs := [.tmp 2]) (ts := [4]) Tryz.func53 rfl (by decide) [] (by (exact SD)) ?_
  (repeat' (first | refine swp_seq [0, 2] ?_ | refine st2 ?_ | (show Fct ..; refine fctI (fun hf => ?_)) | (show SWp _ _ _ (.cond _ _ _) _ _ _ _; first | refine cB (fun hc => ?_) (fun hc => ?_) | refine cU ?_ ?_)))
  exact DVR
theorem callT {g : FuncId} {C : List Nat} {args : List DV} {h h' : Nat → Option HV} {m : Nat} {d : DV} (k : DCallsG Tryz.prog g C args h m d h' := by first | exact fitsT_f _ _ | exact rNumber_f _ _) : DCallsG Tryz.prog g C args h m d h' := k
set_option maxHeartbeats 1000000 in
theorem tab_f (t : List Knot) (m : Nat) (hl : t.length ≤ 281474976710656) : DCalls Tryz.prog 68 [knotL t] (hget []) m (lb (tabB t)) (hget []) := by
  refine pureC (n := 57) (rs := [.tmp 2]) (ts := [4]) Tryz.func68 rfl (by decide) [] (by (exact SD)) ?_
  (repeat' (first | refine swp_seq [0, 2, 3, 4, 12, 13, 14, 15, 16, 55] ?_ | refine st2 ?_ | (show Fct ..; refine fctI (fun hf => ?_)) | (show SWp _ _ _ (.cond _ _ _) _ _ _ _; first | refine cB (fun hc => ?_) (fun hc => ?_) | refine cU ?_ ?_)))
  · (refine DVQ ?_)
    refine lbC ?_
    unfold tabB
    rcases hc with h | h
    · rw [decide_eq_false (by omega)]; rfl
    · rw [decide_eq_false (p := t.length ≤ 100) (by omega)]; simp
  · refine loop_swp [0, 13, 14, 15] [] 0 (fun q A H => ∃ i : Nat, i ≤ t.length ∧ q = t.length - i ∧ (∀ j, j < i → tabR t j = true) ∧ A = [(0, knotL t), (13, knotL t), (14, li t.length), (15, li i)] ∧ H = []) (by omega) ?_ ?_ ?_
    · rintro q A H ⟨i, h1, h2, h3, rfl, rfl⟩
      exact ⟨by (exact SD), by (exact SD)⟩
    · refine ⟨_, 0, by omega, rfl, by omega, ?_, ?_⟩
      · exact DVR
      · exact DVR
    · rintro q A H ⟨i, h1, h2, h3, rfl, rfl⟩
      (repeat' (first | refine swp_seq [0, 2, 3, 4, 12, 13, 14, 15, 16, 55] ?_ | refine st2 ?_ | (show CallQ ..; first | refine cQ (fun hcc => callT) ?_ | (refine lP ?_; refine lQ (fun hcc m => callT) ?_)) | (show XCallQ ..; first | refine xQ (fun hcc => callT) ?_ | (refine xlP ?_; refine xlQ (fun hcc m => callT) ?_)) | (show Fct ..; refine fctI (fun hf => ?_)) | (show SWp _ _ _ (.cond _ _ _) _ _ _ _; first | refine cB (fun hc => ?_) (fun hc => ?_) | refine cU ?_ ?_)))
      · (refine DVQ ?_)
        refine lbC ?_
        rw [tabB, rall_false (i := i) (by omega) (by unfold tabR; grind)]; simp
      · (refine lN [] ?_)
        exact ⟨_, by omega, i + 1, by omega, rfl, fun j hj => by
          by_cases e : j = i
          · subst e; unfold tabR; grind
          · exact h3 j (by omega), rfl, rfl⟩
      · (refine DVQ ?_)
        refine lbC ?_
        rw [tabB, rall_true fun j hj => h3 j (by omega)]
        simp; omega
set_option maxHeartbeats 1000000 in
theorem rTab_f (t : List Knot) (m : Nat) (hl : t.length ≤ 281474976710656) : DCalls Tryz.prog 30 [knotL t] (hget []) m (lb (tabB t)) (hget []) := by
  refine pureC (n := 64) (rs := [.tmp 2]) (ts := [4]) Tryz.func30 rfl (by decide) [] (by (exact SD)) ?_
  (repeat' (first | refine swp_seq [0, 2, 3, 11, 15, 33, 63] ?_ | refine st2 ?_ | (show Fct ..; refine fctI (fun hf => ?_)) | (show SWp _ _ _ (.cond _ _ _) _ _ _ _; first | refine cB (fun hc => ?_) (fun hc => ?_) | refine cU ?_ ?_)))
  · (refine DVQ ?_)
    refine lbC ?_
    unfold tabB
    rcases hc with h | h
    · rw [decide_eq_false (by omega)]; rfl
    · rw [decide_eq_false (p := t.length ≤ 100) (by omega)]; simp
  · refine loop_swp [0, 3] [] 0 (fun q A H => ∃ i : Nat, i ≤ t.length ∧ q = t.length - i ∧ (∀ j, j < i → tabR t j = true) ∧ A = [(0, knotL t), (3, li i)] ∧ H = []) (by omega) ?_ ?_ ?_
    · rintro q A H ⟨i, h1, h2, h3, rfl, rfl⟩
      exact ⟨by (exact SD), by (exact SD)⟩
    · refine ⟨_, 0, by omega, rfl, by omega, ?_, ?_⟩
      · exact DVR
      · exact DVR
    · rintro q A H ⟨i, h1, h2, h3, rfl, rfl⟩
      (repeat' (first | refine swp_seq [0, 2, 3, 11, 15, 33, 63] ?_ | refine st2 ?_ | (show CallQ ..; first | refine cQ (fun hcc => callT) ?_ | (refine lP ?_; refine lQ (fun hcc m => callT) ?_)) | (show XCallQ ..; first | refine xQ (fun hcc => callT) ?_ | (refine xlP ?_; refine xlQ (fun hcc m => callT) ?_)) | (show Fct ..; refine fctI (fun hf => ?_)) | (show SWp _ _ _ (.cond _ _ _) _ _ _ _; first | refine cB (fun hc => ?_) (fun hc => ?_) | refine cU ?_ ?_)))
      · (refine DVQ ?_)
        refine lbC ?_
        rw [tabB, rall_false (i := i) (by omega) (by unfold tabR; grind)]; simp
      · (refine DVQ ?_)
        refine lbC ?_
        rw [tabB, rall_false (i := i) (by omega) (by unfold tabR; grind)]; simp
      · (refine lN [] ?_)
        exact ⟨_, by omega, i + 1, by omega, rfl, fun j hj => by
          by_cases e : j = i
          · subst e; unfold tabR; grind
          · exact h3 j (by omega), rfl, rfl⟩
      · (refine DVQ ?_)
        refine lbC ?_
        rw [tabB, rall_true fun j hj => h3 j (by omega)]
        simp; omega

end Go.Proofs.YtlailhdmgehniaaGreat
