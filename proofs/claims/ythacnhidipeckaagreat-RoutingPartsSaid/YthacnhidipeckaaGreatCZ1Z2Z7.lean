/-
  Contracts of functions of the program, over the engine.
  No condition.
-/
import Derived.Test.YthacnhidipeckaaGreatCT8T9T9bT9cT9eT10T11
import Derived.Test.YthacnhidipeckaaGreatCY17Y13Y20Y23Y25
import Derived.Test.YthacnhidipeckaaGreatCT16T15T18T20Y0Y5Y1
import Derived.Test.YthacnhidipeckaaGreatCY9Y10Y12Y8Y14
namespace Go.Proofs.YthacnhidipeckaaGreat
open Go.Eng
set_option linter.all false
attribute [local irreducible] DCallsG SWp Fct CallQ XCallQ LCallQ XLCallQ drun xrun
theorem usesL_zeros (U : Nat → Prop) (n : Nat) (x : PV) : DV.usesL U (List.replicate n [DV.p x]).flatten = True := by
  refine propext ⟨fun _ => trivial, fun _ => usesL_iff.2 fun d hd => ?_⟩
  obtain ⟨r, hr, hd⟩ := List.mem_flatten.1 hd
  obtain rfl := List.eq_of_mem_replicate hr
  simp only [List.mem_singleton] at hd
  subst hd; exact trivial
theorem idx_z0 (a : List PV) (l : List (List PV)) : idx (a :: l) 0 = a := by simp [idx]
theorem idx_z1 (a b : List PV) (l : List (List PV)) : idx (a :: b :: l) 1 = b := by simp [idx]
section
attribute [local push_cast] usesL_zeros idx_z0 idx_z1
set_option maxHeartbeats 4000000 in
theorem growI_f (k : Nat) (m : Nat) (hk : k ≤ 1048576) : DCallsG Tryz.prog 71 [] [nilS, li k] (hget []) m (.gl m) (hget [(m, inLt [])]) := by
  refine contract (n := 27) (rs := [.tmp 4]) (ts := [27]) Tryz.func71 rfl (by decide) 0 0 [] [] [120] (.gl 120) [(120, inLt [])] (by (exact SD)) (by (exact SD)) ?_
  by_cases h0 : (0 : Int) < (k : Int) - 0
  · have h1 : ¬ (k : Int) < 0 := by omega
    (have := Nonempty.intro h0)
    (have := Nonempty.intro h1)
    (repeat' (first | refine swp_seq [0, 1, 4, 6, 16] ?_ | (first | refine rF (fun hf => ?_) | refine tN ?_ | refine swp_skip ?_ | refine swp_block ?_ | refine swp_scope ?_ | refine blockK_normal ?_ | refine scopeK_normal ?_ | (refine cB (fun hc => ?_) (fun hc => ?_) <;> first | exact False.elim hc | exact absurd hc Bool.false_ne_true | exact absurd hc.symm Bool.false_ne_true | skip) | refine cU ?_ ?_)))
    (refine sR 144 120 ?_)
    (repeat' (first | refine swp_seq [0, 1, 4, 6, 16] ?_ | (first | refine rF (fun hf => ?_) | refine tN ?_ | refine swp_skip ?_ | refine swp_ret ?_ | refine swp_exit ?_ | refine swp_block ?_ | refine swp_scope ?_ | refine thenK_ret ?_ | refine thenK_exit ?_ | refine blockK_normal ?_ | refine blockK_ret ?_ | refine blockK_here ?_ | refine bX ?_ | refine scopeK_normal ?_ | refine scopeK_ret ?_ | refine scopeK_exit ?_ | refine loopK_ret ?_ | refine loopK_exit ?_ | refine dF mixed ?_ | (refine cB (fun hc => ?_) (fun hc => ?_) <;> first | exact False.elim hc | exact absurd hc Bool.false_ne_true | exact absurd hc.symm Bool.false_ne_true | skip) | refine cU ?_ ?_)))
    exact DVS
  · have h1 : ¬ (k : Int) < 0 := by omega
    (have := Nonempty.intro h0)
    (have := Nonempty.intro h1)
    (repeat' (first | refine swp_seq [0, 1, 4, 6, 16] ?_ | (first | refine rF (fun hf => ?_) | refine tN ?_ | refine swp_skip ?_ | refine swp_block ?_ | refine swp_scope ?_ | refine blockK_normal ?_ | refine scopeK_normal ?_ | (refine cB (fun hc => ?_) (fun hc => ?_) <;> first | exact False.elim hc | exact absurd hc Bool.false_ne_true | exact absurd hc.symm Bool.false_ne_true | skip) | refine cU ?_ ?_)))
    (refine sN 4 3 1 ?_)
    (repeat' (first | refine swp_seq [0, 1, 4, 6, 16] ?_ | (first | refine rF (fun hf => ?_) | refine tN ?_ | refine swp_skip ?_ | refine swp_ret ?_ | refine swp_exit ?_ | refine swp_block ?_ | refine swp_scope ?_ | refine thenK_ret ?_ | refine thenK_exit ?_ | refine blockK_normal ?_ | refine blockK_ret ?_ | refine blockK_here ?_ | refine bX ?_ | refine scopeK_normal ?_ | refine scopeK_ret ?_ | refine scopeK_exit ?_ | refine loopK_ret ?_ | refine loopK_exit ?_ | refine dF mixed ?_ | (refine cB (fun hc => ?_) (fun hc => ?_) <;> first | exact False.elim hc | exact absurd hc Bool.false_ne_true | exact absurd hc.symm Bool.false_ne_true | skip) | refine cU ?_ ?_)))
    exact DVS
set_option maxHeartbeats 4000000 in
theorem growB_f (k : Nat) (m : Nat) (hk : k ≤ 1048576) : DCallsG Tryz.prog 72 [] [nilS, li k] (hget []) m (.gl m) (hget [(m, boL [])]) := by
  refine contract (n := 27) (rs := [.tmp 4]) (ts := [28]) Tryz.func72 rfl (by decide) 0 0 [] [] [120] (.gl 120) [(120, boL [])] (by (exact SD)) (by (exact SD)) ?_
  by_cases h0 : (0 : Int) < (k : Int) - 0
  · have h1 : ¬ (k : Int) < 0 := by omega
    (have := Nonempty.intro h0)
    (have := Nonempty.intro h1)
    (repeat' (first | refine swp_seq [0, 1, 4, 6, 16] ?_ | (first | refine rF (fun hf => ?_) | refine tN ?_ | refine swp_skip ?_ | refine swp_block ?_ | refine swp_scope ?_ | refine blockK_normal ?_ | refine scopeK_normal ?_ | (refine cB (fun hc => ?_) (fun hc => ?_) <;> first | exact False.elim hc | exact absurd hc Bool.false_ne_true | exact absurd hc.symm Bool.false_ne_true | skip) | refine cU ?_ ?_)))
    (refine sR 144 120 ?_)
    (repeat' (first | refine swp_seq [0, 1, 4, 6, 16] ?_ | (first | refine rF (fun hf => ?_) | refine tN ?_ | refine swp_skip ?_ | refine swp_ret ?_ | refine swp_exit ?_ | refine swp_block ?_ | refine swp_scope ?_ | refine thenK_ret ?_ | refine thenK_exit ?_ | refine blockK_normal ?_ | refine blockK_ret ?_ | refine blockK_here ?_ | refine bX ?_ | refine scopeK_normal ?_ | refine scopeK_ret ?_ | refine scopeK_exit ?_ | refine loopK_ret ?_ | refine loopK_exit ?_ | refine dF mixed ?_ | (refine cB (fun hc => ?_) (fun hc => ?_) <;> first | exact False.elim hc | exact absurd hc Bool.false_ne_true | exact absurd hc.symm Bool.false_ne_true | skip) | refine cU ?_ ?_)))
    exact DVS
  · have h1 : ¬ (k : Int) < 0 := by omega
    (have := Nonempty.intro h0)
    (have := Nonempty.intro h1)
    (repeat' (first | refine swp_seq [0, 1, 4, 6, 16] ?_ | (first | refine rF (fun hf => ?_) | refine tN ?_ | refine swp_skip ?_ | refine swp_block ?_ | refine swp_scope ?_ | refine blockK_normal ?_ | refine scopeK_normal ?_ | (refine cB (fun hc => ?_) (fun hc => ?_) <;> first | exact False.elim hc | exact absurd hc Bool.false_ne_true | exact absurd hc.symm Bool.false_ne_true | skip) | refine cU ?_ ?_)))
    (refine sN 4 4 1 ?_)
    (repeat' (first | refine swp_seq [0, 1, 4, 6, 16] ?_ | (first | refine rF (fun hf => ?_) | refine tN ?_ | refine swp_skip ?_ | refine swp_ret ?_ | refine swp_exit ?_ | refine swp_block ?_ | refine swp_scope ?_ | refine thenK_ret ?_ | refine thenK_exit ?_ | refine blockK_normal ?_ | refine blockK_ret ?_ | refine blockK_here ?_ | refine bX ?_ | refine scopeK_normal ?_ | refine scopeK_ret ?_ | refine scopeK_exit ?_ | refine loopK_ret ?_ | refine loopK_exit ?_ | refine dF mixed ?_ | (refine cB (fun hc => ?_) (fun hc => ?_) <;> first | exact False.elim hc | exact absurd hc Bool.false_ne_true | exact absurd hc.symm Bool.false_ne_true | skip) | refine cU ?_ ?_)))
    exact DVS
theorem cQr [Dfr] {P : Program} {N pin nx : Nat} {ops : Array Oper} {A : LE} {H : LH} {Kt : LE → LH → Prop} {o : Oper} {os : List Oper} {i : Nat} {c : Bool} {g : FuncId} {args args0 : List DV} {A2 : LE} {H1 H2 : LH} {i2 : Nat} {pre fact : Prop} {rest : List Oper} {C : List Nat} {d : DV} {need hs' : LH}
    (hcall : c = true → DCallsG P g C args0 (hget need) (nx + 8 * i) d (hget hs')) (hk2 : Fct fact (drun P N pin nx ops rest i2 A2 H2 Kt)) (hc0 : callOf P o.op (ev (eget A)) = some (g, args0) := by exact Go.Eng.DR) (hd1 : dstOk N o.dst = true := by exact Go.Eng.DR) (hd2 : c = true → oksD (eget A) o.op = true := by first | exact Go.Eng.DR | exact Go.Eng.PZ)
    (hC : ∀ i, i ∈ C → pin ≤ i := by exact Go.Eng.CZ) (hCn : ∀ i, i ∈ C → (hget need i).isSome = true := by exact Go.Eng.CZ) (hsub : subH H need := by exact Go.Eng.CZ) (hk : keysIn need (nx + 8 * i) hs' := by exact Go.Eng.CZ) (hq : (need = [] ∧ hs' = []) ∨ c = true := by exact Go.Eng.CZ)
    (hH1 : hpat H need hs' = H1 := by exact Go.Eng.DR) (hF : drunF P N pin nx ops os (i + 1) (eput A o.dst (wrapD o c d)) H1 True True = some ⟨A2, H2, i2, pre, fact, rest⟩ := by exact Go.Eng.DR) (hp : pre := by exact Go.Eng.PZ) : CallQ P N pin nx ops o os i A H Kt c g args := by
  unfold CallQ; intro _ hg _ _
  exact drun_callH C d need hs' hg hc0 (.inr rfl) ⟨hd1, hd2⟩ hC hCn hsub hk hq hcall hH1 hF hp (by unfold Fct at hk2; exact hk2)
set_option maxRecDepth 20000 in
set_option maxHeartbeats 8000000 in
theorem concI_f (X Y : List Int) (m : Nat) (hX : X.length ≤ 262144) (hY : Y.length ≤ 262144) : DCallsG Tryz.prog 19 [] [intss [X, Y]] (hget []) m (.gl m) (hget [(m, inLt (X ++ Y))]) := by
  have cg := fun m => growI_f (X.length + Y.length) m (by omega)
  have e : ((X.length + Y.length : Nat) : Int) = (X.length : Int) + (Y.length : Int) := by omega
  rw [e] at cg
  have h1 : ¬ (X.length : Int) < 0 := by omega
  have h2 : ¬ (X.length : Int) + (Y.length : Int) < 0 := by omega
  (have := Nonempty.intro h1)
  (have := Nonempty.intro h2)
  refine contract (n := 36) (rs := [.tmp 2]) (ts := [27]) Tryz.func19 rfl (by decide) 0 0 [] [] [264] (.gl 264) [(264, inLt (X ++ Y))] (by (exact SD)) (by (exact SD)) ?_
  (repeat' (first | (show SWp _ _ _ (.loop _) _ _ _ _; refine swp_rounds (lwp_round ?_)) | (show roundK ..; first | refine roundK_ret ?_ | refine roundK_exit ?_ | refine roundK_normal [0, 2, 3, 5, 6, 8, 9, 10, 11, 12, 20, 25, 26, 27, 28] (by (refine DVQ ?_) <;> rfl) ?_) | refine swp_seq [0, 2, 3, 5, 6, 8, 9, 10, 11, 12, 20, 25, 26, 27, 28] ?_ | refine st1 ?_ | (show CallQ ..; first | refine cF ?_ | refine cQ (fun hcc => (by first | exact cg _)) ?_ | (refine lP ?_; refine lQ (fun hcc m => (by first | exact cg _)) ?_)) | (show Fct ..; refine fctI (fun hf => ?_)) | (show XCallQ ..; first | refine xcF ?_ | refine xQ (fun hcc => (by first | exact cg _)) ?_ | (refine xlP ?_; refine xlQ (fun hcc m => (by first | exact cg _)) ?_)) | (show SWp _ _ _ (.region _ _ true) _ _ _ _; refine xG mixed [] ?_) | (show SWp _ _ _ (.cond _ _ _) _ _ _ _; first | (refine cB (fun hc => ?_) (fun hc => ?_) <;> first | exact False.elim hc | exact absurd hc Bool.false_ne_true | exact absurd hc.symm Bool.false_ne_true | skip) | refine cU ?_ ?_)))
  refine cQr (fun hcc => cg _) ?_
  (repeat' (first | (show SWp _ _ _ (.loop _) _ _ _ _; refine swp_rounds (lwp_round ?_)) | (show roundK ..; first | refine roundK_ret ?_ | refine roundK_exit ?_ | refine roundK_normal [0, 2, 3, 5, 6, 8, 9, 10, 11, 12, 20, 25, 26, 27, 28] (by (refine DVQ ?_) <;> rfl) ?_) | refine swp_seq [0, 2, 3, 5, 6, 8, 9, 10, 11, 12, 20, 25, 26, 27, 28] ?_ | refine st1 ?_ | (show CallQ ..; first | refine cF ?_ | refine cQ (fun hcc => (by first | exact cg _)) ?_ | (refine lP ?_; refine lQ (fun hcc m => (by first | exact cg _)) ?_)) | (show Fct ..; refine fctI (fun hf => ?_)) | (show XCallQ ..; first | refine xcF ?_ | refine xQ (fun hcc => (by first | exact cg _)) ?_ | (refine xlP ?_; refine xlQ (fun hcc m => (by first | exact cg _)) ?_)) | (show SWp _ _ _ (.region _ _ true) _ _ _ _; refine xG mixed [] ?_) | (show SWp _ _ _ (.cond _ _ _) _ _ _ _; first | (refine cB (fun hc => ?_) (fun hc => ?_) <;> first | exact False.elim hc | exact absurd hc Bool.false_ne_true | exact absurd hc.symm Bool.false_ne_true | skip) | refine cU ?_ ?_)))
  exact DVS
set_option maxRecDepth 20000 in
set_option maxHeartbeats 8000000 in
theorem concB_f (X Y : List Bool) (m : Nat) (hX : X.length ≤ 262144) (hY : Y.length ≤ 262144) : DCallsG Tryz.prog 20 [] [.p (.dat 1 [[.dat 1 (X.map boRow)], [.dat 1 (Y.map boRow)]])] (hget []) m (.gl m) (hget [(m, boL (X ++ Y))]) := by
  have cg := fun m => growB_f (X.length + Y.length) m (by omega)
  have e : ((X.length + Y.length : Nat) : Int) = (X.length : Int) + (Y.length : Int) := by omega
  rw [e] at cg
  have h1 : ¬ (X.length : Int) < 0 := by omega
  have h2 : ¬ (X.length : Int) + (Y.length : Int) < 0 := by omega
  (have := Nonempty.intro h1)
  (have := Nonempty.intro h2)
  refine contract (n := 36) (rs := [.tmp 2]) (ts := [28]) Tryz.func20 rfl (by decide) 0 0 [] [] [264] (.gl 264) [(264, boL (X ++ Y))] (by (exact SD)) (by (exact SD)) ?_
  (repeat' (first | (show SWp _ _ _ (.loop _) _ _ _ _; refine swp_rounds (lwp_round ?_)) | (show roundK ..; first | refine roundK_ret ?_ | refine roundK_exit ?_ | refine roundK_normal [0, 2, 3, 5, 6, 8, 9, 10, 11, 12, 20, 25, 26, 27, 28] (by (refine DVQ ?_) <;> rfl) ?_) | refine swp_seq [0, 2, 3, 5, 6, 8, 9, 10, 11, 12, 20, 25, 26, 27, 28] ?_ | refine st1 ?_ | (show CallQ ..; first | refine cF ?_ | refine cQ (fun hcc => (by first | exact cg _)) ?_ | (refine lP ?_; refine lQ (fun hcc m => (by first | exact cg _)) ?_)) | (show Fct ..; refine fctI (fun hf => ?_)) | (show XCallQ ..; first | refine xcF ?_ | refine xQ (fun hcc => (by first | exact cg _)) ?_ | (refine xlP ?_; refine xlQ (fun hcc m => (by first | exact cg _)) ?_)) | (show SWp _ _ _ (.region _ _ true) _ _ _ _; refine xG mixed [] ?_) | (show SWp _ _ _ (.cond _ _ _) _ _ _ _; first | (refine cB (fun hc => ?_) (fun hc => ?_) <;> first | exact False.elim hc | exact absurd hc Bool.false_ne_true | exact absurd hc.symm Bool.false_ne_true | skip) | refine cU ?_ ?_)))
  refine cQr (fun hcc => cg _) ?_
  (repeat' (first | (show SWp _ _ _ (.loop _) _ _ _ _; refine swp_rounds (lwp_round ?_)) | (show roundK ..; first | refine roundK_ret ?_ | refine roundK_exit ?_ | refine roundK_normal [0, 2, 3, 5, 6, 8, 9, 10, 11, 12, 20, 25, 26, 27, 28] (by (refine DVQ ?_) <;> rfl) ?_) | refine swp_seq [0, 2, 3, 5, 6, 8, 9, 10, 11, 12, 20, 25, 26, 27, 28] ?_ | refine st1 ?_ | (show CallQ ..; first | refine cF ?_ | refine cQ (fun hcc => (by first | exact cg _)) ?_ | (refine lP ?_; refine lQ (fun hcc m => (by first | exact cg _)) ?_)) | (show Fct ..; refine fctI (fun hf => ?_)) | (show XCallQ ..; first | refine xcF ?_ | refine xQ (fun hcc => (by first | exact cg _)) ?_ | (refine xlP ?_; refine xlQ (fun hcc m => (by first | exact cg _)) ?_)) | (show SWp _ _ _ (.region _ _ true) _ _ _ _; refine xG mixed [] ?_) | (show SWp _ _ _ (.cond _ _ _) _ _ _ _; first | (refine cB (fun hc => ?_) (fun hc => ?_) <;> first | exact False.elim hc | exact absurd hc Bool.false_ne_true | exact absurd hc.symm Bool.false_ne_true | skip) | refine cU ?_ ?_)))
  exact DVS
end
abbrev linkLt (l : List Link) : HV := .lst 49 11 (rows linkP l)
theorem linkC_d11 (x : Link) : (linkC x).drop 11 = [] := rfl
theorem set_li (l : List Link) (i : Nat) (v : Link) : (rows linkP l).set i (linkC v) = rows linkP (l.set i v) := rows_set linkP l i v
theorem cells_li (x : Link) (r : List DV) : CellsB (linkC x ++ r) = CellsB r :=
  propext ⟨fun h d hd => h d (List.mem_append.2 (.inr hd)), fun h d hd => by
    rcases List.mem_append.1 hd with hd | hd
    · exact List.all_eq_true.1 (linkC_all x) d hd
    · exact h d hd⟩
attribute [push_cast] linkC_d11 set_li cells_li
set_option maxHeartbeats 1000000 in
theorem cloneLi_f (l : List Link) (m : Nat) (hl : l.length ≤ 1048576) : DCallsG Tryz.prog 16 [] [linkL l] (hget []) m (.gl m) (hget [(m, linkLt l)]) := by
  refine contract (n := 8) (rs := [.tmp 2]) (ts := [23]) Tryz.func16 rfl (by decide) 0 0 [] [] [24] (.gl 24) [(24, linkLt l)] (by (exact SD)) (by (exact SD)) ?_
  cases l with
  | nil =>
    (repeat' (first | refine swp_seq [0, 2, 4] ?_ | (first | refine rF (fun hf => ?_) | refine tN ?_ | refine swp_skip ?_ | refine swp_block ?_ | refine swp_scope ?_ | refine blockK_normal ?_ | refine scopeK_normal ?_ | (refine cB (fun hc => ?_) (fun hc => ?_) <;> first | exact False.elim hc | exact absurd hc Bool.false_ne_true | exact absurd hc.symm Bool.false_ne_true | skip) | refine cU ?_ ?_)))
    · (refine sN 2 49 11 ?_)
      (refine sR 32 24 ?_)
      (repeat' (first | refine swp_seq [0, 2, 4] ?_ | (first | refine rF (fun hf => ?_) | refine tN ?_ | refine swp_skip ?_ | refine swp_ret ?_ | refine swp_exit ?_ | refine swp_block ?_ | refine swp_scope ?_ | refine thenK_ret ?_ | refine thenK_exit ?_ | refine blockK_normal ?_ | refine blockK_ret ?_ | refine blockK_here ?_ | refine bX ?_ | refine scopeK_normal ?_ | refine scopeK_ret ?_ | refine scopeK_exit ?_ | refine loopK_ret ?_ | refine loopK_exit ?_ | refine dF mixed ?_ | (refine cB (fun hc => ?_) (fun hc => ?_) <;> first | exact False.elim hc | exact absurd hc Bool.false_ne_true | exact absurd hc.symm Bool.false_ne_true | skip) | refine cU ?_ ?_)))
      exact DVS
    · (repeat' (first | refine swp_seq [0, 2, 4] ?_ | (first | refine rF (fun hf => ?_) | refine tN ?_ | refine swp_skip ?_ | refine swp_ret ?_ | refine swp_exit ?_ | refine swp_block ?_ | refine swp_scope ?_ | refine thenK_ret ?_ | refine thenK_exit ?_ | refine blockK_normal ?_ | refine blockK_ret ?_ | refine blockK_here ?_ | refine bX ?_ | refine scopeK_normal ?_ | refine scopeK_ret ?_ | refine scopeK_exit ?_ | refine loopK_ret ?_ | refine loopK_exit ?_ | refine dF mixed ?_ | (refine cB (fun hc => ?_) (fun hc => ?_) <;> first | exact False.elim hc | exact absurd hc Bool.false_ne_true | exact absurd hc.symm Bool.false_ne_true | skip) | refine cU ?_ ?_)))
      exact DVS
  | cons b l =>
    (repeat' (first | refine swp_seq [0, 2, 4] ?_ | (first | refine rF (fun hf => ?_) | refine tN ?_ | refine swp_skip ?_ | refine swp_ret ?_ | refine swp_exit ?_ | refine swp_block ?_ | refine swp_scope ?_ | refine thenK_ret ?_ | refine thenK_exit ?_ | refine blockK_normal ?_ | refine blockK_ret ?_ | refine blockK_here ?_ | refine bX ?_ | refine scopeK_normal ?_ | refine scopeK_ret ?_ | refine scopeK_exit ?_ | refine loopK_ret ?_ | refine loopK_exit ?_ | refine dF mixed ?_ | (refine cB (fun hc => ?_) (fun hc => ?_) <;> first | exact False.elim hc | exact absurd hc Bool.false_ne_true | exact absurd hc.symm Bool.false_ne_true | skip) | refine cU ?_ ?_)))
    exact DVS
def nmZ (s : ByteArray) : ByteArray := ⟨#[122]⟩ ++ s.extract (max 0 ((s.size : Int) - 20 + 1)).toNat s.size
theorem nmz_f (s : ByteArray) (m : Nat) (hs : s.size ≤ 281474976710656) : DCalls Tryz.prog 17 [ls s] (hget []) m (ls (nmZ s)) (hget []) := by
  have h9 : (ByteArray.mk #[122]).size + (s.extract (max 0 ((s.size : Int) - 20 + 1)).toNat s.size).size ≤ 281474976710656 := by
    rw [ByteArray.size_extract]
    have : (ByteArray.mk #[122]).size = 1 := rfl
    omega
  (have := Nonempty.intro h9)
  refine pureC (n := 11) (rs := [.tmp 2]) (ts := [9]) Tryz.func17 rfl (by decide) [] (by (exact SD)) ?_
  (repeat' (first | refine swp_seq [0, 2] ?_ | refine st2 ?_ | (show Fct ..; refine fctI (fun hf => ?_)) | (show SWp _ _ _ (.cond _ _ _) _ _ _ _; first | refine cB (fun hc => ?_) (fun hc => ?_) | refine cU ?_ ?_)))
  exact DVR
theorem nodeC_nm (x : Node) (s : ByteArray) : DV.p (.lit (.string s)) :: (nodeC x).drop 1 = nodeC (renNo x s) := rfl
theorem nodeOk_ren {x : Node} {s : ByteArray} (h : nodeOk x) (hs : s.size ≤ 281474976710656) : nodeOk (renNo x s) := ⟨hs, h.2⟩
theorem linkOk_ren {x : Link} {a b c : ByteArray} (h : linkOk x) (ha : a.size ≤ 281474976710656) (hb : b.size ≤ 281474976710656) (hc : c.size ≤ 281474976710656) : linkOk (renLi x a b c) := ⟨ha, hb, hc, h.2.2.2⟩
theorem nmZ_size (s : ByteArray) : (nmZ s).size ≤ 281474976710656 := by
  unfold nmZ
  rw [ByteArray.size_append, ByteArray.size_extract]
  have : (ByteArray.mk #[122]).size = 1 := rfl
  omega
theorem parN_ok {n : Net} (no : netOk n) (h1 : n.nodes.length ≤ 7) (h2 : n.links.length ≤ 7) : netOk (parN nmZ n) := by
  refine ⟨⟨by rw [parN_nl]; omega, fun x hx => ?_⟩, ⟨by rw [parN_ll]; omega, fun x hx => ?_⟩⟩
  · rcases List.mem_append.1 hx with h | h
    · exact no.1.2 x h
    · obtain ⟨y, hy, rfl⟩ := List.mem_map.1 h
      exact nodeOk_ren (no.1.2 y hy) (nmZ_size _)
  · rcases List.mem_append.1 hx with h | h
    · exact no.2.2 x h
    · obtain ⟨y, hy, rfl⟩ := List.mem_map.1 h
      exact linkOk_ren (no.2.2 y hy) (nmZ_size _) (nmZ_size _) (nmZ_size _)
def nodZ (n : Net) (i : Nat) : List Node := n.nodes ++ (n.nodes.take i).map fun x => renNo x (nmZ x.name)
def lnkZ (n : Net) (i : Nat) : List Link := n.links ++ (n.links.take i).map fun x => renLi x (nmZ x.name) (nmZ x.fro) (nmZ x.til)
theorem nodZ_snoc (n : Net) {i : Nat} (h : i < n.nodes.length) : nodZ n (i + 1) = nodZ n i ++ [renNo (n.nodes.getD i default) (nmZ (n.nodes.getD i default).name)] := by
  unfold nodZ
  rw [take_snoc h, List.map_append, List.append_assoc]; rfl
theorem lnkZ_snoc (n : Net) {i : Nat} (h : i < n.links.length) : lnkZ n (i + 1) = lnkZ n i ++ [renLi (n.links.getD i default) (nmZ (n.links.getD i default).name) (nmZ (n.links.getD i default).fro) (nmZ (n.links.getD i default).til)] := by
  unfold lnkZ
  rw [take_snoc h, List.map_append, List.append_assoc]; rfl
theorem parN_Z (n : Net) : (⟨nodZ n n.nodes.length, lnkZ n n.links.length⟩ : Net) = parN nmZ n := by
  unfold nodZ lnkZ parN
  rw [List.take_length, List.take_length]
theorem selI_bd {P : Nat → Bool} {w : List Int} : ∀ k, (∀ i, i < k → 0 ≤ w.getD i default ∧ w.getD i default ≤ 1125899906842624) → 0 ≤ selI P w k ∧ selI P w k ≤ k * 1125899906842624
  | 0, _ => by rw [show selI P w 0 = 0 from rfl]; omega
  | k + 1, h => by
    have h1 := selI_bd (P := P) k fun i hi => h i (by omega)
    have h2 := h k (by omega)
    rw [selI_at]
    split <;> omega
theorem ledg_in {n : Net} {l : List Sect} {s : Sta} {inf : List Int} {sec : Int} (S : StepIn n l s inf sec) (hf : fitS n (heldB n s inf) = true) (h7 : n.nodes.length ≤ 7) (h8 : n.links.length ≤ 7) :
    (0 ≤ (stepL n l s inf sec).inn ∧ (stepL n l s inf sec).inn ≤ 9007199254740992) ∧ (0 ≤ (stepL n l s inf sec).out ∧ (stepL n l s inf sec).out ≤ 18014398509481984) ∧ (stepL n l s inf sec).passed.length = n.links.length := by
  have W := S.pass hf
  have E := ends_of S.nb
  refine ⟨?_, ?_, limR_len ..⟩
  · show 0 ≤ sumI inf n.nodes.length ∧ sumI inf n.nodes.length ≤ 9007199254740992
    have h := selI_bd (P := fun _ => true) (w := inf) n.nodes.length fun i hi => S.ir i hi
    have e : ∀ k, k ≤ n.nodes.length → sumI inf k = selI (fun _ => true) inf k := fun k => by
      induction k with
      | zero => intro _; rfl
      | succ k ih =>
        intro hk
        have hil := S.il
        rw [sumI_sum _ (by omega)]
        have h3 := ih (by omega)
        rw [sumI_sum _ (by omega)] at h3
        rw [selI_at, if_pos rfl, ← h3]; rfl
    rw [e _ (Nat.le_refl _)]
    omega
  · show 0 ≤ selI (isOut n) inf n.nodes.length + selI (toOut n) (pasL n l s inf sec) n.links.length ∧ selI (isOut n) inf n.nodes.length + selI (toOut n) (pasL n l s inf sec) n.links.length ≤ 18014398509481984
    have h1 := selI_bd (P := isOut n) (w := inf) n.nodes.length fun i hi => S.ir i hi
    have h2 := selI_bd (P := toOut n) (w := pasL n l s inf sec) n.links.length fun i hi => W.x E hi
    omega
theorem litH_I (l : List Int) : litH (inLt l) = true := by
  show (rows inRow l).flatten.all litD = true
  rw [List.all_eq_true]; intro d hd
  obtain ⟨r, hr, hd⟩ := List.mem_flatten.1 hd
  obtain ⟨x, _, rfl⟩ := List.mem_map.1 hr
  obtain ⟨y, hy, rfl⟩ := List.mem_map.1 hd
  simp only [inRow, List.mem_singleton] at hy
  subst hy; rfl
theorem litH_B (l : List Bool) : litH (boL l) = true := by
  show (rows boRow l).flatten.all litD = true
  rw [List.all_eq_true]; intro d hd
  obtain ⟨r, hr, hd⟩ := List.mem_flatten.1 hd
  obtain ⟨x, _, rfl⟩ := List.mem_map.1 hr
  obtain ⟨y, hy, rfl⟩ := List.mem_map.1 hd
  simp only [boRow, List.mem_singleton] at hy
  subst hy; rfl
theorem concIo (X Y : List Int) (hX : X.length ≤ 262144) (hY : Y.length ≤ 262144) : DCallsG Tryz.prog 19 [] [.gl 0] (hget [(0, .lst 27 1 [[ints X], [ints Y]])]) 1 (.gl 1) (hget [(0, .lst 27 1 [[ints X], [ints Y]]), (1, inLt (X ++ Y))]) :=
  DCallsG.lendLit (x := .elems 1 [[.dat 1 (X.map inRow)], [.dat 1 (Y.map inRow)]]) (h0 := []) rfl rfl (by simp only [litHs, litH_I, Bool.and_self]) rfl rfl rfl (concI_f X Y 1 hX hY)
theorem concBo (X Y : List Bool) (hX : X.length ≤ 262144) (hY : Y.length ≤ 262144) : DCallsG Tryz.prog 20 [] [.gl 0] (hget [(0, .lst 28 1 [[.p (.dat 1 (X.map boRow))], [.p (.dat 1 (Y.map boRow))]])]) 1 (.gl 1) (hget [(0, .lst 28 1 [[.p (.dat 1 (X.map boRow))], [.p (.dat 1 (Y.map boRow))]]), (1, boL (X ++ Y))]) :=
  DCallsG.lendLit (x := .elems 1 [[.dat 1 (X.map boRow)], [.dat 1 (Y.map boRow)]]) (h0 := []) rfl rfl (by simp only [litHs, litH_B, Bool.and_self]) rfl rfl rfl (concB_f X Y 1 hX hY)

end Go.Proofs.YthacnhidipeckaaGreat
