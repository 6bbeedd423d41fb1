/-
  Contracts of functions of the program, over the engine.
  No condition.
-/
import Derived.Test.YtlailhdmgehniaaGreatCP15Q6U14C18U
import Derived.Test.YtlailhdmgehniaaGreatCC11C12C14C15C16C24C35R6R7
import Derived.Test.YtlailhdmgehniaaGreatCS3S4S5
import Derived.Test.YtlailhdmgehniaaGreatCR8R9R10R11CLR12R13
namespace Go.Proofs.YtlailhdmgehniaaGreat
open Go.Eng
set_option linter.all false
attribute [local irreducible] DCallsG SWp Fct CallQ XCallQ LCallQ XLCallQ drun xrun

theorem make_f (p : Plan) (m : Nat) (hq : planOk p) : DCalls Tryz.prog 17 [planD p] (hget []) m (.tup [.p (.dat 1 ((valuesR p).1.map ilRow)), li (valuesR p).2]) (hget []) := by
  have c1 := fun m => values45_f p m hq
  refine pureC (n := 8) (rs := [.tmp 2, .tmp 3]) (ts := [29, 30]) Tryz.func17 rfl (by decide) [] (by (exact SD)) ?_
  (repeat' (first | refine swp_seq [0, 1, 2, 3] ?_ | refine st2 ?_ | (show CallQ ..; first | refine cQ (fun hcc => (by first | exact c1 _)) ?_ | (refine lP ?_; refine lQ (fun hcc m => (by first | exact c1 _)) ?_)) | (show Fct ..; refine fctI (fun hf => ?_)) | (show SWp _ _ _ (.cond _ _ _) _ _ _ _; first | refine cB (fun hc => ?_) (fun hc => ?_) | refine cU ?_ ?_)))
  exact DVR
set_option maxRecDepth 20000 in
set_option maxHeartbeats 8000000 in
theorem checks_f (p : Plan) (l : List (List Int)) (m : Nat) (hq : planOk p) (hl : rowsOk l) : DCalls Tryz.prog 4 [planD p, intss l] (hget []) m (lb true) (hget []) := by
  have cw := fun m => few_f p m hq
  cases hfw : fewB p <;> simp only [hfw] at cw
  · refine pureC (n := 97) (rs := [.tmp 4]) (ts := [4]) Tryz.func4 rfl (by decide) [] (by (exact SD)) ?_
    (repeat' (first | refine swp_seq [0, 1, 2, 4, 5, 6, 7, 8, 9, 10, 11, 12, 13, 14, 15, 16, 17, 18, 20, 28, 47] ?_ | refine st2 ?_ | (show CallQ ..; first | refine cQ (fun hcc => (by first | exact awake_f _ | exact cw _)) ?_ | (refine lP ?_; refine lQ (fun hcc m => (by first | exact awake_f _ | exact cw _)) ?_)) | (show Fct ..; refine fctI (fun hf => ?_)) | (show SWp _ _ _ (.cond _ _ _) _ _ _ _; first | refine cB (fun hc => ?_) (fun hc => ?_) | refine cU ?_ ?_)))
    exact DVR
  have sa := fun m => short_f l m hl
  cases hsa : shortB l <;> simp only [hsa] at sa
  · refine pureC (n := 97) (rs := [.tmp 4]) (ts := [4]) Tryz.func4 rfl (by decide) [] (by (exact SD)) ?_
    (repeat' (first | refine swp_seq [0, 1, 2, 4, 5, 6, 7, 8, 9, 10, 11, 12, 13, 14, 15, 16, 17, 18, 20, 28, 47] ?_ | refine st2 ?_ | (show CallQ ..; first | refine cQ (fun hcc => (by first | exact awake_f _ | exact cw _ | exact sa _)) ?_ | (refine lP ?_; refine lQ (fun hcc m => (by first | exact awake_f _ | exact cw _ | exact sa _)) ?_)) | (show Fct ..; refine fctI (fun hf => ?_)) | (show SWp _ _ _ (.cond _ _ _) _ _ _ _; first | refine cB (fun hc => ?_) (fun hc => ?_) | refine cU ?_ ?_)))
    exact DVR
  have c0 := fun m => make_f p m hq
  have c1 := fun m => values45_f p m hq
  have hro := valuesR_ok p
  have c2 := fun m => check_f p l m hq hl
  have c3 := fun m => bound_f p l m hq hl
  have c4 := fun m => rCheck_f p l m hq hl
  have c5 := fun m => rBound_f p l m hq hl
  generalize valuesR p = V at *
  generalize checkR p l = C at *
  generalize boundR p l = B at *
  obtain ⟨w, e0⟩ := V
  obtain ⟨ok, k, g⟩ := C
  obtain ⟨n, h⟩ := B
  dsimp only at hro
  have c6 := fun m => same_s w m hro
  have h0 : e0 = e0 := rfl
  have hk : k = k := rfl
  have hg : g = g := rfl
  have hn : n = n := rfl
  have hh : h = h := rfl
  (have := Nonempty.intro h0)
  (have := Nonempty.intro hk)
  (have := Nonempty.intro hg)
  (have := Nonempty.intro hn)
  (have := Nonempty.intro hh)
  cases ok
  · refine pureC (n := 97) (rs := [.tmp 4]) (ts := [4]) Tryz.func4 rfl (by decide) [] (by (exact SD)) ?_
    (repeat' (first | refine swp_seq [0, 1, 2, 4, 5, 6, 7, 8, 9, 10, 11, 12, 13, 14, 15, 16, 17, 18, 20, 28, 47] ?_ | refine st2 ?_ | (show CallQ ..; first | refine cQ (fun hcc => (by first | exact awake_f _ | exact cw _ | exact sa _ | exact c0 _ | exact c1 _ | exact c2 _ | exact c3 _ | exact c4 _ | exact c5 _ | exact c6 _)) ?_ | (refine lP ?_; refine lQ (fun hcc m => (by first | exact awake_f _ | exact cw _ | exact sa _ | exact c0 _ | exact c1 _ | exact c2 _ | exact c3 _ | exact c4 _ | exact c5 _ | exact c6 _)) ?_)) | (show Fct ..; refine fctI (fun hf => ?_)) | (show SWp _ _ _ (.cond _ _ _) _ _ _ _; first | refine cB (fun hc => ?_) (fun hc => ?_) | refine cU ?_ ?_)))
    exact DVR
  · refine pureC (n := 97) (rs := [.tmp 4]) (ts := [4]) Tryz.func4 rfl (by decide) [] (by (exact SD)) ?_
    (repeat' (first | refine swp_seq [0, 1, 2, 4, 5, 6, 7, 8, 9, 10, 11, 12, 13, 14, 15, 16, 17, 18, 20, 28, 47] ?_ | refine st2 ?_ | (show CallQ ..; first | refine cQ (fun hcc => (by first | exact awake_f _ | exact cw _ | exact sa _ | exact c0 _ | exact c1 _ | exact c2 _ | exact c3 _ | exact c4 _ | exact c5 _ | exact c6 _)) ?_ | (refine lP ?_; refine lQ (fun hcc m => (by first | exact awake_f _ | exact cw _ | exact sa _ | exact c0 _ | exact c1 _ | exact c2 _ | exact c3 _ | exact c4 _ | exact c5 _ | exact c6 _)) ?_)) | (show Fct ..; refine fctI (fun hf => ?_)) | (show SWp _ _ _ (.cond _ _ _) _ _ _ _; first | refine cB (fun hc => ?_) (fun hc => ?_) | refine cU ?_ ?_)))
    exact DVR

end Go.Proofs.YtlailhdmgehniaaGreat
