/-
  Contracts of functions of the program, over the engine.
  No condition.
-/
import Derived.Test.YtedocinehadodaaCT2ELU1C18C18U
import Derived.Test.YtedocinehadodaaCC35R6R7Q8
import Derived.Test.YtedocinehadodaaCC30C31C32
namespace Go.Proofs.Ytedocinehadodaa
open Go.Eng
set_option linter.all false
attribute [local irreducible] DCallsG SWp Fct CallQ XCallQ LCallQ XLCallQ drun xrun

theorem costR_len {p : Plan} {rs : List Int} : (costR p rs).2.1.length ≤ 200 ∨ (costR p rs).2.1.length = 0 := by
  unfold costR
  split
  · exact .inr rfl
  next hp =>
  split
  · exact .inr rfl
  next hn =>
  split
  · exact .inr rfl
  split
  · exact .inr rfl
  · refine .inl ?_
    have := (planB_in (by simpa using hp)).2.2.2.1
    show (volsC p rs rs.length).length ≤ 200
    unfold volsC
    rw [List.length_map, List.length_range]; omega
theorem myoR_len {p : Plan} : (myoR p).2.1.length ≤ 200 := by
  unfold myoR
  split
  · exact Nat.zero_le _
  next hp =>
  have hp : planB p = true := by simpa using hp
  cases h : goM p p.inf.length with
  | none => exact Nat.zero_le _
  | some a =>
    obtain ⟨s, l, v⟩ := a
    have := (goM_in hp _ (Nat.le_refl _) h).2.2
    have h2 := (planB_in hp).2.2.2.1
    show l.length ≤ 200
    omega
set_option maxRecDepth 20000 in
set_option maxHeartbeats 16000000 in
theorem pforms_f (p : Plan) (rs : List Int) (m : Nat) (hq : planOk p) (hr : intsOk rs) : DCalls Try.prog 8 [planD p, ints rs] (hget []) m (lb true) (hget []) := by
  have cw := fun m => few45_f p m hq
  cases hfw : fewS p <;> simp only [hfw] at cw
  · refine pureC (n := 139) (rs := [.tmp 4]) (ts := [4]) Try.func8 rfl (by decide) [] (by (exact SD)) ?_
    (repeat' (first | refine swp_seq [0, 1, 2, 4, 5, 6, 7, 8, 9, 10, 11, 12, 13, 14, 15, 16, 17, 18, 19, 21, 29, 53, 55] ?_ | refine st2 ?_ | (show CallQ ..; first | refine cQ (fun hcc => (by first | exact awake45_f _ | exact cw _)) ?_ | (refine lP ?_; refine lQ (fun hcc m => (by first | exact awake45_f _ | exact cw _)) ?_)) | (show Fct ..; refine fctI (fun hf => ?_)) | (show SWp _ _ _ (.cond _ _ _) _ _ _ _; first | refine cB (fun hc => ?_) (fun hc => ?_) | refine cU ?_ ?_)))
    exact DVR
  by_cases h20 : (20 : Int) < (rs.length : Int)
  · (have := Nonempty.intro h20)
    refine pureC (n := 139) (rs := [.tmp 4]) (ts := [4]) Try.func8 rfl (by decide) [] (by (exact SD)) ?_
    (repeat' (first | refine swp_seq [0, 1, 2, 4, 5, 6, 7, 8, 9, 10, 11, 12, 13, 14, 15, 16, 17, 18, 19, 21, 29, 53, 55] ?_ | refine st2 ?_ | (show CallQ ..; first | refine cQ (fun hcc => (by first | exact awake45_f _ | exact cw _)) ?_ | (refine lP ?_; refine lQ (fun hcc m => (by first | exact awake45_f _ | exact cw _)) ?_)) | (show Fct ..; refine fctI (fun hf => ?_)) | (show SWp _ _ _ (.cond _ _ _) _ _ _ _; first | refine cB (fun hc => ?_) (fun hc => ?_) | refine cU ?_ ?_)))
    exact DVR
  (have := Nonempty.intro h20)
  have c1 := fun m => cost_f p rs m hq hr.1
  have c2 := fun m => relax_f p m hq
  have c3 := fun m => myopic_f p m hq
  have cv := fun m => rPValid_f p m hq
  have cp := fun m => pValid_f p m hq
  cases hp : planB p <;> simp only [hp] at cv cp
  · rw [show costR p rs = (0, [], 1) by unfold costR; rw [if_pos hp]] at c1
    rw [show relxR p = (0, 1) by unfold relxR; rw [if_pos hp]] at c2
    rw [show myoR p = (0, [], 1) by unfold myoR; rw [if_pos hp]] at c3
    refine pureC (n := 139) (rs := [.tmp 4]) (ts := [4]) Try.func8 rfl (by decide) [] (by (exact SD)) ?_
    (repeat' (first | refine swp_seq [0, 1, 2, 4, 5, 6, 7, 8, 9, 10, 11, 12, 13, 14, 15, 16, 17, 18, 19, 21, 29, 53, 55] ?_ | refine st2 ?_ | (show CallQ ..; first | refine cQ (fun hcc => (by first | exact awake45_f _ | exact cw _ | exact c1 _ | exact c2 _ | exact c3 _ | exact cv _ | exact cp _)) ?_ | (refine lP ?_; refine lQ (fun hcc m => (by first | exact awake45_f _ | exact cw _ | exact c1 _ | exact c2 _ | exact c3 _ | exact cv _ | exact cp _)) ?_)) | (show Fct ..; refine fctI (fun hf => ?_)) | (show SWp _ _ _ (.cond _ _ _) _ _ _ _; first | refine cB (fun hc => ?_) (fun hc => ?_) | refine cU ?_ ?_)))
    exact DVR
  have c4 := fun m => rCost_f p rs m hp hr.1
  have c5 := fun m => rrelax_f p m hp
  have c6 := fun m => rmyopic_f p m hp
  rw [show relxR p = (relP p, 0) by unfold relxR; rw [if_neg (by rw [hp]; decide)]] at c2
  have hl := @costR_len p rs
  have hl2 := @myoR_len p
  generalize costR p rs = R at *
  generalize myoR p = Y at *
  generalize relP p = Z at *
  obtain ⟨c, l, e⟩ := R
  obtain ⟨d, k, f⟩ := Y
  have hce : c = c := rfl
  have hee : e = e := rfl
  have hde : d = d := rfl
  have hfe : f = f := rfl
  have hze : Z = Z := rfl
  (have := Nonempty.intro hce)
  (have := Nonempty.intro hee)
  (have := Nonempty.intro hde)
  (have := Nonempty.intro hfe)
  (have := Nonempty.intro hze)
  dsimp only at hl hl2
  have e1 := fun m => eqlInt_f l l m (by omega) (by omega)
  have e2 := fun m => eqlInt_f k k m (by omega) (by omega)
  rw [decide_eq_true rfl] at e1 e2
  refine pureC (n := 139) (rs := [.tmp 4]) (ts := [4]) Try.func8 rfl (by decide) [] (by (exact SD)) ?_
  (repeat' (first | refine swp_seq [0, 1, 2, 4, 5, 6, 7, 8, 9, 10, 11, 12, 13, 14, 15, 16, 17, 18, 19, 21, 29, 53, 55] ?_ | refine st2 ?_ | (show CallQ ..; first | refine cQ (fun hcc => (by first | exact awake45_f _ | exact cw _ | exact c1 _ | exact c2 _ | exact c3 _ | exact cv _ | exact cp _ | exact c4 _ | exact c5 _ | exact c6 _ | exact e1 _ | exact e2 _)) ?_ | (refine lP ?_; refine lQ (fun hcc m => (by first | exact awake45_f _ | exact cw _ | exact c1 _ | exact c2 _ | exact c3 _ | exact cv _ | exact cp _ | exact c4 _ | exact c5 _ | exact c6 _ | exact e1 _ | exact e2 _)) ?_)) | (show Fct ..; refine fctI (fun hf => ?_)) | (show SWp _ _ _ (.cond _ _ _) _ _ _ _; first | refine cB (fun hc => ?_) (fun hc => ?_) | refine cU ?_ ?_)))
  exact DVR

end Go.Proofs.Ytedocinehadodaa
