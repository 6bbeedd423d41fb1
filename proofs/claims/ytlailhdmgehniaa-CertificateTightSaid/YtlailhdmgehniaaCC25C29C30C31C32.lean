/-
  Contracts of functions of the program, over the engine.
  No condition.
-/
import Derived.Test.YtlailhdmgehniaaCC20C21C22C23C24
import Derived.Test.YtlailhdmgehniaaCC9C10C11C12C13C14C15C16C17C19
import Derived.Test.YtlailhdmgehniaaCC0C1C2C3
namespace Go.Proofs.Ytlailhdmgehniaa
open Go.Eng
set_option linter.all false
attribute [local irreducible] DCallsG SWp Fct CallQ XCallQ LCallQ XLCallQ drun xrun

theorem O_frz (rs : List (List Int)) (k o : Nat) (x : FV) : (rows ilRow rs ++ List.replicate k nilRow).map (DV.frzL o x) = rows ilRow rs ++ List.replicate k nilRow := by
  rw [List.map_append, frz_rows, List.map_replicate]; rfl
theorem O_ren (rs : List (List Int)) (k a b : Nat) : (rows ilRow rs ++ List.replicate k nilRow).map (DV.renL a b) = rows ilRow rs ++ List.replicate k nilRow := by
  rw [List.map_append, ren_rows, List.map_replicate]; rfl
theorem O_uses (rs : List (List Int)) (k : Nat) (U : Nat → Prop) : DV.usesL U (rows ilRow rs ++ List.replicate k nilRow).flatten := by
  rw [List.flatten_append]
  refine usesL_append (uses_rows ilRow U rs) (usesL_iff.2 fun d hd => ?_)
  obtain ⟨r, hr, hd⟩ := List.mem_flatten.1 hd
  rw [List.eq_of_mem_replicate hr] at hd
  simp only [nilRow, List.mem_singleton] at hd
  subst hd; trivial
theorem O_set_uses {O : List (List DV)} {U : Nat → Prop} (h : DV.usesL U O.flatten) {K i : Nat} (hK : U K) : DV.usesL U (O.set i [.gl K]).flatten :=
  usesL_iff.2 fun d hd => by
    obtain ⟨r, hr, hd⟩ := List.mem_flatten.1 hd
    rcases List.mem_or_eq_of_mem_set hr with hr | rfl
    · exact usesL_iff.1 h d (List.mem_flatten.2 ⟨r, hr, hd⟩)
    · simp only [List.mem_singleton] at hd; subst hd; exact hK
theorem O_set {rs : List (List Int)} {k i : Nat} (hi : rs.length = i) (r : List Int) : (rows ilRow rs ++ List.replicate (k + 1) nilRow).set i [.p (.dat 1 (r.map inRow))] = rows ilRow (rs ++ [r]) ++ List.replicate k nilRow := by
  have hl : (rows ilRow rs).length = i := by simp [rows, hi]
  rw [List.set_append_right _ _ (by omega), hl, Nat.sub_self, List.replicate_succ, List.set_cons_zero, app_il, List.append_assoc]; rfl
theorem O_get {rs : List (List Int)} {k i : Nat} (hi : rs.length = i) : (rows ilRow rs ++ List.replicate (k + 1) nilRow).getD i [] = nilRow := by
  have hl : (rows ilRow rs).length = i := by simp [rows, hi]
  rw [List.getD_eq_getElem?_getD, List.getElem?_append_right (by omega), hl, Nat.sub_self]; rfl
theorem O_pv (rs : List (List Int)) (k : Nat) : ∃ y, pvLL (rows ilRow rs ++ List.replicate k nilRow) = some y := by
  have : rows ilRow rs ++ List.replicate k nilRow = rows (fun x : List PV => x) (rs.map ilRow ++ List.replicate k [.lit (.slice none 0 0)]) := by
    simp [rows, nilRow]
  rw [this, rows_pv]; exact ⟨_, rfl⟩
theorem own_nil (l : List (List DV)) (i : Nat) [h : Nonempty (l.getD i [] = nilRow)] : l.getD i [] = [.p (.lit (.slice none 0 0))] := h.elim id
attribute [push_cast] own_nil List.length_set
theorem rall_true {n : Nat} {f : Nat → Bool} (h : ∀ i, i < n → f i = true) : (List.range n).all f = true := List.all_eq_true.2 fun i hi => h i (List.mem_range.1 hi)
theorem rall_false {n i : Nat} {f : Nat → Bool} (hi : i < n) (h : f i = false) : (List.range n).all f = false := by
  rw [List.all_eq_false]; exact ⟨i, List.mem_range.2 hi, by simp [h]⟩
def fitsB (n : Int) : Bool := decide (-1125899906842624 ≤ n) && decide (n ≤ 1125899906842624)
def tabR (t : List Knot) (i : Nat) : Bool := fitsB (t.getD i default).x && fitsB (t.getD i default).y && (decide (i = 0) || (decide ((t.getD (i - 1) default).x < (t.getD i default).x) && decide ((t.getD (i - 1) default).y ≤ (t.getD i default).y)))
def tabB (t : List Knot) : Bool := decide (1 ≤ t.length) && decide (t.length ≤ 100) && (List.range t.length).all (tabR t)
theorem fitsT_f (n : Int) (m : Nat) : DCalls Try.prog 54 [li n] (hget []) m (lb (fitsB n)) (hget []) := by
  refine pureC (n := 9) (rs := [.tmp 2]) (ts := [4]) Try.func54 rfl (by decide) [] (by (exact SD)) ?_
  (repeat' (first | refine swp_seq [0, 2] ?_ | refine st2 ?_ | (show Fct ..; refine fctI (fun hf => ?_)) | (show SWp _ _ _ (.cond _ _ _) _ _ _ _; first | refine cB (fun hc => ?_) (fun hc => ?_) | refine cU ?_ ?_)))
  exact DVR
theorem rNumber_f (n : Int) (m : Nat) : DCalls Try.prog 46 [li n] (hget []) m (lb (fitsB n)) (hget []) := by
  refine pureC (n := 9) (rs := [.tmp 2]) (ts := [4]) Try.func46 rfl (by decide) [] (by (exact SD)) ?_
  (repeat' (first | refine swp_seq [0, 2] ?_ | refine st2 ?_ | (show Fct ..; refine fctI (fun hf => ?_)) | (show SWp _ _ _ (.cond _ _ _) _ _ _ _; first | refine cB (fun hc => ?_) (fun hc => ?_) | refine cU ?_ ?_)))
  exact DVR
theorem callT {g : FuncId} {C : List Nat} {args : List DV} {h h' : Nat → Option HV} {m : Nat} {d : DV} (k : DCallsG Try.prog g C args h m d h' := by first | exact fitsT_f _ _ | exact rNumber_f _ _) : DCallsG Try.prog g C args h m d h' := k
set_option maxHeartbeats 1000000 in
theorem tab_f (t : List Knot) (m : Nat) (hl : t.length ≤ 281474976710656) : DCalls Try.prog 48 [knotL t] (hget []) m (lb (tabB t)) (hget []) := by
  refine pureC (n := 57) (rs := [.tmp 2]) (ts := [4]) Try.func48 rfl (by decide) [] (by (exact SD)) ?_
  (repeat' (first | refine swp_seq [0, 2, 3, 4, 12, 13, 14, 15, 16, 55] ?_ | refine st2 ?_ | (show Fct ..; refine fctI (fun hf => ?_)) | (show SWp _ _ _ (.cond _ _ _) _ _ _ _; first | refine cB (fun hc => ?_) (fun hc => ?_) | refine cU ?_ ?_)))
  · (refine DVQ ?_)
    refine lbC ?_
    unfold tabB
    rcases hc with h | h
    · rw [decide_eq_false (by omega)]; rfl
    · rw [decide_eq_false (p := t.length ≤ 100) (by omega)]; simp
  · refine loop_swp [0, 13, 14, 15] [] 0 (fun q A H => ∃ i : Nat, i ≤ t.length ∧ q = t.length - i ∧ (∀ j, j < i → tabR t j = true) ∧ A = [(0, knotL t), (13, knotL t), (14, li t.length), (15, li i)] ∧ H = []) (by omega) ?_ ?_ ?_
    · rintro q A H ⟨i, h1, h2, h3, rfl, rfl⟩
      exact ⟨by (exact SD), by (exact SD)⟩
    · refine ⟨_, 0, by omega, rfl, by omega, ?_, ?_⟩
      · exact DVR
      · exact DVR
    · rintro q A H ⟨i, h1, h2, h3, rfl, rfl⟩
      (repeat' (first | refine swp_seq [0, 2, 3, 4, 12, 13, 14, 15, 16, 55] ?_ | refine st2 ?_ | (show CallQ ..; first | refine cQ (fun hcc => callT) ?_ | (refine lP ?_; refine lQ (fun hcc m => callT) ?_)) | (show XCallQ ..; first | refine xQ (fun hcc => callT) ?_ | (refine xlP ?_; refine xlQ (fun hcc m => callT) ?_)) | (show Fct ..; refine fctI (fun hf => ?_)) | (show SWp _ _ _ (.cond _ _ _) _ _ _ _; first | refine cB (fun hc => ?_) (fun hc => ?_) | refine cU ?_ ?_)))
      · (refine DVQ ?_)
        refine lbC ?_
        rw [tabB, rall_false (i := i) (by omega) (by unfold tabR; grind)]; simp
      · (refine lN [] ?_)
        exact ⟨_, by omega, i + 1, by omega, rfl, fun j hj => by
          by_cases e : j = i
          · subst e; unfold tabR; grind
          · exact h3 j (by omega), rfl, rfl⟩
      · (refine DVQ ?_)
        refine lbC ?_
        rw [tabB, rall_true fun j hj => h3 j (by omega)]
        simp; omega
set_option maxHeartbeats 1000000 in
theorem rTab_f (t : List Knot) (m : Nat) (hl : t.length ≤ 281474976710656) : DCalls Try.prog 31 [knotL t] (hget []) m (lb (tabB t)) (hget []) := by
  refine pureC (n := 64) (rs := [.tmp 2]) (ts := [4]) Try.func31 rfl (by decide) [] (by (exact SD)) ?_
  (repeat' (first | refine swp_seq [0, 2, 3, 11, 15, 33, 63] ?_ | refine st2 ?_ | (show Fct ..; refine fctI (fun hf => ?_)) | (show SWp _ _ _ (.cond _ _ _) _ _ _ _; first | refine cB (fun hc => ?_) (fun hc => ?_) | refine cU ?_ ?_)))
  · (refine DVQ ?_)
    refine lbC ?_
    unfold tabB
    rcases hc with h | h
    · rw [decide_eq_false (by omega)]; rfl
    · rw [decide_eq_false (p := t.length ≤ 100) (by omega)]; simp
  · refine loop_swp [0, 3] [] 0 (fun q A H => ∃ i : Nat, i ≤ t.length ∧ q = t.length - i ∧ (∀ j, j < i → tabR t j = true) ∧ A = [(0, knotL t), (3, li i)] ∧ H = []) (by omega) ?_ ?_ ?_
    · rintro q A H ⟨i, h1, h2, h3, rfl, rfl⟩
      exact ⟨by (exact SD), by (exact SD)⟩
    · refine ⟨_, 0, by omega, rfl, by omega, ?_, ?_⟩
      · exact DVR
      · exact DVR
    · rintro q A H ⟨i, h1, h2, h3, rfl, rfl⟩
      (repeat' (first | refine swp_seq [0, 2, 3, 11, 15, 33, 63] ?_ | refine st2 ?_ | (show CallQ ..; first | refine cQ (fun hcc => callT) ?_ | (refine lP ?_; refine lQ (fun hcc m => callT) ?_)) | (show XCallQ ..; first | refine xQ (fun hcc => callT) ?_ | (refine xlP ?_; refine xlQ (fun hcc m => callT) ?_)) | (show Fct ..; refine fctI (fun hf => ?_)) | (show SWp _ _ _ (.cond _ _ _) _ _ _ _; first | refine cB (fun hc => ?_) (fun hc => ?_) | refine cU ?_ ?_)))
      · (refine DVQ ?_)
        refine lbC ?_
        rw [tabB, rall_false (i := i) (by omega) (by unfold tabR; grind)]; simp
      · (refine DVQ ?_)
        refine lbC ?_
        rw [tabB, rall_false (i := i) (by omega) (by unfold tabR; grind)]; simp
      · (refine lN [] ?_)
        exact ⟨_, by omega, i + 1, by omega, rfl, fun j hj => by
          by_cases e : j = i
          · subst e; unfold tabR; grind
          · exact h3 j (by omega), rfl, rfl⟩
      · (refine DVQ ?_)
        refine lbC ?_
        rw [tabB, rall_true fun j hj => h3 j (by omega)]
        simp; omega
def volP (n : Int) : Bool := decide (0 ≤ n) && decide (n ≤ 1099511627776)
def relR (l : List Int) (i : Nat) : Bool := volP (l.getD i default) && (decide (i = 0) || decide (l.getD (i - 1) default < l.getD i default))
def headB (p : Plan) : Bool := (decide (1 ≤ p.cap) && decide (p.cap ≤ 1099511627776)) && (decide (0 ≤ p.res) && decide (p.res ≤ p.cap)) && (decide (p.res ≤ p.start) && decide (p.start ≤ p.cap)) && decide (p.inf.length ≤ 200) && (decide (1 ≤ p.rel.length) && decide (p.rel.length ≤ 20)) && (decide (0 ≤ p.wei) && decide (p.wei ≤ 1000)) && tabB p.pen
def planB (p : Plan) : Bool := headB p && (List.range p.inf.length).all (fun i => volP (p.inf.getD i default)) && (List.range p.rel.length).all (relR p.rel) && (decide (0 ≤ (p.pen.getD 0 default).y) && decide ((p.pen.getD (p.pen.length - 1) default).y ≤ 1099511627776))
theorem withinP_f (n a b : Int) (m : Nat) : DCalls Try.prog 47 [li n, li a, li b] (hget []) m (lb (decide (a ≤ n) && decide (n ≤ b))) (hget []) := by
  refine pureC (n := 15) (rs := [.tmp 6]) (ts := [4]) Try.func47 rfl (by decide) [] (by (exact SD)) ?_
  (repeat' (first | refine swp_seq [0, 1, 2, 6] ?_ | refine st2 ?_ | (show Fct ..; refine fctI (fun hf => ?_)) | (show SWp _ _ _ (.cond _ _ _) _ _ _ _; first | refine cB (fun hc => ?_) (fun hc => ?_) | refine cU ?_ ?_)))
  exact DVR
set_option maxRecDepth 20000 in
set_option maxHeartbeats 8000000 in
theorem pValid_f (p : Plan) (m : Nat) (hp : planOk p) : DCalls Try.prog 33 [planD p] (hget []) m (lb (planB p)) (hget []) := by
  obtain ⟨k1, k2, k3, k4, k5, k6, k7⟩ := hp
  have ct := fun m => tab_f p.pen m k6.1
  refine pureC (n := 109) (rs := [.tmp 2]) (ts := [4]) Try.func33 rfl (by decide) [] (by (exact SD)) ?_
  (repeat' (first | refine swp_seq [0, 1, 2, 4, 5, 6, 53, 55, 56, 57, 58, 63, 66, 67, 68, 69, 89] ?_ | refine st2 ?_ | (show CallQ ..; first | refine cQ (fun hcc => (by first | exact withinP_f _ _ _ _ | exact ct _)) ?_ | (refine lP ?_; refine lQ (fun hcc m => (by first | exact withinP_f _ _ _ _ | exact ct _)) ?_)) | (show Fct ..; refine fctI (fun hf => ?_)) | (show SWp _ _ _ (.cond _ _ _) _ _ _ _; first | refine cB (fun hc => ?_) (fun hc => ?_) | refine cU ?_ ?_)))
  · have h0 : headB p = false := by unfold headB; grind
    (refine DVQ ?_)
    refine lbC ?_
    unfold planB; rw [h0]; rfl
  have h0 : headB p = true := by unfold headB; grind
  have hpl : 1 ≤ p.pen.length := by
    unfold headB at h0
    simp only [Bool.and_eq_true] at h0
    have := h0.2
    unfold tabB at this
    simp only [Bool.and_eq_true, decide_eq_true_eq] at this
    exact this.1.1
  refine loop_swp [1, 55, 56, 57] [0] 1 (fun q A H => ∃ i : Nat, i ≤ p.inf.length ∧ q = p.inf.length - i ∧ (∀ j, j < i → volP (p.inf.getD j default) = true) ∧ A = [(1, .ptr 0 0), (55, ints p.inf), (56, li p.inf.length), (57, li i)] ∧ H = [(0, .blk 26 (planC p))]) (by omega) ?_ ?_ ?_
  · rintro q A H ⟨i, g1, g2, g3, rfl, rfl⟩
    exact ⟨by (exact SD), by (exact SD)⟩
  · refine ⟨_, 0, by omega, rfl, by omega, ?_, ?_⟩
    · exact DVR
    · exact DVR
  rintro q A H ⟨i, g1, g2, g3, rfl, rfl⟩
  by_cases hi : i < p.inf.length
  · have hi3 : (i : Int) < (p.inf.length : Int) := by omega
    (have := Nonempty.intro hi3)
    have cw : ∀ m, DCalls Try.prog 47 [li (p.inf.getD i default), li 0, li 1099511627776] (hget []) m (lb (volP (p.inf.getD i default))) (hget []) := fun m => withinP_f _ 0 1099511627776 m
    cases hv : volP (p.inf.getD i default) <;> simp only [hv] at cw
    · (repeat' (first | refine swp_seq [0, 1, 2, 4, 5, 6, 53, 55, 56, 57, 58, 63, 66, 67, 68, 69, 89] ?_ | refine st2 ?_ | (show CallQ ..; first | refine cQ (fun hcc => (cw _)) ?_ | (refine lP ?_; refine lQ (fun hcc m => (cw _)) ?_)) | (show Fct ..; refine fctI (fun hf => ?_)) | (show SWp _ _ _ (.cond _ _ _) _ _ _ _; first | refine cB (fun hc => ?_) (fun hc => ?_) | refine cU ?_ ?_)))
      (refine DVQ ?_)
      refine lbC ?_
      rw [planB, rall_false (f := fun i => volP (p.inf.getD i default)) hi hv]; simp
    · (repeat' (first | refine swp_seq [0, 1, 2, 4, 5, 6, 53, 55, 56, 57, 58, 63, 66, 67, 68, 69, 89] ?_ | refine st2 ?_ | (show CallQ ..; first | refine cQ (fun hcc => (cw _)) ?_ | (refine lP ?_; refine lQ (fun hcc m => (cw _)) ?_)) | (show Fct ..; refine fctI (fun hf => ?_)) | (show SWp _ _ _ (.cond _ _ _) _ _ _ _; first | refine cB (fun hc => ?_) (fun hc => ?_) | refine cU ?_ ?_)))
      (refine lN [0] ?_)
      exact ⟨_, by omega, i + 1, by omega, rfl, fun j hj => by
        by_cases e : j = i
        · subst e; exact hv
        · exact g3 j (by omega), rfl, rfl⟩
  have hi3 : ¬ ((i : Int) < (p.inf.length : Int)) := by omega
  (have := Nonempty.intro hi3)
  have hall1 := rall_true (f := fun i => volP (p.inf.getD i default)) (n := p.inf.length) fun j hj => g3 j (by omega)
  (repeat' (first | refine swp_seq [0, 1, 2, 4, 5, 6, 53, 55, 56, 57, 58, 63, 66, 67, 68, 69, 89] ?_ | refine st2 ?_ | (show Fct ..; refine fctI (fun hf => ?_)) | (show SWp _ _ _ (.cond _ _ _) _ _ _ _; first | refine cB (fun hc => ?_) (fun hc => ?_) | refine cU ?_ ?_)))
  refine loop_swp [1, 66, 67, 68] [0] 1 (fun q A H => ∃ i : Nat, i ≤ p.rel.length ∧ q = p.rel.length - i ∧ (∀ j, j < i → relR p.rel j = true) ∧ A = [(1, .ptr 0 0), (66, ints p.rel), (67, li p.rel.length), (68, li i)] ∧ H = [(0, .blk 26 (planC p))]) (by omega) ?_ ?_ ?_
  · rintro q A H ⟨i, g1, g2, g3, rfl, rfl⟩
    exact ⟨by (exact SD), by (exact SD)⟩
  · refine ⟨_, 0, by omega, rfl, by omega, ?_, ?_⟩
    · exact DVR
    · exact DVR
  clear hi hi3 g1 g2 g3
  rintro q A H ⟨i, g1, g2, g3, rfl, rfl⟩
  by_cases hi : i < p.rel.length
  · have hi3 : (i : Int) < (p.rel.length : Int) := by omega
    (have := Nonempty.intro hi3)
    have cw : ∀ m, DCalls Try.prog 47 [li (p.rel.getD i default), li 0, li 1099511627776] (hget []) m (lb (volP (p.rel.getD i default))) (hget []) := fun m => withinP_f _ 0 1099511627776 m
    have hret : relR p.rel i = false → planB p = false := fun hr => by
      rw [planB, rall_false (f := relR p.rel) hi hr]; simp
    have hgo : relR p.rel i = true → ∀ j, j < i + 1 → relR p.rel j = true := fun hr j hj => by
      by_cases e : j = i
      · subst e; exact hr
      · exact g3 j (by omega)
    cases hv : volP (p.rel.getD i default) <;> simp only [hv] at cw
    · (repeat' (first | refine swp_seq [0, 1, 2, 4, 5, 6, 53, 55, 56, 57, 58, 63, 66, 67, 68, 69, 89] ?_ | refine st2 ?_ | (show CallQ ..; first | refine cQ (fun hcc => (cw _)) ?_ | (refine lP ?_; refine lQ (fun hcc m => (cw _)) ?_)) | (show Fct ..; refine fctI (fun hf => ?_)) | (show SWp _ _ _ (.cond _ _ _) _ _ _ _; first | refine cB (fun hc => ?_) (fun hc => ?_) | refine cU ?_ ?_)))
      (refine DVQ ?_)
      refine lbC ?_
      rw [hret (by unfold relR; rw [hv]; rfl)]
    · by_cases hz : 0 < (i : Int)
      · (have := Nonempty.intro hz)
        by_cases hl : p.rel.getD i default ≤ p.rel.getD (i - 1) default
        · (have := Nonempty.intro hl)
          (repeat' (first | refine swp_seq [0, 1, 2, 4, 5, 6, 53, 55, 56, 57, 58, 63, 66, 67, 68, 69, 89] ?_ | refine st2 ?_ | (show CallQ ..; first | refine cQ (fun hcc => (cw _)) ?_ | (refine lP ?_; refine lQ (fun hcc m => (cw _)) ?_)) | (show Fct ..; refine fctI (fun hf => ?_)) | (show SWp _ _ _ (.cond _ _ _) _ _ _ _; first | refine cB (fun hc => ?_) (fun hc => ?_) | refine cU ?_ ?_)))
          (refine DVQ ?_)
          refine lbC ?_
          rw [hret (by unfold relR; rw [hv, decide_eq_false (by omega), decide_eq_false (by omega)]; rfl)]
        · (have := Nonempty.intro hl)
          (repeat' (first | refine swp_seq [0, 1, 2, 4, 5, 6, 53, 55, 56, 57, 58, 63, 66, 67, 68, 69, 89] ?_ | refine st2 ?_ | (show CallQ ..; first | refine cQ (fun hcc => (cw _)) ?_ | (refine lP ?_; refine lQ (fun hcc m => (cw _)) ?_)) | (show Fct ..; refine fctI (fun hf => ?_)) | (show SWp _ _ _ (.cond _ _ _) _ _ _ _; first | refine cB (fun hc => ?_) (fun hc => ?_) | refine cU ?_ ?_)))
          (refine lN [0] ?_)
          exact ⟨_, by omega, i + 1, by omega, rfl, hgo (by unfold relR; rw [hv, decide_eq_true (p := p.rel.getD (i - 1) default < p.rel.getD i default) (by omega)]; simp), rfl, rfl⟩
      · (have := Nonempty.intro hz)
        (repeat' (first | refine swp_seq [0, 1, 2, 4, 5, 6, 53, 55, 56, 57, 58, 63, 66, 67, 68, 69, 89] ?_ | refine st2 ?_ | (show CallQ ..; first | refine cQ (fun hcc => (cw _)) ?_ | (refine lP ?_; refine lQ (fun hcc m => (cw _)) ?_)) | (show Fct ..; refine fctI (fun hf => ?_)) | (show SWp _ _ _ (.cond _ _ _) _ _ _ _; first | refine cB (fun hc => ?_) (fun hc => ?_) | refine cU ?_ ?_)))
        (refine lN [0] ?_)
        exact ⟨_, by omega, i + 1, by omega, rfl, hgo (by unfold relR; rw [hv, decide_eq_true (p := i = 0) (by omega)]; rfl), rfl, rfl⟩
  have hi3 : ¬ ((i : Int) < (p.rel.length : Int)) := by omega
  (have := Nonempty.intro hi3)
  have hall2 := rall_true (f := relR p.rel) (n := p.rel.length) fun j hj => g3 j (by omega)
  (repeat' (first | refine swp_seq [0, 1, 2, 4, 5, 6, 53, 55, 56, 57, 58, 63, 66, 67, 68, 69, 89] ?_ | refine st2 ?_ | (show Fct ..; refine fctI (fun hf => ?_)) | (show SWp _ _ _ (.cond _ _ _) _ _ _ _; first | refine cB (fun hc => ?_) (fun hc => ?_) | refine cU ?_ ?_)))
  (refine DVQ ?_)
  refine lbC ?_
  unfold planB
  rw [h0, hall1, hall2]
  simp only [Bool.true_and]
theorem rVolume_f (n : Int) (m : Nat) : DCalls Try.prog 32 [li n] (hget []) m (lb (volP n)) (hget []) := by
  refine pureC (n := 9) (rs := [.tmp 2]) (ts := [4]) Try.func32 rfl (by decide) [] (by (exact SD)) ?_
  (repeat' (first | refine swp_seq [0, 2] ?_ | refine st2 ?_ | (show Fct ..; refine fctI (fun hf => ?_)) | (show SWp _ _ _ (.cond _ _ _) _ _ _ _; first | refine cB (fun hc => ?_) (fun hc => ?_) | refine cU ?_ ?_)))
  exact DVR
theorem tab_mono {t : List Knot} (h : tabB t = true) : ∀ {i j : Nat}, i ≤ j → j < t.length → (t.getD i default).y ≤ (t.getD j default).y := fun {i j} hij hj => by
  have hs : ∀ k, k + 1 < t.length → (t.getD k default).y ≤ (t.getD (k + 1) default).y := fun k hk => by
    unfold tabB at h
    simp only [Bool.and_eq_true, List.all_eq_true, List.mem_range] at h
    have := h.2 (k + 1) hk
    unfold tabR at this
    simp only [Bool.and_eq_true, Bool.or_eq_true, decide_eq_true_eq] at this
    rcases this.2 with q | q
    · omega
    · simpa using q.2
  induction j with
  | zero => have : i = 0 := by omega
            rw [this]; exact Int.le_refl _
  | succ j ih =>
    by_cases e : i = j + 1
    · rw [e]; exact Int.le_refl _
    · exact Int.le_trans (ih (by omega) (by omega)) (hs j (by omega))
theorem pen_ends {t : List Knot} (h : tabB t = true) : (decide (0 ≤ (t.getD 0 default).y) && decide ((t.getD (t.length - 1) default).y ≤ 1099511627776)) = (List.range t.length).all fun i => volP (t.getD i default).y := by
  have hl : 1 ≤ t.length := by
    unfold tabB at h
    simp only [Bool.and_eq_true, decide_eq_true_eq] at h
    exact h.1.1
  rw [Bool.eq_iff_iff, Bool.and_eq_true, decide_eq_true_eq, decide_eq_true_eq, List.all_eq_true]
  constructor
  · rintro ⟨h1, h2⟩ i hi
    have hi := List.mem_range.1 hi
    have a := tab_mono h (Nat.zero_le i) hi
    have b := tab_mono h (by omega : i ≤ t.length - 1) (by omega)
    unfold volP
    rw [Bool.and_eq_true, decide_eq_true_eq, decide_eq_true_eq]
    omega
  · intro hv
    have a := hv 0 (List.mem_range.2 (by omega))
    have b := hv (t.length - 1) (List.mem_range.2 (by omega))
    unfold volP at a b
    rw [Bool.and_eq_true, decide_eq_true_eq, decide_eq_true_eq] at a b
    exact ⟨a.1, b.2⟩
set_option maxRecDepth 20000 in
set_option maxHeartbeats 8000000 in
theorem rPValid_f (p : Plan) (m : Nat) (hp : planOk p) : DCalls Try.prog 15 [planD p] (hget []) m (lb (planB p)) (hget []) := by
  obtain ⟨k1, k2, k3, k4, k5, k6, k7⟩ := hp
  have ct := fun m => rTab_f p.pen m k6.1
  refine pureC (n := 143) (rs := [.tmp 2]) (ts := [4]) Try.func15 rfl (by decide) [] (by (exact SD)) ?_
  (repeat' (first | refine swp_seq [0, 1, 2, 3, 4, 5, 73, 78, 87, 92, 119, 124, 142] ?_ | refine st2 ?_ | (show CallQ ..; first | refine cQ (fun hcc => (ct _)) ?_ | (refine lP ?_; refine lQ (fun hcc m => (ct _)) ?_)) | (show XCallQ ..; first | refine xQ (fun hcc => (ct _)) ?_ | (refine xlP ?_; refine xlQ (fun hcc m => (ct _)) ?_)) | (show Fct ..; refine fctI (fun hf => ?_)) | (show SWp _ _ _ (.cond _ _ _) _ _ _ _; first | refine cB (fun hc => ?_) (fun hc => ?_) | refine cU ?_ ?_)))
  · have h0 : headB p = false := by unfold headB; grind
    (refine DVQ ?_)
    refine lbC ?_
    unfold planB; rw [h0]; rfl
  have h0 : headB p = true := by unfold headB; grind
  have hpl : 1 ≤ p.pen.length := by
    unfold headB at h0
    simp only [Bool.and_eq_true] at h0
    have := h0.2
    unfold tabB at this
    simp only [Bool.and_eq_true, decide_eq_true_eq] at this
    exact this.1.1
  refine loop_swp [1, 3] [0] 1 (fun q A H => ∃ i : Nat, i ≤ p.inf.length ∧ q = p.inf.length - i ∧ (∀ j, j < i → volP (p.inf.getD j default) = true) ∧ A = [(1, .ptr 0 0), (3, li i)] ∧ H = [(0, .blk 26 (planC p))]) (by omega) ?_ ?_ ?_
  · rintro q A H ⟨i, g1, g2, g3, rfl, rfl⟩
    exact ⟨by (exact SD), by (exact SD)⟩
  · refine ⟨_, 0, by omega, rfl, by omega, ?_, ?_⟩
    · exact DVR
    · exact DVR
  rintro q A H ⟨i, g1, g2, g3, rfl, rfl⟩
  by_cases hi : i < p.inf.length
  · have hi3 : (i : Int) < (p.inf.length : Int) := by omega
    (have := Nonempty.intro hi3)
    have cw : ∀ m, DCalls Try.prog 32 [li (p.inf.getD i default)] (hget []) m (lb (volP (p.inf.getD i default))) (hget []) := fun m => rVolume_f _ m
    cases hv : volP (p.inf.getD i default) <;> simp only [hv] at cw
    · (repeat' (first | refine swp_seq [0, 1, 2, 3, 4, 5, 73, 78, 87, 92, 119, 124, 142] ?_ | refine st2 ?_ | (show CallQ ..; first | refine cQ (fun hcc => (cw _)) ?_ | (refine lP ?_; refine lQ (fun hcc m => (cw _)) ?_)) | (show XCallQ ..; first | refine xQ (fun hcc => (cw _)) ?_ | (refine xlP ?_; refine xlQ (fun hcc m => (cw _)) ?_)) | (show Fct ..; refine fctI (fun hf => ?_)) | (show SWp _ _ _ (.cond _ _ _) _ _ _ _; first | refine cB (fun hc => ?_) (fun hc => ?_) | refine cU ?_ ?_)))
      (refine DVQ ?_)
      refine lbC ?_
      rw [planB, rall_false (f := fun i => volP (p.inf.getD i default)) hi hv]; simp
    · (repeat' (first | refine swp_seq [0, 1, 2, 3, 4, 5, 73, 78, 87, 92, 119, 124, 142] ?_ | refine st2 ?_ | (show CallQ ..; first | refine cQ (fun hcc => (cw _)) ?_ | (refine lP ?_; refine lQ (fun hcc m => (cw _)) ?_)) | (show XCallQ ..; first | refine xQ (fun hcc => (cw _)) ?_ | (refine xlP ?_; refine xlQ (fun hcc m => (cw _)) ?_)) | (show Fct ..; refine fctI (fun hf => ?_)) | (show SWp _ _ _ (.cond _ _ _) _ _ _ _; first | refine cB (fun hc => ?_) (fun hc => ?_) | refine cU ?_ ?_)))
      (refine lN [0] ?_)
      exact ⟨_, by omega, i + 1, by omega, rfl, fun j hj => by
        by_cases e : j = i
        · subst e; exact hv
        · exact g3 j (by omega), rfl, rfl⟩
  have hi3 : ¬ ((i : Int) < (p.inf.length : Int)) := by omega
  (have := Nonempty.intro hi3)
  have hall1 := rall_true (f := fun i => volP (p.inf.getD i default)) (n := p.inf.length) fun j hj => g3 j (by omega)
  (repeat' (first | refine swp_seq [0, 1, 2, 3, 4, 5, 73, 78, 87, 92, 119, 124, 142] ?_ | refine st2 ?_ | (show Fct ..; refine fctI (fun hf => ?_)) | (show SWp _ _ _ (.cond _ _ _) _ _ _ _; first | refine cB (fun hc => ?_) (fun hc => ?_) | refine cU ?_ ?_)))
  refine loop_swp [1, 4] [0] 1 (fun q A H => ∃ i : Nat, i ≤ p.rel.length ∧ q = p.rel.length - i ∧ (∀ j, j < i → relR p.rel j = true) ∧ A = [(1, .ptr 0 0), (4, li i)] ∧ H = [(0, .blk 26 (planC p))]) (by omega) ?_ ?_ ?_
  · rintro q A H ⟨i, g1, g2, g3, rfl, rfl⟩
    exact ⟨by (exact SD), by (exact SD)⟩
  · refine ⟨_, 0, by omega, rfl, by omega, ?_, ?_⟩
    · exact DVR
    · exact DVR
  clear hi hi3 g1 g2 g3
  rintro q A H ⟨i, g1, g2, g3, rfl, rfl⟩
  by_cases hi : i < p.rel.length
  · have hi3 : (i : Int) < (p.rel.length : Int) := by omega
    (have := Nonempty.intro hi3)
    have cw : ∀ m, DCalls Try.prog 32 [li (p.rel.getD i default)] (hget []) m (lb (volP (p.rel.getD i default))) (hget []) := fun m => rVolume_f _ m
    have hret : relR p.rel i = false → planB p = false := fun hr => by
      rw [planB, rall_false (f := relR p.rel) hi hr]; simp
    have hgo : relR p.rel i = true → ∀ j, j < i + 1 → relR p.rel j = true := fun hr j hj => by
      by_cases e : j = i
      · subst e; exact hr
      · exact g3 j (by omega)
    cases hv : volP (p.rel.getD i default) <;> simp only [hv] at cw
    · (repeat' (first | refine swp_seq [0, 1, 2, 3, 4, 5, 73, 78, 87, 92, 119, 124, 142] ?_ | refine st2 ?_ | (show CallQ ..; first | refine cQ (fun hcc => (cw _)) ?_ | (refine lP ?_; refine lQ (fun hcc m => (cw _)) ?_)) | (show XCallQ ..; first | refine xQ (fun hcc => (cw _)) ?_ | (refine xlP ?_; refine xlQ (fun hcc m => (cw _)) ?_)) | (show Fct ..; refine fctI (fun hf => ?_)) | (show SWp _ _ _ (.cond _ _ _) _ _ _ _; first | refine cB (fun hc => ?_) (fun hc => ?_) | refine cU ?_ ?_)))
      (refine DVQ ?_)
      refine lbC ?_
      rw [hret (by unfold relR; rw [hv]; rfl)]
    · by_cases hz : 0 < (i : Int)
      · (have := Nonempty.intro hz)
        by_cases hl : p.rel.getD i default ≤ p.rel.getD (i - 1) default
        · (have := Nonempty.intro hl)
          (repeat' (first | refine swp_seq [0, 1, 2, 3, 4, 5, 73, 78, 87, 92, 119, 124, 142] ?_ | refine st2 ?_ | (show CallQ ..; first | refine cQ (fun hcc => (cw _)) ?_ | (refine lP ?_; refine lQ (fun hcc m => (cw _)) ?_)) | (show XCallQ ..; first | refine xQ (fun hcc => (cw _)) ?_ | (refine xlP ?_; refine xlQ (fun hcc m => (cw _)) ?_)) | (show Fct ..; refine fctI (fun hf => ?_)) | (show SWp _ _ _ (.cond _ _ _) _ _ _ _; first | refine cB (fun hc => ?_) (fun hc => ?_) | refine cU ?_ ?_)))
          (refine DVQ ?_)
          refine lbC ?_
          rw [hret (by unfold relR; rw [hv, decide_eq_false (by omega), decide_eq_false (by omega)]; rfl)]
        · (have := Nonempty.intro hl)
          (repeat' (first | refine swp_seq [0, 1, 2, 3, 4, 5, 73, 78, 87, 92, 119, 124, 142] ?_ | refine st2 ?_ | (show CallQ ..; first | refine cQ (fun hcc => (cw _)) ?_ | (refine lP ?_; refine lQ (fun hcc m => (cw _)) ?_)) | (show XCallQ ..; first | refine xQ (fun hcc => (cw _)) ?_ | (refine xlP ?_; refine xlQ (fun hcc m => (cw _)) ?_)) | (show Fct ..; refine fctI (fun hf => ?_)) | (show SWp _ _ _ (.cond _ _ _) _ _ _ _; first | refine cB (fun hc => ?_) (fun hc => ?_) | refine cU ?_ ?_)))
          (refine lN [0] ?_)
          exact ⟨_, by omega, i + 1, by omega, rfl, hgo (by unfold relR; rw [hv, decide_eq_true (p := p.rel.getD (i - 1) default < p.rel.getD i default) (by omega)]; simp), rfl, rfl⟩
      · (have := Nonempty.intro hz)
        (repeat' (first | refine swp_seq [0, 1, 2, 3, 4, 5, 73, 78, 87, 92, 119, 124, 142] ?_ | refine st2 ?_ | (show CallQ ..; first | refine cQ (fun hcc => (cw _)) ?_ | (refine lP ?_; refine lQ (fun hcc m => (cw _)) ?_)) | (show XCallQ ..; first | refine xQ (fun hcc => (cw _)) ?_ | (refine xlP ?_; refine xlQ (fun hcc m => (cw _)) ?_)) | (show Fct ..; refine fctI (fun hf => ?_)) | (show SWp _ _ _ (.cond _ _ _) _ _ _ _; first | refine cB (fun hc => ?_) (fun hc => ?_) | refine cU ?_ ?_)))
        (refine lN [0] ?_)
        exact ⟨_, by omega, i + 1, by omega, rfl, hgo (by unfold relR; rw [hv, decide_eq_true (p := i = 0) (by omega)]; rfl), rfl, rfl⟩
  have hi3 : ¬ ((i : Int) < (p.rel.length : Int)) := by omega
  (have := Nonempty.intro hi3)
  have hall2 := rall_true (f := relR p.rel) (n := p.rel.length) fun j hj => g3 j (by omega)
  have htb : tabB p.pen = true := by
    unfold headB at h0
    simp only [Bool.and_eq_true] at h0
    exact h0.2
  have hends := pen_ends htb
  have hp2 : planB p = (List.range p.pen.length).all fun i => volP (p.pen.getD i default).y := by
    unfold planB; rw [h0, hall1, hall2, hends]; simp only [Bool.true_and]
  rw [hp2]
  (repeat' (first | refine swp_seq [0, 1, 2, 3, 4, 5, 73, 78, 87, 92, 119, 124, 142] ?_ | refine st2 ?_ | (show Fct ..; refine fctI (fun hf => ?_)) | (show SWp _ _ _ (.cond _ _ _) _ _ _ _; first | refine cB (fun hc => ?_) (fun hc => ?_) | refine cU ?_ ?_)))
  refine loop_swp [1, 5] [0] 1 (fun q A H => ∃ i : Nat, i ≤ p.pen.length ∧ q = p.pen.length - i ∧ (∀ j, j < i → volP (p.pen.getD j default).y = true) ∧ A = [(1, .ptr 0 0), (5, li i)] ∧ H = [(0, .blk 26 (planC p))]) (by omega) ?_ ?_ ?_
  · rintro q A H ⟨i, g1, g2, g3, rfl, rfl⟩
    exact ⟨by (exact SD), by (exact SD)⟩
  · refine ⟨_, 0, by omega, rfl, by omega, ?_, ?_⟩
    · exact DVR
    · exact DVR
  clear hi hi3 g1 g2 g3
  rintro q A H ⟨i, g1, g2, g3, rfl, rfl⟩
  by_cases hi : i < p.pen.length
  · have hi3 : (i : Int) < (p.pen.length : Int) := by omega
    (have := Nonempty.intro hi3)
    have hret : volP (p.pen.getD i default).y = false → ((List.range p.pen.length).all fun i => volP (p.pen.getD i default).y) = false := fun hr => rall_false (f := fun i => volP (p.pen.getD i default).y) hi hr
    by_cases y1 : (p.pen.getD i default).y < 0
    · (have := Nonempty.intro y1)
      (repeat' (first | refine swp_seq [0, 1, 2, 3, 4, 5, 73, 78, 87, 92, 119, 124, 142] ?_ | refine st2 ?_ | (show Fct ..; refine fctI (fun hf => ?_)) | (show SWp _ _ _ (.cond _ _ _) _ _ _ _; first | refine cB (fun hc => ?_) (fun hc => ?_) | refine cU ?_ ?_)))
      (refine DVQ ?_)
      refine lbC ?_
      rw [hret (by unfold volP; rw [decide_eq_false (by omega)]; rfl)]
    · (have := Nonempty.intro y1)
      by_cases y2 : 1099511627776 < (p.pen.getD i default).y
      · (have := Nonempty.intro y2)
        (repeat' (first | refine swp_seq [0, 1, 2, 3, 4, 5, 73, 78, 87, 92, 119, 124, 142] ?_ | refine st2 ?_ | (show Fct ..; refine fctI (fun hf => ?_)) | (show SWp _ _ _ (.cond _ _ _) _ _ _ _; first | refine cB (fun hc => ?_) (fun hc => ?_) | refine cU ?_ ?_)))
        (refine DVQ ?_)
        refine lbC ?_
        rw [hret (by unfold volP; rw [decide_eq_false (p := (p.pen.getD i default).y ≤ 1099511627776) (by omega), Bool.and_false])]
      · (have := Nonempty.intro y2)
        (repeat' (first | refine swp_seq [0, 1, 2, 3, 4, 5, 73, 78, 87, 92, 119, 124, 142] ?_ | refine st2 ?_ | (show Fct ..; refine fctI (fun hf => ?_)) | (show SWp _ _ _ (.cond _ _ _) _ _ _ _; first | refine cB (fun hc => ?_) (fun hc => ?_) | refine cU ?_ ?_)))
        (refine lN [0] ?_)
        exact ⟨_, by omega, i + 1, by omega, rfl, fun j hj => by
          by_cases e : j = i
          · subst e; unfold volP; rw [decide_eq_true (by omega), decide_eq_true (by omega)]; rfl
          · exact g3 j (by omega), rfl, rfl⟩
  have hi3 : ¬ ((i : Int) < (p.pen.length : Int)) := by omega
  (have := Nonempty.intro hi3)
  have hall3 := rall_true (f := fun i => volP (p.pen.getD i default).y) (n := p.pen.length) fun j hj => g3 j (by omega)
  rw [hall3]
  (repeat' (first | refine swp_seq [0, 1, 2, 3, 4, 5, 73, 78, 87, 92, 119, 124, 142] ?_ | refine st2 ?_ | (show Fct ..; refine fctI (fun hf => ?_)) | (show SWp _ _ _ (.cond _ _ _) _ _ _ _; first | refine cB (fun hc => ?_) (fun hc => ?_) | refine cU ?_ ?_)))
  exact DVR

end Go.Proofs.Ytlailhdmgehniaa
