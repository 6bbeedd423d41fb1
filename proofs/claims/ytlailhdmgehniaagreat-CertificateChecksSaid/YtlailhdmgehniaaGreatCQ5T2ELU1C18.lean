/-
  Contracts of functions of the program, over the engine.
  No condition.
-/
import Derived.Test.YtlailhdmgehniaaGreatCQ4P12
import Derived.Test.YtlailhdmgehniaaGreatCQ0P11
import Derived.Test.YtlailhdmgehniaaGreatCC0C1
import Derived.Test.YtlailhdmgehniaaGreatCC9C10C13C19C29
import Derived.Test.YtlailhdmgehniaaGreatCC2C3C6
import Derived.Test.YtlailhdmgehniaaGreatEngV
import Derived.Test.YtlailhdmgehniaaGreatRows
namespace Go.Proofs.YtlailhdmgehniaaGreat
open Go.Eng
set_option linter.all false
attribute [local irreducible] DCallsG SWp Fct CallQ XCallQ LCallQ XLCallQ drun xrun

theorem costX_len (p : Plan) (s : Nat) (v : Int) (N : Nat) : (costX p s v N).length = N + 1 := by simp [costX]
theorem costX_get (p : Plan) (s : Nat) (v : Int) (N : Nat) {j : Nat} (hj : j < N + 1) : (costX p s v N).getD j default = cRow p s v N j := by
  unfold costX
  rw [List.getD_eq_getElem?_getD, List.getElem?_map, List.getElem?_range hj]; rfl
theorem cRow_choice {p : Plan} {s : Nat} {v : Int} {N j : Nat} (hp : planB p = true) (hN : s + N = p.inf.length) (hv : p.res ≤ v ∧ v ≤ p.cap) (hf : fewA p s v N = true) (hj : j < N) {z : Int} (hz : z ∈ rowI p s v j) (m : Nat) :
    DCalls Tryz.prog 34 [planD p, li ((s + j : Nat) : Int), li z, ints (rowI p s v (j + 1)), ints (cRow p s v N (j + 1))] (hget []) m (.tup [li (chI p (bestO p (s + j) z (vO p (N - (j + 1))))).1, li (chI p (bestO p (s + j) z (vO p (N - (j + 1))))).2]) (hget []) := by
  have hin := planB_in hp
  have hil := hin.2.2.2.1
  have hfl : (rowI p s v (j + 1)).length ≤ 4000 := rowI_len (n := j + 1) (by
    unfold fewA at hf ⊢
    rw [List.all_eq_true] at hf ⊢
    intro x hx
    exact hf x (List.mem_range.2 (by have := List.mem_range.1 hx; omega)))
  exact choice_f p (s + j) z (rowI p s v (j + 1)) (vO p (N - (j + 1))) m hp (by omega) (by
        have h5 := rowI_in hp hv j z hz
        have h6 := hin.2.1
        have h7 := hin.1
        omega) (by omega) (rowI_asc p s v (j + 1)) (fun i hi hpo => row_step hz hi hpo)
        (fun z c hz hc => by
          have h5 := vO_in hp (N - (j + 1)) (by omega) z (rowI_in hp hv (j + 1) z hz) c hc
          omega)
set_option maxHeartbeats 1000000 in
theorem eqlInt_f (l k : List (Int)) (m : Nat) (hl : l.length ≤ 281474976710656) (hk : k.length ≤ 281474976710656) : DCalls Tryz.prog 13 [ints l, ints k] (hget []) m (lb (decide (l = k))) (hget []) := by
  refine pureC (n := 26) (rs := [.tmp 4]) (ts := [4]) Tryz.func13 rfl (by decide) [] (by (exact SD)) ?_
  (repeat' (first | refine swp_seq [0, 1, 4, 5, 10, 12, 13, 14, 24] ?_ | refine st2 ?_ | (show Fct ..; refine fctI (fun hf => ?_)) | (show SWp _ _ _ (.cond _ _ _) _ _ _ _; first | refine cB (fun hc => ?_) (fun hc => ?_) | refine cU ?_ ?_)))
  · (refine DVQ ?_)
    refine lbC ?_
    have : ¬ l = k := fun e => by subst e; exact hc rfl
    simp [this]
  · refine loop_swp [0, 1, 12, 13] [] 0 (fun q A H => ∃ i : Nat, i ≤ l.length ∧ q = l.length - i ∧ l.take i = k.take i ∧ A = [(0, ints l), (1, ints k), (12, li l.length), (13, li i)] ∧ H = []) (by omega) ?_ ?_ ?_
    · rintro q A H ⟨i, h1, h2, h3, rfl, rfl⟩
      exact ⟨by (exact SD), by (exact SD)⟩
    · refine ⟨_, 0, by omega, rfl, rfl, ?_, ?_⟩
      · exact DVR
      · exact DVR
    · rintro q A H ⟨i, h1, h2, h3, rfl, rfl⟩
      (repeat' (first | refine swp_seq [0, 1, 4, 5, 10, 12, 13, 14, 24] ?_ | refine st2 ?_ | (show Fct ..; refine fctI (fun hf => ?_)) | (show SWp _ _ _ (.cond _ _ _) _ _ _ _; first | refine cB (fun hc => ?_) (fun hc => ?_) | refine cU ?_ ?_)))
      · (refine DVQ ?_)
        refine lbC ?_
        have : ¬ l = k := fun e => by subst e; simp at hc
        simp [this]
      · (refine lN [] ?_)
        exact ⟨_, by omega, i + 1, by omega, rfl, take_next h3 (by omega) (by omega) (by exact hc), rfl, rfl⟩
      · (refine DVQ ?_)
        refine lbC ?_
        have : l = k := by
          have h4 := h3
          rw [List.take_of_length_le (by omega), List.take_of_length_le (by omega)] at h4
          exact h4
        simp [this]
def exS : Plan := ⟨6, 10, 2, [5, 5], [0, 4, 8], [⟨0, 0⟩, ⟨8, 16⟩], 3⟩
theorem exS_ok : planOk exS := by
  have h : ∀ n : Int, 0 ≤ n → n ≤ 100 → i64ok n := fun n h1 h2 => by unfold i64ok; omega
  unfold planOk exS intsOk knotOk
  refine ⟨h _ (by decide) (by decide), h _ (by decide) (by decide), h _ (by decide) (by decide), ⟨by decide, fun z hz => ?_⟩, ⟨by decide, fun z hz => ?_⟩, ⟨by decide, fun y hy => ?_⟩, h _ (by decide) (by decide)⟩
  · simp only [List.mem_cons, List.not_mem_nil, or_false] at hz
    rcases hz with rfl | rfl <;> exact h _ (by decide) (by decide)
  · simp only [List.mem_cons, List.not_mem_nil, or_false] at hz
    rcases hz with rfl | rfl | rfl <;> exact h _ (by decide) (by decide)
  · simp only [List.mem_cons, List.not_mem_nil, or_false] at hy
    rcases hy with rfl | rfl <;> exact ⟨h _ (by decide) (by decide), h _ (by decide) (by decide)⟩
theorem exS_pl : planB exS = true := by decide +kernel
theorem exS_few : fewA exS 0 exS.start exS.inf.length = true := few_all (by decide) (by decide)
theorem exS_sol : solR exS = (14, [0, 4], 0) := by
  unfold solR
  rw [if_neg (by rw [exS_pl]; decide), if_neg (by rw [exS_few]; decide)]
  have h : vO exS exS.inf.length exS.start = some 14 := by decide +kernel
  rw [h]
  decide +kernel
theorem exS_cost : costR exS [0, 4] = (14, [10, 10], 0) := by decide +kernel
theorem solve_x (m : Nat) : DCalls Tryz.prog 23 [planD exS] (hget []) m (.tup [li 14, ints [0, 4], li 0]) (hget []) := by
  have := solve_f exS m exS_ok
  rwa [exS_sol] at this
theorem cost_x (m : Nat) : DCalls Tryz.prog 24 [planD exS, ints [0, 4]] (hget []) m (.tup [li 14, ints [10, 10], li 0]) (hget []) := by
  have := cost_f exS [0, 4] m exS_ok (by decide)
  rwa [exS_cost] at this
theorem eqS_1 (m : Nat) : DCalls Tryz.prog 13 [ints [0, 4], ints [0, 4]] (hget []) m (lb true) (hget []) := eqlInt_f _ _ m (by decide) (by decide)
theorem eqS_2 (m : Nat) : DCalls Tryz.prog 13 [ints [10, 10], ints [10, 10]] (hget []) m (lb true) (hget []) := eqlInt_f _ _ m (by decide) (by decide)
theorem give_sch (x : Plan) {g : FuncId} {l : List Int} {d : DV} (h : DCalls Tryz.prog g [planD x, ints l] (hget []) 1 d (hget [])) : DCallsG Tryz.prog g [0] [planD x, .gl 0] (hget [(0, inLt l)]) 1 d (hget []) :=
  DCallsG.giveG (x := .elems 1 (l.map inRow)) (by simp only [HV.fv]; rw [rows_pv]; rfl) rfl h
set_option maxRecDepth 20000 in
set_option maxHeartbeats 4000000 in
theorem awake45_f (m : Nat) : DCalls Tryz.prog 5 [] (hget []) m (lb true) (hget []) := by
  refine pureC (n := 51) (rs := [.tmp 0]) (ts := [4]) Tryz.func5 rfl (by decide) [] (by (exact SD)) ?_
  (repeat' (first | (show SWp _ _ _ (.region 2 _ _) _ _ _ _; refine (stop_in ?_)) | refine swp_seq [0, 1, 2, 3, 4, 5, 6, 7] ?_ | refine st2 ?_ | (show CallQ ..; first | refine cQ (fun hcc => (by fail)) ?_ | (refine lP ?_; refine lQ (fun hcc m => (by fail)) ?_)) | (show Fct ..; refine fctI (fun hf => ?_)) | (show SWp _ _ _ (.cond _ _ _) _ _ _ _; first | refine cB (fun hc => ?_) (fun hc => ?_) | refine cU ?_ ?_)))
  refine stop_out ?_
  (refine sF 8 ?_)
  (refine sF 16 ?_)
  (refine sF 40 ?_)
  (repeat' (first | refine swp_seq [0, 1, 2, 3, 4, 5, 6, 7] ?_ | refine st2 ?_ | (show CallQ ..; first | refine cQ (fun hcc => (by first | exact solve_x _)) ?_ | (refine lP ?_; refine lQ (fun hcc m => (by first | exact solve_x _)) ?_)) | (show Fct ..; refine fctI (fun hf => ?_)) | (show SWp _ _ _ (.cond _ _ _) _ _ _ _; first | refine cB (fun hc => ?_) (fun hc => ?_) | refine cU ?_ ?_)))
  (refine cQT [152] (fun hcc => (give_sch exS (cost_x 1))) ?_)
  (repeat' (first | refine swp_seq [0, 1, 2, 3, 4, 5, 6, 7] ?_ | refine st2 ?_ | (show CallQ ..; first | refine cQ (fun hcc => (by first | exact eqS_1 _ | exact eqS_2 _)) ?_ | (refine lP ?_; refine lQ (fun hcc m => (by first | exact eqS_1 _ | exact eqS_2 _)) ?_)) | (show Fct ..; refine fctI (fun hf => ?_)) | (show SWp _ _ _ (.cond _ _ _) _ _ _ _; first | refine cB (fun hc => ?_) (fun hc => ?_) | refine cU ?_ ?_)))
  all_goals first | rfl | (exact DVR)
def fewS (p : Plan) : Bool := (decide (p.inf.length ≤ 8) || (decide (200 < p.inf.length) && decide (p.inf.length ≤ 210))) && (decide (p.rel.length ≤ 5) || (decide (20 < p.rel.length) && decide (p.rel.length ≤ 30))) && decide (p.pen.length ≤ 30)
set_option maxHeartbeats 4000000 in
theorem few45_f (p : Plan) (m : Nat) (hq : planOk p) : DCalls Tryz.prog 6 [planD p] (hget []) m (lb (fewS p)) (hget []) := by
  refine pureC (n := 43) (rs := [.tmp 2]) (ts := [4]) Tryz.func6 rfl (by decide) [] (by (exact SD)) ?_
  (repeat' (first | refine swp_seq [0, 1, 2] ?_ | refine st2 ?_ | (show Fct ..; refine fctI (fun hf => ?_)) | (show SWp _ _ _ (.cond _ _ _) _ _ _ _; first | refine cB (fun hc => ?_) (fun hc => ?_) | refine cU ?_ ?_)))
  (refine DVQ ?_)
  refine lbC ?_
  unfold fewS
  grind
theorem own54 : ownKnob Tryz.prog.godebug = none := by kernel_rfl
theorem laid54 : laidOutB Tryz.prog = true := by kernel_rfl
theorem exMap {α : Type} (f : α → List PV) (p : α → Prop) : ∀ (l : List (List PV)), (∀ r, r ∈ l → ∃ x, r = f x ∧ p x) → ∃ xs : List α, l = xs.map f ∧ ∀ x, x ∈ xs → p x
  | [], _ => ⟨[], rfl, by simp⟩
  | r :: l, h => by
    obtain ⟨x, hx, hp⟩ := h r (by simp)
    obtain ⟨xs, hxs, hq⟩ := exMap f p l fun r hr => h r (by simp [hr])
    refine ⟨x :: xs, by simp [hx, hxs], fun y hy => ?_⟩
    rcases List.mem_cons.1 hy with rfl | hy
    · exact hp
    · exact hq y hy
theorem PT_slice {P : Program} {n : Nat} {t e : TypeId} {xs : List PV} (hu : P.underlying t = some (.slice e)) (h : PT P (n + 1) t xs) : ∃ l, xs = [.dat (P.cellsOf e) l] ∧ l.length * P.bytesOf e ≤ reachBytes ∧ ∀ r, r ∈ l → PT P n e r := by
  unfold PT at h; rw [hu] at h; exact h
theorem PT_struct {P : Program} {n : Nat} {t : TypeId} {fs : Array Field} {xs : List PV} (hu : P.underlying t = some (.struct fs)) (h : PT P (n + 1) t xs) : PTf P (PT P n) fs.toList xs := by
  unfold PT at h; rw [hu] at h; exact h
theorem PT_int {P : Program} {n : Nat} {t : TypeId} {k : IntKind} {xs : List PV} (hu : P.underlying t = some (.int k)) (h : PT P (n + 1) t xs) : ∃ z, xs = [.lit (.int k z)] ∧ (Lit.int k z).wf = true := by
  unfold PT at h; rw [hu] at h; exact h
theorem PT_str {P : Program} {n : Nat} {t : TypeId} {xs : List PV} (hu : P.underlying t = some .string) (h : PT P (n + 1) t xs) : ∃ s : ByteArray, xs = [.lit (.string s)] ∧ s.size ≤ reachBytes := by
  unfold PT at h; rw [hu] at h; exact h
theorem PT_bool {P : Program} {n : Nat} {t : TypeId} {xs : List PV} (hu : P.underlying t = some .bool) (h : PT P (n + 1) t xs) : ∃ b : Bool, xs = [.lit (.bool b)] := by
  unfold PT at h; rw [hu] at h; exact h
attribute [local irreducible] PT
theorem reachB : reachBytes ≤ 281474976710656 := by decide
theorem len_le {l k : Nat} (hk : 0 < k) (h : l * k ≤ reachBytes) : l ≤ 281474976710656 := Nat.le_trans (Nat.le_mul_of_pos_right l hk) (Nat.le_trans h reachB)
theorem pt_int {n : Nat} {xs : List PV} (h : PT Tryz.prog (n + 1) 3 xs) : ∃ z : Int, xs = [.lit (.int .i64 z)] ∧ i64ok z := by
  obtain ⟨z, rfl, hz⟩ := PT_int (P := Tryz.prog) (t := 3) Tryz.underlying3 h
  refine ⟨z, rfl, ?_⟩
  unfold i64ok
  simpa [Lit.wf, IntKind.min, IntKind.max, IntKind.signed, IntKind.bits] using hz
theorem pt_bool {n : Nat} {xs : List PV} (h : PT Tryz.prog (n + 1) 4 xs) : ∃ b : Bool, xs = [.lit (.bool b)] := PT_bool (P := Tryz.prog) (t := 4) Tryz.underlying4 h
theorem pt_str {n : Nat} {xs : List PV} (h : PT Tryz.prog (n + 1) 9 xs) : ∃ s : ByteArray, xs = [.lit (.string s)] ∧ s.size ≤ 281474976710656 := by
  obtain ⟨z, rfl, hz⟩ := PT_str (P := Tryz.prog) (t := 9) Tryz.underlying9 h
  exact ⟨z, rfl, Nat.le_trans hz reachB⟩
theorem cells_ints : Tryz.prog.cellsOf 3 = 1 := by kernel_rfl
theorem bytes_ints : 0 < Tryz.prog.bytesOf 3 := by rw [show Tryz.prog.bytesOf 3 = 8 from by kernel_rfl]; decide
theorem pt_ints {n : Nat} {xs : List PV} (h : PT Tryz.prog (n + 2) 22 xs) : ∃ l : List Int, xs = [.dat 1 (l.map inRow)] ∧ intsOk l := by
  obtain ⟨l, rfl, hl, hr⟩ := PT_slice (P := Tryz.prog) (t := 22) Tryz.underlying22 h
  obtain ⟨zs, rfl, hz⟩ := exMap inRow i64ok l fun r hr2 => by
    obtain ⟨z, rfl, hz⟩ := pt_int (hr r hr2)
    exact ⟨z, rfl, hz⟩
  rw [cells_ints]
  have := len_le bytes_ints hl
  rw [List.length_map] at this
  exact ⟨zs, rfl, this, hz⟩
theorem cells_rows : Tryz.prog.cellsOf 22 = 1 := by kernel_rfl
theorem bytes_rows : 0 < Tryz.prog.bytesOf 22 := by rw [show Tryz.prog.bytesOf 22 = 24 from by kernel_rfl]; decide
theorem pt_rows {n : Nat} {xs : List PV} (h : PT Tryz.prog (n + 3) 29 xs) : ∃ l : List (List Int), xs = [.dat 1 (l.map ilRow)] ∧ rowsOk l := by
  obtain ⟨l, rfl, hl, hr⟩ := PT_slice (P := Tryz.prog) (t := 29) Tryz.underlying29 h
  obtain ⟨zs, rfl, hz⟩ := exMap ilRow intsOk l fun r hr2 => by
    obtain ⟨z, rfl, hz⟩ := pt_ints (hr r hr2)
    exact ⟨z, rfl, hz⟩
  rw [cells_rows]
  have := len_le bytes_rows hl
  rw [List.length_map] at this
  exact ⟨zs, rfl, this, hz⟩
theorem pt_knot {n : Nat} {xs : List PV} (h : PT Tryz.prog (n + 2) 52 xs) : ∃ x : Knot, xs = knotP x ∧ knotOk x := by
  replace h := PT_struct (P := Tryz.prog) (t := 52) Tryz.underlying52 h
  obtain ⟨_, _, rfl, h0, _, _, rfl, h1, rfl⟩ := h
  obtain ⟨a0, rfl, k0⟩ := pt_int h0
  obtain ⟨a1, rfl, k1⟩ := pt_int h1
  exact ⟨⟨a0, a1⟩, rfl, ⟨k0, k1⟩⟩
theorem cells_knots : Tryz.prog.cellsOf 52 = 2 := by kernel_rfl
theorem bytes_knots : 0 < Tryz.prog.bytesOf 52 := by rw [show Tryz.prog.bytesOf 52 = 16 from by kernel_rfl]; decide
theorem pt_knots {n : Nat} {xs : List PV} (h : PT Tryz.prog (n + 3) 24 xs) : ∃ l : List Knot, xs = [.dat 2 (l.map knotP)] ∧ l.length ≤ 281474976710656 ∧ ∀ x, x ∈ l → knotOk x := by
  obtain ⟨l, rfl, hl, hr⟩ := PT_slice (P := Tryz.prog) (t := 24) Tryz.underlying24 h
  obtain ⟨zs, rfl, hz⟩ := exMap knotP knotOk l fun r hr2 => by
    obtain ⟨z, rfl, hz⟩ := pt_knot (hr r hr2)
    exact ⟨z, rfl, hz⟩
  rw [cells_knots]
  have := len_le bytes_knots hl
  rw [List.length_map] at this
  exact ⟨zs, rfl, this, hz⟩
theorem pt_plan {n : Nat} {xs : List PV} (h : PT Tryz.prog (n + 4) 26 xs) : ∃ x : Plan, xs = planP x ∧ planOk x := by
  replace h := PT_struct (P := Tryz.prog) (t := 26) Tryz.underlying26 h
  obtain ⟨_, _, rfl, h0, _, _, rfl, h1, _, _, rfl, h2, _, _, rfl, h3, _, _, rfl, h4, _, _, rfl, h5, _, _, rfl, h6, rfl⟩ := h
  obtain ⟨a0, rfl, k0⟩ := pt_int h0
  obtain ⟨a1, rfl, k1⟩ := pt_int h1
  obtain ⟨a2, rfl, k2⟩ := pt_int h2
  obtain ⟨a3, rfl, k3⟩ := pt_ints h3
  obtain ⟨a4, rfl, k4⟩ := pt_ints h4
  obtain ⟨a5, rfl, k5⟩ := pt_knots h5
  obtain ⟨a6, rfl, k6⟩ := pt_int h6
  exact ⟨⟨a0, a1, a2, a3, a4, a5, a6⟩, rfl, ⟨k0, k1, k2, k3, k4, k5, k6⟩⟩
theorem pt_u8 {n : Nat} {xs : List PV} (h : PT Tryz.prog (n + 1) 5 xs) : ∃ z : UInt8, xs = byRow z := by
  obtain ⟨z, rfl, hz⟩ := PT_int (P := Tryz.prog) (t := 5) Tryz.underlying5 h
  have hz2 : 0 ≤ z ∧ z ≤ 255 := by simpa [Lit.wf, IntKind.min, IntKind.max, IntKind.signed, IntKind.bits] using hz
  refine ⟨UInt8.ofNat z.toNat, ?_⟩
  have e : ((UInt8.ofNat z.toNat).toNat : Int) = z := by
    have : (UInt8.ofNat z.toNat).toNat = z.toNat % 256 := by simp
    rw [this]; omega
  unfold byRow
  rw [e]
theorem dv_rows (l : List (List Int)) : dvT Tryz.prog 29 [.dat 1 (l.map ilRow)] = intss l := by unfold dvT; rw [Tryz.underlying29]; rfl
theorem dv_ints (l : List Int) : dvT Tryz.prog 22 [.dat 1 (l.map inRow)] = ints l := by unfold dvT; rw [Tryz.underlying22]; rfl
theorem dv_plan (x : Plan) : dvT Tryz.prog 26 (planP x) = planD x := by unfold dvT; rw [Tryz.underlying26]; rfl
end Go.Proofs.YtlailhdmgehniaaGreat
