/-
  Contracts of functions of the program, over the engine.
  No condition.
-/
import Derived.Test.YtlailhdmgehniaaCQ0P11Q2Q3
import Derived.Test.YtlailhdmgehniaaCC0C1C2C3
import Derived.Test.YtlailhdmgehniaaCC9C10C11C12C13C14C15C16C17C19
import Derived.Test.YtlailhdmgehniaaEngV
import Derived.Test.YtlailhdmgehniaaRows
import Derived.Test.YtlailhdmgehniaaCFMP12Q7P13
namespace Go.Proofs.Ytlailhdmgehniaa
open Go.Eng
set_option linter.all false
attribute [local irreducible] DCallsG SWp Fct CallQ XCallQ LCallQ XLCallQ drun xrun

def zO : Int → Option Int := fun _ => some 0
def goM (p : Plan) : Nat → Option (Int × List Int × Int)
  | 0 => some (0, [], p.start)
  | i + 1 => match goM p i with
    | none => none
    | some (s, l, v) => match bestO p i v zO with
      | none => none
      | some (k, c) => some (s + c, l ++ [p.rel.getD k default], aftI p i v (p.rel.getD k default))
def myoR (p : Plan) : Int × List Int × Int := if planB p = false then (0, [], 1) else match goM p p.inf.length with
  | none => (0, [], 12)
  | some (s, l, _) => (s, l, 0)
theorem goM_none {p : Plan} {i : Nat} (h : goM p i = none) : ∀ n, i ≤ n → goM p n = none := by
  intro n
  induction n with
  | zero => intro hi; obtain rfl : i = 0 := by omega
            exact h
  | succ n ih =>
    intro hi
    by_cases e : i = n + 1
    · rw [← e]; exact h
    · rw [goM, ih (by omega)]
theorem goM_next {p : Plan} {i : Nat} {s v : Int} {l : List Int} (h : goM p i = some (s, l, v)) : goM p (i + 1) = match bestO p i v zO with
      | none => none
      | some (k, c) => some (s + c, l ++ [p.rel.getD k default], aftI p i v (p.rel.getD k default)) := by rw [goM, h]
theorem goM_in {p : Plan} (hp : planB p = true) : ∀ i, i ≤ p.inf.length → ∀ {s v : Int} {l : List Int}, goM p i = some (s, l, v) → (0 ≤ s ∧ s ≤ (i : Int) * 4398046511104000) ∧ (p.res ≤ v ∧ v ≤ p.cap) ∧ l.length = i
  | 0, _, s, v, l, h => by
    simp only [goM, Option.some.injEq, Prod.mk.injEq] at h
    obtain ⟨rfl, rfl, rfl⟩ := h
    exact ⟨⟨by omega, by omega⟩, (planB_in hp).2.2.1, rfl⟩
  | i + 1, hi, s, v, l, h => by
    cases h0 : goM p i with
    | none => rw [goM, h0] at h; cases h
    | some a =>
      obtain ⟨s0, l0, v0⟩ := a
      obtain ⟨h1, h2, h3⟩ := goM_in hp i (by omega) h0
      rw [goM_next h0] at h
      cases hb : bestO p i v0 zO with
      | none => rw [hb] at h; cases h
      | some b =>
        obtain ⟨k, c⟩ := b
        rw [hb] at h
        obtain ⟨k1, k2, x, k3, k4⟩ := bestU_some _ hb
        simp only [Option.some.injEq, Prod.mk.injEq] at h
        obtain ⟨rfl, rfl, rfl⟩ := h
        have hx : x = 0 := (Option.some.inj k3).symm
        have hin := planB_in hp
        have hc := (cost_in hp (by omega : i < p.inf.length) (v := v0) (by omega) k1).2.2.2
        exact ⟨⟨by omega, by omega⟩, aft_in hp k2, by simp [h3]⟩
def zeroN (p : Plan) (k : Nat) (v : Int) (i : Nat) : List (Int × Int) := (List.range i).foldl (fun l j => if possB p k v (p.rel.getD j default) then insV l (aftI p k v (p.rel.getD j default)) 0 else l) []
theorem zeroN_next (p : Plan) (k : Nat) (v : Int) (i : Nat) : zeroN p k v (i + 1) = if possB p k v (p.rel.getD i default) then insV (zeroN p k v i) (aftI p k v (p.rel.getD i default)) 0 else zeroN p k v i := by
  unfold zeroN; rw [List.range_succ, List.foldl_append]; rfl
theorem zeroN_zero (p : Plan) (k : Nat) (v : Int) (z : Int) : ∀ i, (zeroN p k v i).lookup z = none ∨ (zeroN p k v i).lookup z = some 0
  | 0 => .inl rfl
  | i + 1 => by
    rw [zeroN_next]
    split
    · rw [insV_look]
      split
      · exact .inr rfl
      · exact zeroN_zero p k v z i
    · exact zeroN_zero p k v z i
theorem zeroN_has {p : Plan} {k : Nat} {v : Int} {j : Nat} (hp : possB p k v (p.rel.getD j default) = true) : ∀ i, j < i → (zeroN p k v i).lookup (aftI p k v (p.rel.getD j default)) = some 0
  | 0, h => by omega
  | i + 1, h => by
    rw [zeroN_next]
    by_cases e : j = i
    · subst e
      rw [if_pos hp, insV_look, if_pos rfl]
    · have ih := zeroN_has hp i (by omega)
      split
      · rw [insV_look]
        split
        · rfl
        · exact ih
      · exact ih
theorem bestI_zero (p : Plan) (k : Nat) (v : Int) : bestI p k v (zeroN p k v p.rel.length) = stO (bestO p k v zO) := by
  rw [bestI_stO]
  congr 1
  exact bestU_congr _ fun i hi hp => zeroN_has hp _ hi
set_option maxHeartbeats 1000000 in
theorem eqlInt_f (l k : List (Int)) (m : Nat) (hl : l.length ≤ 281474976710656) (hk : k.length ≤ 281474976710656) : DCalls Try.prog 10 [ints l, ints k] (hget []) m (lb (decide (l = k))) (hget []) := by
  refine pureC (n := 26) (rs := [.tmp 4]) (ts := [4]) Try.func10 rfl (by decide) [] (by (exact SD)) ?_
  (repeat' (first | refine swp_seq [0, 1, 4, 5, 10, 12, 13, 14, 24] ?_ | refine st2 ?_ | (show Fct ..; refine fctI (fun hf => ?_)) | (show SWp _ _ _ (.cond _ _ _) _ _ _ _; first | refine cB (fun hc => ?_) (fun hc => ?_) | refine cU ?_ ?_)))
  · (refine DVQ ?_)
    refine lbC ?_
    have : ¬ l = k := fun e => by subst e; exact hc rfl
    simp [this]
  · refine loop_swp [0, 1, 12, 13] [] 0 (fun q A H => ∃ i : Nat, i ≤ l.length ∧ q = l.length - i ∧ l.take i = k.take i ∧ A = [(0, ints l), (1, ints k), (12, li l.length), (13, li i)] ∧ H = []) (by omega) ?_ ?_ ?_
    · rintro q A H ⟨i, h1, h2, h3, rfl, rfl⟩
      exact ⟨by (exact SD), by (exact SD)⟩
    · refine ⟨_, 0, by omega, rfl, rfl, ?_, ?_⟩
      · exact DVR
      · exact DVR
    · rintro q A H ⟨i, h1, h2, h3, rfl, rfl⟩
      (repeat' (first | refine swp_seq [0, 1, 4, 5, 10, 12, 13, 14, 24] ?_ | refine st2 ?_ | (show Fct ..; refine fctI (fun hf => ?_)) | (show SWp _ _ _ (.cond _ _ _) _ _ _ _; first | refine cB (fun hc => ?_) (fun hc => ?_) | refine cU ?_ ?_)))
      · (refine DVQ ?_)
        refine lbC ?_
        have : ¬ l = k := fun e => by subst e; simp at hc
        simp [this]
      · (refine lN [] ?_)
        exact ⟨_, by omega, i + 1, by omega, rfl, take_next h3 (by omega) (by omega) (by exact hc), rfl, rfl⟩
      · (refine DVQ ?_)
        refine lbC ?_
        have : l = k := by
          have h4 := h3
          rw [List.take_of_length_le (by omega), List.take_of_length_le (by omega)] at h4
          exact h4
        simp [this]
def exS : Plan := ⟨6, 10, 2, [5, 5], [0, 4, 8], [⟨0, 0⟩, ⟨8, 16⟩], 3⟩
theorem exS_ok : planOk exS := by
  have h : ∀ n : Int, 0 ≤ n → n ≤ 100 → i64ok n := fun n h1 h2 => by unfold i64ok; omega
  unfold planOk exS intsOk knotOk
  refine ⟨h _ (by decide) (by decide), h _ (by decide) (by decide), h _ (by decide) (by decide), ⟨by decide, fun z hz => ?_⟩, ⟨by decide, fun z hz => ?_⟩, ⟨by decide, fun y hy => ?_⟩, h _ (by decide) (by decide)⟩
  · simp only [List.mem_cons, List.not_mem_nil, or_false] at hz
    rcases hz with rfl | rfl <;> exact h _ (by decide) (by decide)
  · simp only [List.mem_cons, List.not_mem_nil, or_false] at hz
    rcases hz with rfl | rfl | rfl <;> exact h _ (by decide) (by decide)
  · simp only [List.mem_cons, List.not_mem_nil, or_false] at hy
    rcases hy with rfl | rfl <;> exact ⟨h _ (by decide) (by decide), h _ (by decide) (by decide)⟩
theorem exS_pl : planB exS = true := by decide +kernel
theorem exS_few : fewA exS 0 exS.start exS.inf.length = true := few_all (by decide) (by decide)
theorem exS_sol : solR exS = (14, [0, 4], 0) := by
  unfold solR
  rw [if_neg (by rw [exS_pl]; decide), if_neg (by rw [exS_few]; decide)]
  have h : vO exS exS.inf.length exS.start = some 14 := by decide +kernel
  rw [h]
  decide +kernel
theorem exS_cost : costR exS [0, 4] = (14, [10, 10], 0) := by decide +kernel
theorem solve_x (m : Nat) : DCalls Try.prog 8 [planD exS] (hget []) m (.tup [li 14, ints [0, 4], li 0]) (hget []) := by
  have := solve_f exS m exS_ok
  rwa [exS_sol] at this
theorem cost_x (m : Nat) : DCalls Try.prog 25 [planD exS, ints [0, 4]] (hget []) m (.tup [li 14, ints [10, 10], li 0]) (hget []) := by
  have := cost_f exS [0, 4] m exS_ok (by decide)
  rwa [exS_cost] at this
theorem eqS_1 (m : Nat) : DCalls Try.prog 10 [ints [0, 4], ints [0, 4]] (hget []) m (lb true) (hget []) := eqlInt_f _ _ m (by decide) (by decide)
theorem eqS_2 (m : Nat) : DCalls Try.prog 10 [ints [10, 10], ints [10, 10]] (hget []) m (lb true) (hget []) := eqlInt_f _ _ m (by decide) (by decide)
theorem give_sch (x : Plan) {g : FuncId} {l : List Int} {d : DV} (h : DCalls Try.prog g [planD x, ints l] (hget []) 1 d (hget [])) : DCallsG Try.prog g [0] [planD x, .gl 0] (hget [(0, inLt l)]) 1 d (hget []) :=
  DCallsG.giveG (x := .elems 1 (l.map inRow)) (by simp only [HV.fv]; rw [rows_pv]; rfl) rfl h
def fewS (p : Plan) : Bool := (decide (p.inf.length ≤ 8) || (decide (200 < p.inf.length) && decide (p.inf.length ≤ 210))) && (decide (p.rel.length ≤ 5) || (decide (20 < p.rel.length) && decide (p.rel.length ≤ 30))) && decide (p.pen.length ≤ 30)
theorem own54 : ownKnob Try.prog.godebug = none := by kernel_rfl
theorem laid54 : laidOutB Try.prog = true := by kernel_rfl
theorem exMap {α : Type} (f : α → List PV) (p : α → Prop) : ∀ (l : List (List PV)), (∀ r, r ∈ l → ∃ x, r = f x ∧ p x) → ∃ xs : List α, l = xs.map f ∧ ∀ x, x ∈ xs → p x
  | [], _ => ⟨[], rfl, by simp⟩
  | r :: l, h => by
    obtain ⟨x, hx, hp⟩ := h r (by simp)
    obtain ⟨xs, hxs, hq⟩ := exMap f p l fun r hr => h r (by simp [hr])
    refine ⟨x :: xs, by simp [hx, hxs], fun y hy => ?_⟩
    rcases List.mem_cons.1 hy with rfl | hy
    · exact hp
    · exact hq y hy
theorem PT_slice {P : Program} {n : Nat} {t e : TypeId} {xs : List PV} (hu : P.underlying t = some (.slice e)) (h : PT P (n + 1) t xs) : ∃ l, xs = [.dat (P.cellsOf e) l] ∧ l.length * P.bytesOf e ≤ reachBytes ∧ ∀ r, r ∈ l → PT P n e r := by
  unfold PT at h; rw [hu] at h; exact h
theorem PT_struct {P : Program} {n : Nat} {t : TypeId} {fs : Array Field} {xs : List PV} (hu : P.underlying t = some (.struct fs)) (h : PT P (n + 1) t xs) : PTf P (PT P n) fs.toList xs := by
  unfold PT at h; rw [hu] at h; exact h
theorem PT_int {P : Program} {n : Nat} {t : TypeId} {k : IntKind} {xs : List PV} (hu : P.underlying t = some (.int k)) (h : PT P (n + 1) t xs) : ∃ z, xs = [.lit (.int k z)] ∧ (Lit.int k z).wf = true := by
  unfold PT at h; rw [hu] at h; exact h
theorem PT_str {P : Program} {n : Nat} {t : TypeId} {xs : List PV} (hu : P.underlying t = some .string) (h : PT P (n + 1) t xs) : ∃ s : ByteArray, xs = [.lit (.string s)] ∧ s.size ≤ reachBytes := by
  unfold PT at h; rw [hu] at h; exact h
theorem PT_bool {P : Program} {n : Nat} {t : TypeId} {xs : List PV} (hu : P.underlying t = some .bool) (h : PT P (n + 1) t xs) : ∃ b : Bool, xs = [.lit (.bool b)] := by
  unfold PT at h; rw [hu] at h; exact h
attribute [local irreducible] PT
theorem reachB : reachBytes ≤ 281474976710656 := by decide
theorem len_le {l k : Nat} (hk : 0 < k) (h : l * k ≤ reachBytes) : l ≤ 281474976710656 := Nat.le_trans (Nat.le_mul_of_pos_right l hk) (Nat.le_trans h reachB)
theorem pt_int {n : Nat} {xs : List PV} (h : PT Try.prog (n + 1) 3 xs) : ∃ z : Int, xs = [.lit (.int .i64 z)] ∧ i64ok z := by
  obtain ⟨z, rfl, hz⟩ := PT_int (P := Try.prog) (t := 3) Try.underlying3 h
  refine ⟨z, rfl, ?_⟩
  unfold i64ok
  simpa [Lit.wf, IntKind.min, IntKind.max, IntKind.signed, IntKind.bits] using hz
theorem pt_bool {n : Nat} {xs : List PV} (h : PT Try.prog (n + 1) 4 xs) : ∃ b : Bool, xs = [.lit (.bool b)] := PT_bool (P := Try.prog) (t := 4) Try.underlying4 h
theorem pt_str {n : Nat} {xs : List PV} (h : PT Try.prog (n + 1) 9 xs) : ∃ s : ByteArray, xs = [.lit (.string s)] ∧ s.size ≤ 281474976710656 := by
  obtain ⟨z, rfl, hz⟩ := PT_str (P := Try.prog) (t := 9) Try.underlying9 h
  exact ⟨z, rfl, Nat.le_trans hz reachB⟩
theorem cells_ints : Try.prog.cellsOf 3 = 1 := by kernel_rfl
theorem bytes_ints : 0 < Try.prog.bytesOf 3 := by rw [show Try.prog.bytesOf 3 = 8 from by kernel_rfl]; decide
theorem pt_ints {n : Nat} {xs : List PV} (h : PT Try.prog (n + 2) 22 xs) : ∃ l : List Int, xs = [.dat 1 (l.map inRow)] ∧ intsOk l := by
  obtain ⟨l, rfl, hl, hr⟩ := PT_slice (P := Try.prog) (t := 22) Try.underlying22 h
  obtain ⟨zs, rfl, hz⟩ := exMap inRow i64ok l fun r hr2 => by
    obtain ⟨z, rfl, hz⟩ := pt_int (hr r hr2)
    exact ⟨z, rfl, hz⟩
  rw [cells_ints]
  have := len_le bytes_ints hl
  rw [List.length_map] at this
  exact ⟨zs, rfl, this, hz⟩
theorem cells_rows : Try.prog.cellsOf 22 = 1 := by kernel_rfl
theorem bytes_rows : 0 < Try.prog.bytesOf 22 := by rw [show Try.prog.bytesOf 22 = 24 from by kernel_rfl]; decide
theorem pt_rows {n : Nat} {xs : List PV} (h : PT Try.prog (n + 3) 29 xs) : ∃ l : List (List Int), xs = [.dat 1 (l.map ilRow)] ∧ rowsOk l := by
  obtain ⟨l, rfl, hl, hr⟩ := PT_slice (P := Try.prog) (t := 29) Try.underlying29 h
  obtain ⟨zs, rfl, hz⟩ := exMap ilRow intsOk l fun r hr2 => by
    obtain ⟨z, rfl, hz⟩ := pt_ints (hr r hr2)
    exact ⟨z, rfl, hz⟩
  rw [cells_rows]
  have := len_le bytes_rows hl
  rw [List.length_map] at this
  exact ⟨zs, rfl, this, hz⟩
theorem pt_knot {n : Nat} {xs : List PV} (h : PT Try.prog (n + 2) 66 xs) : ∃ x : Knot, xs = knotP x ∧ knotOk x := by
  replace h := PT_struct (P := Try.prog) (t := 66) Try.underlying66 h
  obtain ⟨_, _, rfl, h0, _, _, rfl, h1, rfl⟩ := h
  obtain ⟨a0, rfl, k0⟩ := pt_int h0
  obtain ⟨a1, rfl, k1⟩ := pt_int h1
  exact ⟨⟨a0, a1⟩, rfl, ⟨k0, k1⟩⟩
theorem cells_knots : Try.prog.cellsOf 66 = 2 := by kernel_rfl
theorem bytes_knots : 0 < Try.prog.bytesOf 66 := by rw [show Try.prog.bytesOf 66 = 16 from by kernel_rfl]; decide
theorem pt_knots {n : Nat} {xs : List PV} (h : PT Try.prog (n + 3) 24 xs) : ∃ l : List Knot, xs = [.dat 2 (l.map knotP)] ∧ l.length ≤ 281474976710656 ∧ ∀ x, x ∈ l → knotOk x := by
  obtain ⟨l, rfl, hl, hr⟩ := PT_slice (P := Try.prog) (t := 24) Try.underlying24 h
  obtain ⟨zs, rfl, hz⟩ := exMap knotP knotOk l fun r hr2 => by
    obtain ⟨z, rfl, hz⟩ := pt_knot (hr r hr2)
    exact ⟨z, rfl, hz⟩
  rw [cells_knots]
  have := len_le bytes_knots hl
  rw [List.length_map] at this
  exact ⟨zs, rfl, this, hz⟩
theorem pt_plan {n : Nat} {xs : List PV} (h : PT Try.prog (n + 4) 26 xs) : ∃ x : Plan, xs = planP x ∧ planOk x := by
  replace h := PT_struct (P := Try.prog) (t := 26) Try.underlying26 h
  obtain ⟨_, _, rfl, h0, _, _, rfl, h1, _, _, rfl, h2, _, _, rfl, h3, _, _, rfl, h4, _, _, rfl, h5, _, _, rfl, h6, rfl⟩ := h
  obtain ⟨a0, rfl, k0⟩ := pt_int h0
  obtain ⟨a1, rfl, k1⟩ := pt_int h1
  obtain ⟨a2, rfl, k2⟩ := pt_int h2
  obtain ⟨a3, rfl, k3⟩ := pt_ints h3
  obtain ⟨a4, rfl, k4⟩ := pt_ints h4
  obtain ⟨a5, rfl, k5⟩ := pt_knots h5
  obtain ⟨a6, rfl, k6⟩ := pt_int h6
  exact ⟨⟨a0, a1, a2, a3, a4, a5, a6⟩, rfl, ⟨k0, k1, k2, k3, k4, k5, k6⟩⟩
theorem pt_u8 {n : Nat} {xs : List PV} (h : PT Try.prog (n + 1) 5 xs) : ∃ z : UInt8, xs = byRow z := by
  obtain ⟨z, rfl, hz⟩ := PT_int (P := Try.prog) (t := 5) Try.underlying5 h
  have hz2 : 0 ≤ z ∧ z ≤ 255 := by simpa [Lit.wf, IntKind.min, IntKind.max, IntKind.signed, IntKind.bits] using hz
  refine ⟨UInt8.ofNat z.toNat, ?_⟩
  have e : ((UInt8.ofNat z.toNat).toNat : Int) = z := by
    have : (UInt8.ofNat z.toNat).toNat = z.toNat % 256 := by simp
    rw [this]; omega
  unfold byRow
  rw [e]
theorem dv_rows (l : List (List Int)) : dvT Try.prog 29 [.dat 1 (l.map ilRow)] = intss l := by unfold dvT; rw [Try.underlying29]; rfl
theorem dv_ints (l : List Int) : dvT Try.prog 22 [.dat 1 (l.map inRow)] = ints l := by unfold dvT; rw [Try.underlying22]; rfl
theorem dv_plan (x : Plan) : dvT Try.prog 26 (planP x) = planD x := by unfold dvT; rw [Try.underlying26]; rfl
theorem sch_bound {p : Plan} (hp : planB p = true) {rs : List Int} (h : schB p rs) : ∀ i, i ≤ p.inf.length → ∀ {s v : Int}, pathC p rs i = some (s, v) →
    ∃ S, 0 ≤ S ∧ (i : Int) * floorT p.pen (p.rel.getD 0 default) + p.wei * S ≤ s ∧ p.start + sumI p.inf i ≤ v + S + (i : Int) * p.rel.getD (p.rel.length - 1) default
  | 0, _, s, v, hs => by
    have e : (0, p.start) = (s, v) := Option.some.inj hs
    obtain ⟨e1, e2⟩ := Prod.mk.inj e
    subst e1 e2
    exact ⟨0, by omega, by simp, by simp [sumI]⟩
  | i + 1, hi, s, v, hs => by
    obtain ⟨⟨s0, v0⟩, h0⟩ := path_some (i + 1) hs i (by omega)
    obtain ⟨S, hS, h1, h2⟩ := sch_bound hp h i (by omega) h0
    rw [path_next h0] at hs
    split at hs
    · next hpo =>
      have e := Option.some.inj hs
      obtain ⟨e1, e2⟩ := Prod.mk.inj e
      obtain ⟨j, hj, ej⟩ := h.2 i (by rw [h.1]; omega)
      have hin := planB_in hp
      have hv0 := path_inC hp i h0
      have hc := cost_in hp (by omega : i < p.inf.length) (v := v0) (by omega) hj
      have hR1 : p.rel.getD 0 default ≤ p.rel.getD j default := by
        by_cases e : j = 0
        · rw [e]; exact Int.le_refl _
        · have := rel_asc hp (show 0 < j by omega) hj; omega
      have hR2 : p.rel.getD j default ≤ p.rel.getD (p.rel.length - 1) default := by
        by_cases e : j = p.rel.length - 1
        · rw [e]; exact Int.le_refl _
        · have := rel_asc hp (show j < p.rel.length - 1 by omega) (by omega); omega
      have hF := floorT_mono hin.2.2.2.2.2.2.1 hR1
      rw [← ej] at e1 e2
      unfold costI at e1
      have hl : leftI p i v0 (p.rel.getD j default) = v0 + p.inf.getD i default - p.rel.getD j default := rfl
      have hw := hin.2.2.2.2.2.1
      generalize aftI p i v0 (p.rel.getD j default) = A at *
      generalize leftI p i v0 (p.rel.getD j default) = L at *
      generalize floorT p.pen (p.rel.getD j default) = FJ at *
      generalize floorT p.pen (p.rel.getD 0 default) = F0 at *
      generalize p.rel.getD j default = RJ at *
      generalize p.rel.getD (p.rel.length - 1) default = RM at *
      refine ⟨S + (L - A), by omega, ?_, ?_⟩
      · rw [Int.mul_add, show ((i + 1 : Nat) : Int) = (i : Int) + 1 from rfl, Int.add_mul, Int.one_mul]
        omega
      · rw [sumI, show ((i + 1 : Nat) : Int) = (i : Int) + 1 from rfl, Int.add_mul, Int.one_mul]
        omega
    · cases hs
theorem relP_le {p : Plan} (hp : planB p = true) {c : Int} (h : vO p p.inf.length p.start = some c) : relP p ≤ c := by
  obtain ⟨S, h1, h2, h3⟩ := sch_bound hp (goV_sch h) p.inf.length (Nat.le_refl _) (goV_cost h)
  have hv := path_inC hp _ (goV_cost h)
  have hw := (planB_in hp).2.2.2.2.2.1
  unfold relP
  have := Int.mul_le_mul_of_nonneg_left (show max 0 (p.start - p.cap - (p.inf.length : Int) * p.rel.getD (p.rel.length - 1) default + sumI p.inf p.inf.length) ≤ S by omega) hw.1
  omega
theorem relP_nn {p : Plan} (hp : planB p = true) : 0 ≤ relP p := by
  have hin := planB_in hp
  have hF := hin.2.2.2.2.2.2.2.2.2 (p.rel.getD 0 default)
  have a := Int.mul_nonneg (show (0 : Int) ≤ (p.inf.length : Int) by omega) hF.1
  have b := Int.mul_nonneg hin.2.2.2.2.2.1.1 (show 0 ≤ max 0 (p.start - p.cap - (p.inf.length : Int) * p.rel.getD (p.rel.length - 1) default + sumI p.inf p.inf.length) by omega)
  unfold relP
  omega
theorem goM_sch {p : Plan} : ∀ i, i ≤ p.inf.length → ∀ {s v : Int} {l : List Int}, goM p i = some (s, l, v) → l.length = i ∧ (∀ k, k < i → ∃ j, j < p.rel.length ∧ p.rel.getD j default = l.getD k default) ∧ ∀ rs : List Int, (∀ k, k < i → rs.getD k default = l.getD k default) → pathC p rs i = some (s, v)
  | 0, _, s, v, l, h => by
    simp only [goM, Option.some.injEq, Prod.mk.injEq] at h
    obtain ⟨rfl, rfl, rfl⟩ := h
    exact ⟨rfl, fun k hk => by omega, fun rs _ => rfl⟩
  | i + 1, hi, s, v, l, h => by
    cases h0 : goM p i with
    | none => rw [goM, h0] at h; cases h
    | some a =>
      obtain ⟨s0, l0, v0⟩ := a
      obtain ⟨h1, h2, h3⟩ := goM_sch i (by omega) h0
      rw [goM_next h0] at h
      cases hb : bestO p i v0 zO with
      | none => rw [hb] at h; cases h
      | some b =>
        obtain ⟨k, c⟩ := b
        rw [hb] at h
        obtain ⟨k1, k2, x, k3, k4⟩ := bestU_some _ hb
        simp only [Option.some.injEq, Prod.mk.injEq] at h
        obtain ⟨rfl, rfl, rfl⟩ := h
        have hx : x = 0 := (Option.some.inj k3).symm
        have hlast : (l0 ++ [p.rel.getD k default]).getD i default = p.rel.getD k default := by
          rw [List.getD_eq_getElem?_getD, List.getElem?_append_right (by omega), h1, Nat.sub_self]; rfl
        have hpre : ∀ n, n < i → (l0 ++ [p.rel.getD k default]).getD n default = l0.getD n default := fun n hn => by
          rw [List.getD_eq_getElem?_getD, List.getElem?_append_left (by omega), ← List.getD_eq_getElem?_getD]
        refine ⟨by simp [h1], fun n hn => ?_, fun rs hrs => ?_⟩
        · by_cases e : n = i
          · subst e; exact ⟨k, k1, hlast.symm⟩
          · rw [hpre n (by omega)]; exact h2 n (by omega)
        · have h4 := h3 rs fun n hn => by rw [hrs n (by omega), hpre n hn]
          rw [path_next h4, hrs i (by omega), hlast, if_pos k2, k4, hx, Int.add_zero]
theorem myo_ge {p : Plan} {s v : Int} {l : List Int} (h : goM p p.inf.length = some (s, l, v)) : ∃ x, vO p p.inf.length p.start = some x ∧ x ≤ s := by
  obtain ⟨h1, h2, h3⟩ := goM_sch _ (Nat.le_refl _) h
  exact sch_ge (rs := l) ⟨h1, fun i hi => h2 i (by omega)⟩ (h3 l fun _ _ => rfl)
def capP (p : Plan) (z : Int) : Plan := { p with cap := p.cap + z }
def resP (p : Plan) (z : Int) : Plan := { p with res := if 0 < p.res - z then p.res - z else 0 }
theorem cap_path {p : Plan} {z : Int} (hz : 0 ≤ z) {rs : List Int} : ∀ i {s v : Int}, pathC p rs i = some (s, v) → ∃ D, 0 ≤ D ∧ pathC (capP p z) rs i = some (s - p.wei * D, v + D)
  | 0, s, v, h => by
    have e : (0, p.start) = (s, v) := Option.some.inj h
    obtain ⟨e1, e2⟩ := Prod.mk.inj e
    subst e1 e2
    refine ⟨0, by omega, ?_⟩
    rw [Int.mul_zero]; simp [pathC, capP]
  | i + 1, s, v, h => by
    obtain ⟨⟨s0, v0⟩, h0⟩ := path_some (i + 1) h i (by omega)
    obtain ⟨D, hD, h1⟩ := cap_path hz i h0
    rw [path_next h0] at h
    rw [path_next h1]
    split at h
    · next hpo =>
      have e := Option.some.inj h
      obtain ⟨e1, e2⟩ := Prod.mk.inj e
      have hl : leftI (capP p z) i (v0 + D) (rs.getD i default) = leftI p i v0 (rs.getD i default) + D := by unfold leftI capP; dsimp only; omega
      have hpo2 : possB (capP p z) i (v0 + D) (rs.getD i default) = true := by
        unfold possB at hpo ⊢
        rw [hl]
        have := of_decide_eq_true hpo
        exact decide_eq_true (by show p.res ≤ _; omega)
      rw [if_pos hpo2]
      have ha : aftI (capP p z) i (v0 + D) (rs.getD i default) = if p.cap + z < leftI p i v0 (rs.getD i default) + D then p.cap + z else leftI p i v0 (rs.getD i default) + D := by
        unfold aftI; rw [hl]; rfl
      have hc : costI (capP p z) i (v0 + D) (rs.getD i default) = floorT p.pen (rs.getD i default) + p.wei * (leftI p i v0 (rs.getD i default) + D - aftI (capP p z) i (v0 + D) (rs.getD i default)) := by
        unfold costI; rw [hl]; rfl
      rw [hc]
      unfold costI at e1
      have hge : aftI p i v0 (rs.getD i default) ≤ aftI (capP p z) i (v0 + D) (rs.getD i default) := by
        rw [ha]; unfold aftI; split <;> split <;> omega
      generalize aftI (capP p z) i (v0 + D) (rs.getD i default) = A2 at *
      generalize aftI p i v0 (rs.getD i default) = A at *
      generalize leftI p i v0 (rs.getD i default) = L at *
      generalize floorT p.pen (rs.getD i default) = F at *
      refine ⟨A2 - A, by omega, ?_⟩
      congr 1
      refine Prod.ext ?_ (by show A2 = v + (A2 - A); omega)
      show s0 - p.wei * D + (F + p.wei * (L + D - A2)) = s - p.wei * (A2 - A)
      rw [← e1, show L + D - A2 = L - A + D - (A2 - A) by omega, Int.mul_sub, Int.mul_add]
      omega
    · cases h
theorem cap_le {p : Plan} {z : Int} (hz : 0 ≤ z) (hp : planB p = true) {c : Int} (h : vO p p.inf.length p.start = some c) : ∃ d, vO (capP p z) (capP p z).inf.length (capP p z).start = some d ∧ d ≤ c := by
  obtain ⟨D, hD, hq⟩ := cap_path hz _ (goV_cost h)
  obtain ⟨x, h1, h2⟩ := sch_ge (p := capP p z) (rs := (goV p p.inf.length).1) (goV_sch h) hq
  have := Int.mul_nonneg (planB_in hp).2.2.2.2.2.1.1 hD
  exact ⟨x, h1, by omega⟩
theorem res_path {p : Plan} {z : Int} (hz : 0 ≤ z) (hr : 0 ≤ p.res) {rs : List Int} : ∀ i {s v : Int}, pathC p rs i = some (s, v) → pathC (resP p z) rs i = some (s, v)
  | 0, s, v, h => h
  | i + 1, s, v, h => by
    obtain ⟨⟨s0, v0⟩, h0⟩ := path_some (i + 1) h i (by omega)
    have h1 := res_path hz hr i h0
    rw [path_next h0] at h
    rw [path_next h1]
    split at h
    · next hpo =>
      have hpo2 : possB (resP p z) i v0 (rs.getD i default) = true := by
        unfold possB at hpo ⊢
        have := of_decide_eq_true hpo
        refine decide_eq_true ?_
        show (if 0 < p.res - z then p.res - z else 0) ≤ leftI p i v0 (rs.getD i default)
        split <;> omega
      rw [if_pos hpo2]
      exact h
    · cases h
theorem res_le {p : Plan} {z : Int} (hz : 0 ≤ z) (hp : planB p = true) {c : Int} (h : vO p p.inf.length p.start = some c) : ∃ d, vO (resP p z) (resP p z).inf.length (resP p z).start = some d ∧ d ≤ c :=
  sch_ge (p := resP p z) (rs := (goV p p.inf.length).1) (goV_sch h) (res_path hz (planB_in hp).2.1.1 _ (goV_cost h))
theorem res_ok {p : Plan} {z : Int} (hz : 0 ≤ z) (hp : planB p = true) : planB (resP p z) = true := by
  have hin := planB_in hp
  unfold planB at hp ⊢
  simp only [Bool.and_eq_true] at hp ⊢
  refine ⟨⟨⟨?_, hp.1.1.2⟩, hp.1.2⟩, hp.2⟩
  have h := hp.1.1.1
  unfold headB at h ⊢
  simp only [Bool.and_eq_true, decide_eq_true_eq] at h ⊢
  obtain ⟨⟨⟨⟨⟨⟨h1, h2⟩, h3⟩, h4⟩, h5⟩, h6⟩, h7⟩ := h
  have e : (resP p z).res = if 0 < p.res - z then p.res - z else 0 := rfl
  refine ⟨⟨⟨⟨⟨⟨h1, ?_⟩, ?_⟩, h4⟩, h5⟩, h6⟩, h7⟩
  · rw [e]; show _ ∧ _ ≤ p.cap; split <;> omega
  · rw [e]; show _ ≤ p.start ∧ p.start ≤ p.cap; split <;> omega
theorem few_lens {p : Plan} (hf : fewS p = true) (hp : planB p = true) : p.inf.length ≤ 8 ∧ p.rel.length ≤ 5 := by
  have hin := planB_in hp
  unfold fewS at hf
  simp only [Bool.and_eq_true, Bool.or_eq_true, decide_eq_true_eq] at hf
  omega
theorem solR_few {p : Plan} (hf : fewS p = true) (hp : planB p = true) : solR p = match vO p p.inf.length p.start with
    | none => (0, [], 12)
    | some c => (c, (goV p p.inf.length).1, 0) := by
  have hl := few_lens hf hp
  unfold solR
  rw [if_neg (by rw [hp]; decide), if_neg (by rw [few_all hl.2 hl.1]; decide)]
  cases vO p p.inf.length p.start <;> rfl

end Go.Proofs.Ytlailhdmgehniaa
