/-
  Contracts of functions of the program, over the engine.
  No condition.
-/
import Derived.Test.YtedocinehadodaaCC2C3C9
import Derived.Test.YtedocinehadodaaEngV
import Derived.Test.YtedocinehadodaaRows
import Derived.Test.YtedocinehadodaaCCLR12LSV1V2V3
import Derived.Test.YtedocinehadodaaCC24C35R6R7R8R9R10R11
import Derived.Test.YtedocinehadodaaCC6C7C11C12C14C15C16
import Derived.Test.YtedocinehadodaaCS9R1R2
import Derived.Test.YtedocinehadodaaCQ0P11
namespace Go.Proofs.Ytedocinehadodaa
open Go.Eng
set_option linter.all false
attribute [local irreducible] DCallsG SWp Fct CallQ XCallQ LCallQ XLCallQ drun xrun
theorem own54 : ownKnob Try.prog.godebug = none := by kernel_rfl
theorem laid54 : laidOutB Try.prog = true := by kernel_rfl
theorem exMap {α : Type} (f : α → List PV) (p : α → Prop) : ∀ (l : List (List PV)), (∀ r, r ∈ l → ∃ x, r = f x ∧ p x) → ∃ xs : List α, l = xs.map f ∧ ∀ x, x ∈ xs → p x
  | [], _ => ⟨[], rfl, by simp⟩
  | r :: l, h => by
    obtain ⟨x, hx, hp⟩ := h r (by simp)
    obtain ⟨xs, hxs, hq⟩ := exMap f p l fun r hr => h r (by simp [hr])
    refine ⟨x :: xs, by simp [hx, hxs], fun y hy => ?_⟩
    rcases List.mem_cons.1 hy with rfl | hy
    · exact hp
    · exact hq y hy
theorem PT_slice {P : Program} {n : Nat} {t e : TypeId} {xs : List PV} (hu : P.underlying t = some (.slice e)) (h : PT P (n + 1) t xs) : ∃ l, xs = [.dat (P.cellsOf e) l] ∧ l.length * P.bytesOf e ≤ reachBytes ∧ ∀ r, r ∈ l → PT P n e r := by
  unfold PT at h; rw [hu] at h; exact h
theorem PT_struct {P : Program} {n : Nat} {t : TypeId} {fs : Array Field} {xs : List PV} (hu : P.underlying t = some (.struct fs)) (h : PT P (n + 1) t xs) : PTf P (PT P n) fs.toList xs := by
  unfold PT at h; rw [hu] at h; exact h
theorem PT_int {P : Program} {n : Nat} {t : TypeId} {k : IntKind} {xs : List PV} (hu : P.underlying t = some (.int k)) (h : PT P (n + 1) t xs) : ∃ z, xs = [.lit (.int k z)] ∧ (Lit.int k z).wf = true := by
  unfold PT at h; rw [hu] at h; exact h
theorem PT_str {P : Program} {n : Nat} {t : TypeId} {xs : List PV} (hu : P.underlying t = some .string) (h : PT P (n + 1) t xs) : ∃ s : ByteArray, xs = [.lit (.string s)] ∧ s.size ≤ reachBytes := by
  unfold PT at h; rw [hu] at h; exact h
theorem PT_bool {P : Program} {n : Nat} {t : TypeId} {xs : List PV} (hu : P.underlying t = some .bool) (h : PT P (n + 1) t xs) : ∃ b : Bool, xs = [.lit (.bool b)] := by
  unfold PT at h; rw [hu] at h; exact h
attribute [local irreducible] PT
theorem reachB : reachBytes ≤ 281474976710656 := by decide
theorem len_le {l k : Nat} (hk : 0 < k) (h : l * k ≤ reachBytes) : l ≤ 281474976710656 := Nat.le_trans (Nat.le_mul_of_pos_right l hk) (Nat.le_trans h reachB)
theorem pt_int {n : Nat} {xs : List PV} (h : PT Try.prog (n + 1) 3 xs) : ∃ z : Int, xs = [.lit (.int .i64 z)] ∧ i64ok z := by
  obtain ⟨z, rfl, hz⟩ := PT_int (P := Try.prog) (t := 3) Try.underlying3 h
  refine ⟨z, rfl, ?_⟩
  unfold i64ok
  simpa [Lit.wf, IntKind.min, IntKind.max, IntKind.signed, IntKind.bits] using hz
theorem pt_bool {n : Nat} {xs : List PV} (h : PT Try.prog (n + 1) 4 xs) : ∃ b : Bool, xs = [.lit (.bool b)] := PT_bool (P := Try.prog) (t := 4) Try.underlying4 h
theorem pt_str {n : Nat} {xs : List PV} (h : PT Try.prog (n + 1) 9 xs) : ∃ s : ByteArray, xs = [.lit (.string s)] ∧ s.size ≤ 281474976710656 := by
  obtain ⟨z, rfl, hz⟩ := PT_str (P := Try.prog) (t := 9) Try.underlying9 h
  exact ⟨z, rfl, Nat.le_trans hz reachB⟩
theorem cells_ints : Try.prog.cellsOf 3 = 1 := by kernel_rfl
theorem bytes_ints : 0 < Try.prog.bytesOf 3 := by rw [show Try.prog.bytesOf 3 = 8 from by kernel_rfl]; decide
theorem pt_ints {n : Nat} {xs : List PV} (h : PT Try.prog (n + 2) 22 xs) : ∃ l : List Int, xs = [.dat 1 (l.map inRow)] ∧ intsOk l := by
  obtain ⟨l, rfl, hl, hr⟩ := PT_slice (P := Try.prog) (t := 22) Try.underlying22 h
  obtain ⟨zs, rfl, hz⟩ := exMap inRow i64ok l fun r hr2 => by
    obtain ⟨z, rfl, hz⟩ := pt_int (hr r hr2)
    exact ⟨z, rfl, hz⟩
  rw [cells_ints]
  have := len_le bytes_ints hl
  rw [List.length_map] at this
  exact ⟨zs, rfl, this, hz⟩
theorem cells_rows : Try.prog.cellsOf 22 = 1 := by kernel_rfl
theorem bytes_rows : 0 < Try.prog.bytesOf 22 := by rw [show Try.prog.bytesOf 22 = 24 from by kernel_rfl]; decide
theorem pt_rows {n : Nat} {xs : List PV} (h : PT Try.prog (n + 3) 39 xs) : ∃ l : List (List Int), xs = [.dat 1 (l.map ilRow)] ∧ rowsOk l := by
  obtain ⟨l, rfl, hl, hr⟩ := PT_slice (P := Try.prog) (t := 39) Try.underlying39 h
  obtain ⟨zs, rfl, hz⟩ := exMap ilRow intsOk l fun r hr2 => by
    obtain ⟨z, rfl, hz⟩ := pt_ints (hr r hr2)
    exact ⟨z, rfl, hz⟩
  rw [cells_rows]
  have := len_le bytes_rows hl
  rw [List.length_map] at this
  exact ⟨zs, rfl, this, hz⟩
theorem pt_knot {n : Nat} {xs : List PV} (h : PT Try.prog (n + 2) 65 xs) : ∃ x : Knot, xs = knotP x ∧ knotOk x := by
  replace h := PT_struct (P := Try.prog) (t := 65) Try.underlying65 h
  obtain ⟨_, _, rfl, h0, _, _, rfl, h1, rfl⟩ := h
  obtain ⟨a0, rfl, k0⟩ := pt_int h0
  obtain ⟨a1, rfl, k1⟩ := pt_int h1
  exact ⟨⟨a0, a1⟩, rfl, ⟨k0, k1⟩⟩
theorem cells_knots : Try.prog.cellsOf 65 = 2 := by kernel_rfl
theorem bytes_knots : 0 < Try.prog.bytesOf 65 := by rw [show Try.prog.bytesOf 65 = 16 from by kernel_rfl]; decide
theorem pt_knots {n : Nat} {xs : List PV} (h : PT Try.prog (n + 3) 24 xs) : ∃ l : List Knot, xs = [.dat 2 (l.map knotP)] ∧ l.length ≤ 281474976710656 ∧ ∀ x, x ∈ l → knotOk x := by
  obtain ⟨l, rfl, hl, hr⟩ := PT_slice (P := Try.prog) (t := 24) Try.underlying24 h
  obtain ⟨zs, rfl, hz⟩ := exMap knotP knotOk l fun r hr2 => by
    obtain ⟨z, rfl, hz⟩ := pt_knot (hr r hr2)
    exact ⟨z, rfl, hz⟩
  rw [cells_knots]
  have := len_le bytes_knots hl
  rw [List.length_map] at this
  exact ⟨zs, rfl, this, hz⟩
theorem pt_plan {n : Nat} {xs : List PV} (h : PT Try.prog (n + 4) 26 xs) : ∃ x : Plan, xs = planP x ∧ planOk x := by
  replace h := PT_struct (P := Try.prog) (t := 26) Try.underlying26 h
  obtain ⟨_, _, rfl, h0, _, _, rfl, h1, _, _, rfl, h2, _, _, rfl, h3, _, _, rfl, h4, _, _, rfl, h5, _, _, rfl, h6, rfl⟩ := h
  obtain ⟨a0, rfl, k0⟩ := pt_int h0
  obtain ⟨a1, rfl, k1⟩ := pt_int h1
  obtain ⟨a2, rfl, k2⟩ := pt_int h2
  obtain ⟨a3, rfl, k3⟩ := pt_ints h3
  obtain ⟨a4, rfl, k4⟩ := pt_ints h4
  obtain ⟨a5, rfl, k5⟩ := pt_knots h5
  obtain ⟨a6, rfl, k6⟩ := pt_int h6
  exact ⟨⟨a0, a1, a2, a3, a4, a5, a6⟩, rfl, ⟨k0, k1, k2, k3, k4, k5, k6⟩⟩
theorem pt_u8 {n : Nat} {xs : List PV} (h : PT Try.prog (n + 1) 5 xs) : ∃ z : UInt8, xs = byRow z := by
  obtain ⟨z, rfl, hz⟩ := PT_int (P := Try.prog) (t := 5) Try.underlying5 h
  have hz2 : 0 ≤ z ∧ z ≤ 255 := by simpa [Lit.wf, IntKind.min, IntKind.max, IntKind.signed, IntKind.bits] using hz
  refine ⟨UInt8.ofNat z.toNat, ?_⟩
  have e : ((UInt8.ofNat z.toNat).toNat : Int) = z := by
    have : (UInt8.ofNat z.toNat).toNat = z.toNat % 256 := by simp
    rw [this]; omega
  unfold byRow
  rw [e]
theorem pt_bytes {n : Nat} {xs : List PV} (h : PT Try.prog (n + 2) 44 xs) : ∃ l : List UInt8, xs = [.dat 1 (l.map byRow)] ∧ l.length ≤ 281474976710656 := by
  obtain ⟨l, rfl, hl, hr⟩ := PT_slice (P := Try.prog) (t := 44) Try.underlying44 h
  obtain ⟨zs, rfl, hz⟩ := exMap byRow (fun _ => True) l fun r hr2 => by
    obtain ⟨z, rfl⟩ := pt_u8 (hr r hr2)
    exact ⟨z, rfl, trivial⟩
  rw [show Try.prog.cellsOf 5 = 1 from by kernel_rfl]
  rw [show Try.prog.bytesOf 5 = 1 from by kernel_rfl] at hl
  have := len_le (by decide : 0 < 1) hl
  rw [List.length_map] at this
  exact ⟨zs, rfl, this⟩
theorem dv_rows (l : List (List Int)) : dvT Try.prog 39 [.dat 1 (l.map ilRow)] = intss l := by unfold dvT; rw [Try.underlying39]; rfl
theorem dv_ints (l : List Int) : dvT Try.prog 22 [.dat 1 (l.map inRow)] = ints l := by unfold dvT; rw [Try.underlying22]; rfl
theorem dv_plan (x : Plan) : dvT Try.prog 26 (planP x) = planD x := by unfold dvT; rw [Try.underlying26]; rfl
theorem dv_bytes (l : List UInt8) : dvT Try.prog 44 [.dat 1 (l.map byRow)] = bys l := by unfold dvT; rw [Try.underlying44]; rfl
theorem raiseW_ok {p : Plan} {l : List (List Int)} (h : exC p l) : rowsOk l := by
  have h200 := (planB_in h.pl).2.2.2.1
  have hln := h.len
  refine ⟨by omega, fun r hr => ?_⟩
  obtain ⟨k, hk, rfl⟩ := mem_getD (d := default) hr
  obtain ⟨h1, h8⟩ := h.row k hk
  obtain ⟨q1, q2, _⟩ := rowB_in h1
  have hin := planB_in h.pl
  refine ⟨by omega, fun z hz => ?_⟩
  obtain ⟨m, hm, rfl⟩ := mem_getD (d := default) hz
  unfold i64ok
  rcases row_odd q1 hm with ⟨j, hj, rfl⟩ | ⟨j, hj, rfl⟩
  · have := (q2 j hj).1; omega
  · have := (q2 j hj).2; omega
set_option maxRecDepth 20000 in
set_option maxHeartbeats 16000000 in
theorem raised46_f (p : Plan) (l : List (List Int)) (m : Nat) (hq : planOk p) (hl : rowsOk l) : DCalls Try.prog 10 [planD p, intss l] (hget []) m (lb true) (hget []) := by
  have cw := fun m => ready_f p m hq
  cases hrd : readyB p <;> simp only [hrd] at cw
  · refine pureC (n := 124) (rs := [.tmp 4]) (ts := [4]) Try.func10 rfl (by decide) [] (by (exact SD)) ?_
    (repeat' (first | refine swp_seq [0, 1, 2, 4, 5, 6, 7, 9, 10, 11, 12, 13, 14, 15, 16, 18, 20, 28, 36, 107] ?_ | refine st2 ?_ | (show CallQ ..; first | refine cQ (fun hcc => (by first | exact awake_f _ | exact cw _)) ?_ | (refine lP ?_; refine lQ (fun hcc m => (by first | exact awake_f _ | exact cw _)) ?_)) | (show Fct ..; refine fctI (fun hf => ?_)) | (show SWp _ _ _ (.cond _ _ _) _ _ _ _; first | refine cB (fun hc => ?_) (fun hc => ?_) | refine cU ?_ ?_)))
    exact DVR
  have sa := fun m => short_f l m hl
  cases hsa : shortB l <;> simp only [hsa] at sa
  · refine pureC (n := 124) (rs := [.tmp 4]) (ts := [4]) Try.func10 rfl (by decide) [] (by (exact SD)) ?_
    (repeat' (first | refine swp_seq [0, 1, 2, 4, 5, 6, 7, 9, 10, 11, 12, 13, 14, 15, 16, 18, 20, 28, 36, 107] ?_ | refine st2 ?_ | (show CallQ ..; first | refine cQ (fun hcc => (by first | exact awake_f _ | exact cw _ | exact sa _)) ?_ | (refine lP ?_; refine lQ (fun hcc m => (by first | exact awake_f _ | exact cw _ | exact sa _)) ?_)) | (show Fct ..; refine fctI (fun hf => ?_)) | (show SWp _ _ _ (.cond _ _ _) _ _ _ _; first | refine cB (fun hc => ?_) (fun hc => ?_) | refine cU ?_ ?_)))
    exact DVR
  have hrd2 := hrd
  unfold readyB at hrd2
  simp only [Bool.and_eq_true, decide_eq_true_eq] at hrd2
  obtain ⟨⟨⟨h8, h5⟩, h30⟩, hp⟩ := hrd2
  have c1 := fun m => raise_f p l m hq hl
  have c2 := fun m => check_f p l m hq hl
  by_cases hg : givenE p l = 0
  case neg =>
    rw [show raiseR p l = ([], givenE p l) from if_pos hg] at c1
    rw [show checkR p l = (false, 0, givenE p l) from if_pos hg] at c2
    have hee : givenE p l = givenE p l := rfl
    generalize givenE p l = E at *
    (have := Nonempty.intro hg)
    (have := Nonempty.intro hee)
    refine pureC (n := 124) (rs := [.tmp 4]) (ts := [4]) Try.func10 rfl (by decide) [] (by (exact SD)) ?_
    (repeat' (first | refine swp_seq [0, 1, 2, 4, 5, 6, 7, 9, 10, 11, 12, 13, 14, 15, 16, 18, 20, 28, 36, 107] ?_ | refine st2 ?_ | (show CallQ ..; first | refine cQ (fun hcc => (by first | exact awake_f _ | exact cw _ | exact sa _ | exact c1 _ | exact c2 _)) ?_ | (refine lP ?_; refine lQ (fun hcc m => (by first | exact awake_f _ | exact cw _ | exact sa _ | exact c1 _ | exact c2 _)) ?_)) | (show Fct ..; refine fctI (fun hf => ?_)) | (show SWp _ _ _ (.cond _ _ _) _ _ _ _; first | refine cB (fun hc => ?_) (fun hc => ?_) | refine cU ?_ ?_)))
    exact DVR
  by_cases hf : failK p l < l.length
  · rw [show raiseR p l = ([], 13) by unfold raiseR; rw [if_neg (fun q => q hg), if_pos hf]] at c1
    rw [show checkR p l = (false, (failK p l : Int), 0) by unfold checkR; rw [if_neg (fun q => q hg), if_pos hf]] at c2
    refine pureC (n := 124) (rs := [.tmp 4]) (ts := [4]) Try.func10 rfl (by decide) [] (by (exact SD)) ?_
    (repeat' (first | refine swp_seq [0, 1, 2, 4, 5, 6, 7, 9, 10, 11, 12, 13, 14, 15, 16, 18, 20, 28, 36, 107] ?_ | refine st2 ?_ | (show CallQ ..; first | refine cQ (fun hcc => (by first | exact awake_f _ | exact cw _ | exact sa _ | exact c1 _ | exact c2 _)) ?_ | (refine lP ?_; refine lQ (fun hcc m => (by first | exact awake_f _ | exact cw _ | exact sa _ | exact c1 _ | exact c2 _)) ?_)) | (show Fct ..; refine fctI (fun hf => ?_)) | (show SWp _ _ _ (.cond _ _ _) _ _ _ _; first | refine cB (fun hc => ?_) (fun hc => ?_) | refine cU ?_ ?_)))
    exact DVR
  have hall := fun k hk => failK_all (k := k) hf hk
  have hex := raise_exC hg hall
  have hwk := raise_weak hg hall
  rw [show raiseR p l = (outsR p l l.length, 0) by unfold raiseR; rw [if_neg (fun q => q hg), if_neg hf]] at c1
  have hro := raiseW_ok hex
  generalize outsR p l l.length = R at *
  have c3 := fun m => weaker_f l R m hl hro
  rw [hwk] at c3
  have c4 := fun m => raise_f p R m hq hro
  rw [hex.raise] at c4
  have c5 := fun m => bound_f p R m hq hro
  rw [hex.bound] at c5
  have c6 := fun m => solve_f p m hq
  have c7 := fun m => same_s R m hro
  have hsol : solR p = match vO p p.inf.length p.start with
    | none => (0, [], 12)
    | some c => (c, (goV p p.inf.length).1, 0) := by
    unfold solR
    rw [if_neg (by rw [hp]; decide), if_neg (by rw [few_all h5 h8]; decide)] <;> cases vO p p.inf.length p.start <;> rfl
  rw [hsol] at c6
  cases hv : vO p p.inf.length p.start with
  | none =>
    rw [hv] at c5 c6
    refine pureC (n := 124) (rs := [.tmp 4]) (ts := [4]) Try.func10 rfl (by decide) [] (by (exact SD)) ?_
    (repeat' (first | refine swp_seq [0, 1, 2, 4, 5, 6, 7, 9, 10, 11, 12, 13, 14, 15, 16, 18, 20, 28, 36, 107] ?_ | refine st2 ?_ | (show CallQ ..; first | refine cQ (fun hcc => (by first | exact awake_f _ | exact cw _ | exact sa _ | exact c1 _ | exact c3 _ | exact c4 _ | exact c5 _ | exact c6 _ | exact c7 _)) ?_ | (refine lP ?_; refine lQ (fun hcc m => (by first | exact awake_f _ | exact cw _ | exact sa _ | exact c1 _ | exact c3 _ | exact c4 _ | exact c5 _ | exact c6 _ | exact c7 _)) ?_)) | (show Fct ..; refine fctI (fun hf => ?_)) | (show SWp _ _ _ (.cond _ _ _) _ _ _ _; first | refine cB (fun hc => ?_) (fun hc => ?_) | refine cU ?_ ?_)))
    exact DVR
  | some c =>
    rw [hv] at c5 c6
    have hcc0 : c = c := rfl
    (have := Nonempty.intro hcc0)
    refine pureC (n := 124) (rs := [.tmp 4]) (ts := [4]) Try.func10 rfl (by decide) [] (by (exact SD)) ?_
    (repeat' (first | refine swp_seq [0, 1, 2, 4, 5, 6, 7, 9, 10, 11, 12, 13, 14, 15, 16, 18, 20, 28, 36, 107] ?_ | refine st2 ?_ | (show CallQ ..; first | refine cQ (fun hcc => (by first | exact awake_f _ | exact cw _ | exact sa _ | exact c1 _ | exact c3 _ | exact c4 _ | exact c5 _ | exact c6 _ | exact c7 _)) ?_ | (refine lP ?_; refine lQ (fun hcc m => (by first | exact awake_f _ | exact cw _ | exact sa _ | exact c1 _ | exact c3 _ | exact c4 _ | exact c5 _ | exact c6 _ | exact c7 _)) ?_)) | (show Fct ..; refine fctI (fun hf => ?_)) | (show SWp _ _ _ (.cond _ _ _) _ _ _ _; first | refine cB (fun hc => ?_) (fun hc => ?_) | refine cU ?_ ?_)))
    exact DVR

end Go.Proofs.Ytedocinehadodaa
