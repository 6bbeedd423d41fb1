/-
  Contracts of functions of the program, over the engine.
  No condition.
-/
import Derived.Test.YtedocinehadodaaCS9R1R2
import Derived.Test.YtedocinehadodaaCW6
namespace Go.Proofs.Ytedocinehadodaa
open Go.Eng
set_option linter.all false
attribute [local irreducible] DCallsG SWp Fct CallQ XCallQ LCallQ XLCallQ drun xrun

set_option maxHeartbeats 4000000 in
theorem down_f (ha la b Q R : Nat) (m : Nat) (hha : ha < 18446744073709551616) (hla : la < 18446744073709551616) (hb : 0 < b ∧ b < 4611686018427387904) (hQ : ha * 18446744073709551616 + la = b * Q + R) (hR : R < b) (hQ2 : Q < 4611686018427387904) :
    DCalls Try.prog 105 [nuD ha la false, nuD 0 b false] (hget []) m (nuD 0 Q false) (hget []) := by
  have cd := fun m => rdiv_f ha la b Q R m hha hla hb hQ hR hQ2
  clear hQ
  refine pureC (n := 33) (rs := [.cell 4 133]) (ts := [133]) Try.func105 rfl (by decide) [] (by (exact SD)) ?_
  (repeat' (first | refine swp_seq [0, 1, 2, 3, 4, 5, 6, 7, 26] ?_ | refine st2 ?_ | (show CallQ ..; first | refine cQ (fun hcc => (by first | exact cd _ | exact made_f _ _ _)) ?_ | (refine lP ?_; refine lQ (fun hcc m => (by first | exact cd _ | exact made_f _ _ _)) ?_)) | (show Fct ..; refine fctI (fun hf => ?_)) | (show SWp _ _ _ (.cond _ _ _) _ _ _ _; first | refine cB (fun hc => ?_) (fun hc => ?_) | refine cU ?_ ?_)))
  exact DVR
theorem isInt_f (Q : Nat) (m : Nat) (h : Q < 9223372036854775808) : DCalls Try.prog 104 [nuD 0 Q false] (hget []) m (.tup [li Q, lb true]) (hget []) := by
  have h0 : (Q : Int) < 9223372036854775808 := by omega
  (have := Nonempty.intro h0)
  refine pureC (n := 35) (rs := [.tmp 2, .tmp 3]) (ts := [3, 4]) Try.func104 rfl (by decide) [] (by (exact SD)) ?_
  (repeat' (first | refine swp_seq [0, 1, 2, 3, 5] ?_ | refine st2 ?_ | (show Fct ..; refine fctI (fun hf => ?_)) | (show SWp _ _ _ (.cond _ _ _) _ _ _ _; first | refine cB (fun hc => ?_) (fun hc => ?_) | refine cU ?_ ?_)))
  exact DVR
theorem cut64 (M : Nat) (h : M < 340282366920938463463374607431768211456) : ∃ h l, M = h * 18446744073709551616 + l ∧ l < 18446744073709551616 ∧ h < 18446744073709551616 := ⟨M / 18446744073709551616, M % 18446744073709551616, by omega, by omega, by omega⟩
set_option maxHeartbeats 4000000 in
theorem floorOf_f (n k b Q R : Nat) (m : Nat) (hn : n < 9223372036854775808) (hk : k < 9223372036854775808) (hb : 0 < b ∧ b < 4611686018427387904) (hq : n * k = b * Q + R) (hR : R < b) (hQ : Q < 4611686018427387904) : DCalls Try.prog 94 [li n, li k, li b] (hget []) m (li Q) (hget []) := by
  have hM : n * k < 340282366920938463463374607431768211456 := by
    have := Nat.mul_le_mul (show n ≤ 9223372036854775807 by omega) (show k ≤ 9223372036854775807 by omega)
    exact Nat.lt_of_le_of_lt this (by decide)
  obtain ⟨h, l, e, hl, hh⟩ := cut64 _ hM
  have ct := fun m => rtimes_f n k h l m hn hk e hl
  have cd := fun m => down_f h l b Q R m hh hl hb (by rw [← e]; exact hq) hR hQ
  clear e hq hM
  refine pureC (n := 20) (rs := [.tmp 6]) (ts := [3]) Try.func94 rfl (by decide) [] (by (exact SD)) ?_
  (repeat' (first | refine swp_seq [0, 1, 2, 6, 7] ?_ | refine st2 ?_ | (show CallQ ..; first | refine cQ (fun hcc => (by first | exact ct _ | exact ofInt_f _ _ (by omega) | exact cd _ | exact isInt_f _ _ (by omega))) ?_ | (refine lP ?_; refine lQ (fun hcc m => (by first | exact ct _ | exact ofInt_f _ _ (by omega) | exact cd _ | exact isInt_f _ _ (by omega))) ?_)) | (show Fct ..; refine fctI (fun hf => ?_)) | (show SWp _ _ _ (.cond _ _ _) _ _ _ _; first | refine cB (fun hc => ?_) (fun hc => ?_) | refine cU ?_ ?_)))
  exact DVR
def cntX (t : List Knot) (x : Int) : Nat := if knX t x < t.length ∧ (t.getD (knX t x) default).x = x then knX t x + 1 else knX t x
theorem cntX_le (t : List Knot) (x : Int) : cntX t x ≤ t.length := by
  have := knX_le t x
  unfold cntX
  split <;> omega
theorem cntX_lo {t : List Knot} {x : Int} {j : Nat} (hj : j < cntX t x) : (t.getD j default).x ≤ x := by
  unfold cntX at hj
  split at hj
  · next h =>
    by_cases e : j = knX t x
    · rw [e]; omega
    · have := knX_lo (t := t) (x := x) (j := j) (by omega); omega
  · have := knX_lo (t := t) (x := x) (j := j) hj; omega
theorem cntX_hi {t : List Knot} {x : Int} {j : Nat} (h : tabB t = true) (hj : cntX t x ≤ j) (hl : j < t.length) : x < (t.getD j default).x := by
  unfold cntX at hj
  split at hj
  · next hf =>
    have h1 := (tab_in h).2.2.2 (knX t x) (by omega)
    have h2 := tab_mono2 h j (knX t x + 1) hj hl
    omega
  · next hf =>
    have h1 := knX_hi h hj hl
    by_cases e : j = knX t x
    · have : ¬ (t.getD (knX t x) default).x = x := fun q => hf ⟨by omega, q⟩
      rw [e] at h1 ⊢; omega
    · have h2 := knX_hi (x := x) h (Nat.le_refl _) (by omega : knX t x < t.length)
      have h3 := (tab_in h).2.2.2 (knX t x) (by omega)
      have h4 := tab_mono2 h j (knX t x + 1) (by omega) hl
      omega
set_option maxHeartbeats 4000000 in
theorem before_f (t : List Knot) (x : Int) (m : Nat) (h : tabB t = true) : DCalls Try.prog 93 [knotL t, li x] (hget []) m (li ((cntX t x : Int) - 1)) (hget []) := by
  have hlen := (tab_in h).2.1
  have hk := cntX_le t x
  have hlo := fun j => cntX_lo (t := t) (x := x) (j := j)
  have hhi := fun j => cntX_hi (t := t) (x := x) (j := j) h
  generalize cntX t x = c at *
  refine pureC (n := 22) (rs := [.tmp 4]) (ts := [3]) Try.func93 rfl (by decide) [] (by (exact SD)) ?_
  (repeat' (first | refine swp_seq [0, 1, 4, 5, 6, 10, 19] ?_ | refine st2 ?_ | (show Fct ..; refine fctI (fun hf => ?_)) | (show SWp _ _ _ (.cond _ _ _) _ _ _ _; first | refine cB (fun hc => ?_) (fun hc => ?_) | refine cU ?_ ?_)))
  refine loop_swp [0, 1, 5, 6] [] 0 (fun q A H => ∃ i : Nat, i ≤ t.length ∧ q = t.length - i ∧ A = [(0, knotL t), (1, li x), (5, li (((if i < c then i else c : Nat) : Int) - 1)), (6, li i)] ∧ H = []) (by omega) ?_ ?_ ?_
  · rintro q A H ⟨i, g1, g2, rfl, rfl⟩
    exact ⟨by (exact SD), by (exact SD)⟩
  · refine ⟨_, 0, by omega, rfl, ?_, ?_⟩
    · have e : (((if 0 < c then 0 else c : Nat) : Int) - 1) = -1 := by split <;> omega
      rw [e]
      exact DVR
    · exact DVR
  rintro q A H ⟨i, g1, g2, rfl, rfl⟩
  by_cases hi : i < t.length
  · have hi3 : (i : Int) < (t.length : Int) := by omega
    (have := Nonempty.intro hi)
    (have := Nonempty.intro hi3)
    by_cases hx : (t.getD i default).x ≤ x
    · have hic : i < c := Nat.lt_of_not_le fun q => by have := hhi i q hi; omega
      (have := Nonempty.intro hx)
      have e : (((if i + 1 < c then i + 1 else c : Nat) : Int) - 1) = (i : Int) := by split <;> omega
      (repeat' (first | refine swp_seq [0, 1, 4, 5, 6, 10, 19] ?_ | refine st2 ?_ | (show Fct ..; refine fctI (fun hf => ?_)) | (show SWp _ _ _ (.cond _ _ _) _ _ _ _; first | refine cB (fun hc => ?_) (fun hc => ?_) | refine cU ?_ ?_)))
      (refine lN [] ?_)
      exact ⟨_, by omega, i + 1, by omega, rfl, by rw [e]; rfl, rfl⟩
    · have hic : ¬ i < c := fun q => hx (hlo i q)
      (have := Nonempty.intro hx)
      rw [if_neg hic]
      have e : (if i + 1 < c then i + 1 else c) = c := if_neg (by omega)
      (repeat' (first | refine swp_seq [0, 1, 4, 5, 6, 10, 19] ?_ | refine st2 ?_ | (show Fct ..; refine fctI (fun hf => ?_)) | (show SWp _ _ _ (.cond _ _ _) _ _ _ _; first | refine cB (fun hc => ?_) (fun hc => ?_) | refine cU ?_ ?_)))
      (refine lN [] ?_)
      exact ⟨_, by omega, i + 1, by omega, rfl, by rw [e]; rfl, rfl⟩
  have hi3 : ¬ ((i : Int) < (t.length : Int)) := by omega
  (have := Nonempty.intro hi3)
  have e : (if i < c then i else c) = c := by split <;> omega
  rw [e]
  (repeat' (first | refine swp_seq [0, 1, 4, 5, 6, 10, 19] ?_ | refine st2 ?_ | (show Fct ..; refine fctI (fun hf => ?_)) | (show SWp _ _ _ (.cond _ _ _) _ _ _ _; first | refine cB (fun hc => ?_) (fun hc => ?_) | refine cU ?_ ?_)))
  exact DVR
theorem ediv_zero0 (U D : Int) : U * 0 / D = 0 := by rw [Int.mul_zero, Int.zero_ediv]
theorem floorT_at {t : List Knot} {x : Int} {j : Nat} (h : tabB t = true) (hj : j + 1 < t.length) (hc : cntX t x = j + 1) : floorT t x = (t.getD j default).y + ((t.getD (j + 1) default).y - (t.getD j default).y) * (x - (t.getD j default).x) / ((t.getD (j + 1) default).x - (t.getD j default).x) := by
  unfold cntX at hc
  unfold floorT
  split at hc
  · next hf =>
    rw [if_pos (.inl hf)]
    obtain rfl : j = knX t x := by omega
    rw [hf.2, Int.sub_self, ediv_zero0, Int.add_zero]
  · next hf =>
    have hk : knX t x = j + 1 := hc
    rw [if_neg (by rintro (q | q); exact hf q; omega), if_neg (by omega), hk, Nat.add_sub_cancel]
theorem floorT_0 {t : List Knot} {x : Int} (hc : cntX t x = 0) : floorT t x = (t.getD 0 default).y := by
  unfold cntX at hc
  unfold floorT
  split at hc
  · omega
  · next hf => rw [if_pos (.inr hc), hc]
theorem floorT_n {t : List Knot} {x : Int} (h : tabB t = true) (hc : cntX t x = t.length) : floorT t x = (t.getD (t.length - 1) default).y := by
  have h1 := (tab_in h).1
  unfold cntX at hc
  unfold floorT
  split at hc
  · next hf =>
    rw [if_pos (.inl hf)]
    congr 2; omega
  · next hf =>
    rw [if_neg (by rintro (q | q); exact hf q; omega), if_pos hc, hc]
set_option maxRecDepth 20000 in
set_option maxHeartbeats 8000000 in
theorem rvalue_f (t : List Knot) (x : Int) (h : tabB t = true) (hx : i64ok x) : ∃ r d : Int, ∀ m, DCalls Try.prog 84 [knotL t, li x] (hget []) m (.tup [li (floorT t x), li r, li d]) (hget []) := by
  have cb := fun m => before_f t x m h
  have hin := tab_in h
  have hk := cntX_le t x
  have hlo := fun j => cntX_lo (t := t) (x := x) (j := j)
  have hhi := fun j => cntX_hi (t := t) (x := x) (j := j) h
  have f0 := floorT_0 (t := t) (x := x)
  have fn := floorT_n (x := x) h
  have fj := fun j => floorT_at (x := x) (j := j) h
  generalize cntX t x = c at *
  by_cases hc0 : c = 0
  · subst hc0
    rw [f0 rfl]
    have e : ((0 : Nat) : Int) - 1 = -1 := by omega
    rw [e] at cb
    have hl0 : 0 < t.length := by omega
    have hl03 : (0 : Int) < (t.length : Int) := by omega
    (have := Nonempty.intro hl0)
    (have := Nonempty.intro hl03)
    refine ⟨0, 1, fun m => ?_⟩
    refine pureC (n := 85) (rs := [.tmp 4, .tmp 5, .tmp 6]) (ts := [3, 3, 3]) Try.func84 rfl (by decide) [] (by (exact SD)) ?_
    (repeat' (first | refine swp_seq [0, 1, 4, 5, 6, 7, 8, 9, 10, 15, 24] ?_ | refine st2 ?_ | (show CallQ ..; first | refine cQ (fun hcc => (by first | exact cb _)) ?_ | (refine lP ?_; refine lQ (fun hcc m => (by first | exact cb _)) ?_)) | (show XCallQ ..; first | refine xQ (fun hcc => (by first | exact cb _)) ?_ | (refine xlP ?_; refine xlQ (fun hcc m => (by first | exact cb _)) ?_)) | (show Fct ..; refine fctI (fun hf => ?_)) | (show SWp _ _ _ (.cond _ _ _) _ _ _ _; first | refine cB (fun hc => ?_) (fun hc => ?_) | refine cU ?_ ?_)))
    exact DVR
  obtain ⟨j, rfl⟩ : ∃ j, c = j + 1 := ⟨c - 1, by omega⟩
  have e : ((j + 1 : Nat) : Int) - 1 = (j : Int) := by omega
  rw [e] at cb
  have hjl : j < t.length := by omega
  (have := Nonempty.intro hjl)
  have hj0 : ¬ ((j : Int) < 0) := by omega
  (have := Nonempty.intro hj0)
  by_cases hcn : (j : Int) = (t.length : Int) - 1
  · (have := Nonempty.intro hcn)
    rw [fn (by omega), show t.length - 1 = j by omega]
    refine ⟨0, 1, fun m => ?_⟩
    refine pureC (n := 85) (rs := [.tmp 4, .tmp 5, .tmp 6]) (ts := [3, 3, 3]) Try.func84 rfl (by decide) [] (by (exact SD)) ?_
    (repeat' (first | refine swp_seq [0, 1, 4, 5, 6, 7, 8, 9, 10, 15, 24] ?_ | refine st2 ?_ | (show CallQ ..; first | refine cQ (fun hcc => (by first | exact cb _)) ?_ | (refine lP ?_; refine lQ (fun hcc m => (by first | exact cb _)) ?_)) | (show XCallQ ..; first | refine xQ (fun hcc => (by first | exact cb _)) ?_ | (refine xlP ?_; refine xlQ (fun hcc m => (by first | exact cb _)) ?_)) | (show Fct ..; refine fctI (fun hf => ?_)) | (show SWp _ _ _ (.cond _ _ _) _ _ _ _; first | refine cB (fun hc => ?_) (fun hc => ?_) | refine cU ?_ ?_)))
    exact DVR
  (have := Nonempty.intro hcn)
  have hjl1 : j + 1 < t.length := by omega
  rw [fj j hjl1 rfl]
  (have := Nonempty.intro hjl1)
  have b0 := hin.2.2.1 j hjl
  have b1 := hin.2.2.1 (j + 1) hjl1
  have b2 := hin.2.2.2 j hjl1
  have b3 := hlo j (by omega)
  have b4 := hhi (j + 1) (Nat.le_refl _) hjl1
  clear hlo hhi hin f0 fn fj
  obtain ⟨U, hU⟩ : ∃ U : Nat, (t.getD (j + 1) default).y - (t.getD j default).y = (U : Int) := ⟨((t.getD (j + 1) default).y - (t.getD j default).y).toNat, by omega⟩
  obtain ⟨W, hW⟩ : ∃ W : Nat, x - (t.getD j default).x = (W : Int) := ⟨(x - (t.getD j default).x).toNat, by omega⟩
  obtain ⟨D, hD⟩ : ∃ D : Nat, (t.getD (j + 1) default).x - (t.getD j default).x = (D : Int) := ⟨((t.getD (j + 1) default).x - (t.getD j default).x).toNat, by omega⟩
  have hD0 : 0 < D := by omega
  have hU1 : U ≤ 2251799813685248 := by omega
  have hD1 : D ≤ 2251799813685248 := by omega
  have hUW : U * W ≤ U * D := Nat.mul_le_mul_left U (by omega)
  have hQU : U * W / D ≤ U := by
    rw [Nat.div_le_iff_le_mul_add_pred hD0]
    rw [Nat.mul_comm D U]; omega
  have hdm := Nat.div_add_mod (U * W) D
  have hRD := Nat.mod_lt (U * W) hD0
  have hQ : (U : Int) * (W : Int) / (D : Int) = ((U * W / D : Nat) : Int) := by rw [Int.natCast_ediv, Int.natCast_mul]
  have eQ : (t.getD (j + 1) default).y - (t.getD j default).y = (U : Int) ∧ x - (t.getD j default).x = (W : Int) ∧ (t.getD (j + 1) default).x - (t.getD j default).x = (D : Int) := ⟨hU, hW, hD⟩
  rw [hU, hW, hD, hQ]
  clear hQ
  obtain ⟨Q, hQ⟩ : ∃ Q, U * W / D = Q := ⟨_, rfl⟩
  obtain ⟨R, hR⟩ : ∃ R, U * W % D = R := ⟨_, rfl⟩
  rw [hQ] at hQU hdm ⊢
  rw [hR] at hdm hRD
  have cs := fun m => floorOf_f U W D Q R m (by omega) (by omega) (by omega) hdm.symm hRD (by omega)
  clear hdm hQ hR hUW
  have cs2 : ∀ m, DCalls Try.prog 94 [li U, li (x - (t.getD j default).x), li D] (hget []) m (li Q) (hget []) := by rw [eQ.2.1]; exact cs
  refine ⟨IntKind.i64.wrap (IntKind.i64.wrap ((U : Int) * (x - (t.getD j default).x)) - IntKind.i64.wrap ((Q : Int) * (D : Int))), D, fun m => ?_⟩
  refine pureC (n := 85) (rs := [.tmp 4, .tmp 5, .tmp 6]) (ts := [3, 3, 3]) Try.func84 rfl (by decide) [] (by (exact SD)) ?_
  (repeat' (first | (show SWp _ _ _ (.seq (.region 8 _ _) _) _ _ _ _; refine (stop_in ?_)) | refine swp_seq [0, 1, 4, 5, 6, 7, 8, 9, 10, 15, 24] ?_ | (show SWp _ _ _ (.region _ _ true) _ _ _ _; refine xG mixed [] ?_) | refine st2 ?_ | (show CallQ ..; first | refine cQ (fun hcc => (by first | exact cb _)) ?_ | (refine lP ?_; refine lQ (fun hcc m => (by first | exact cb _)) ?_)) | (show XCallQ ..; first | refine xQ (fun hcc => (by first | exact cb _)) ?_ | (refine xlP ?_; refine xlQ (fun hcc m => (by first | exact cb _)) ?_)) | (show Fct ..; refine fctI (fun hf => ?_)) | (show SWp _ _ _ (.cond _ _ _) _ _ _ _; first | refine cB (fun hc => ?_) (fun hc => ?_) | refine cU ?_ ?_)))
  refine stop_out ?_
  rw [eQ.1, eQ.2.2]
  (repeat' (first | refine swp_seq [0, 1, 4, 5, 6, 7, 8, 9, 10, 15, 24] ?_ | refine st2 ?_ | (show CallQ ..; first | refine cQ (fun hcc => (by first | exact cs2 _)) ?_ | (refine lP ?_; refine lQ (fun hcc m => (by first | exact cs2 _)) ?_)) | (show XCallQ ..; first | refine xQ (fun hcc => (by first | exact cs2 _)) ?_ | (refine xlP ?_; refine xlQ (fun hcc m => (by first | exact cs2 _)) ?_)) | (show Fct ..; refine fctI (fun hf => ?_)) | (show SWp _ _ _ (.cond _ _ _) _ _ _ _; first | refine cB (fun hc => ?_) (fun hc => ?_) | refine cU ?_ ?_)))
  exact DVR
theorem rfloor_f (t : List Knot) (x : Int) (m : Nat) (h : tabB t = true) (hx : i64ok x) : DCalls Try.prog 62 [knotL t, li x] (hget []) m (li (floorT t x)) (hget []) := by
  obtain ⟨r, d, cp⟩ := rvalue_f t x h hx
  generalize floorT t x = F at *
  refine pureC (n := 16) (rs := [.tmp 4]) (ts := [3]) Try.func62 rfl (by decide) [] (by (exact SD)) ?_
  (repeat' (first | refine swp_seq [0, 1, 4, 5] ?_ | refine st2 ?_ | (show CallQ ..; first | refine cQ (fun hcc => (by first | exact cp _)) ?_ | (refine lP ?_; refine lQ (fun hcc m => (by first | exact cp _)) ?_)) | (show Fct ..; refine fctI (fun hf => ?_)) | (show SWp _ _ _ (.cond _ _ _) _ _ _ _; first | refine cB (fun hc => ?_) (fun hc => ?_) | refine cU ?_ ?_)))
  exact DVR
set_option maxRecDepth 20000 in
set_option maxHeartbeats 4000000 in
theorem price_f (p : Plan) (k ri : Nat) (v : Int) (m : Nat) (hp : planB p = true) (hk : k < p.inf.length) (hr : ri < p.rel.length) (hv : 0 ≤ v ∧ v ≤ 1099511627776) : DCalls Try.prog 61 [planD p, li k, li v, li (p.rel.getD ri default)] (hget []) m (li (costI p k v (p.rel.getD ri default))) (hget []) := by
  have hcst := cost_in hp hk hv hr
  have hin := planB_in hp
  have hkin := hin.2.2.2.2.2.2.2.1 k hk
  have hrin := hin.2.2.2.2.2.2.2.2.1 ri hr
  have hfl := hin.2.2.2.2.2.2.2.2.2 (p.rel.getD ri default)
  have cf := fun m => rfloor_f p.pen (p.rel.getD ri default) m hin.2.2.2.2.2.2.1 (by unfold i64ok; omega)
  (have := Nonempty.intro hk)
  have eS : (if 0 < v + p.inf.getD k default - p.rel.getD ri default - p.cap then v + p.inf.getD k default - p.rel.getD ri default - p.cap else 0) = v + p.inf.getD k default - p.rel.getD ri default - aftI p k v (p.rel.getD ri default) := by
    unfold aftI leftI; split <;> split <;> omega
  have eC : costI p k v (p.rel.getD ri default) = floorT p.pen (p.rel.getD ri default) + p.wei * (v + p.inf.getD k default - p.rel.getD ri default - aftI p k v (p.rel.getD ri default)) := rfl
  have eL : leftI p k v (p.rel.getD ri default) = v + p.inf.getD k default - p.rel.getD ri default := rfl
  rw [eC] at hcst ⊢
  rw [eL] at hcst
  clear eC eL
  generalize floorT p.pen (p.rel.getD ri default) = F at *
  refine pureC (n := 32) (rs := [.tmp 8]) (ts := [3]) Try.func61 rfl (by decide) [] (by (exact SD)) ?_
  (repeat' (first | (show SWp _ _ _ (.region 2 _ _) _ _ _ _; refine (stop_in ?_)) | refine swp_seq [0, 1, 2, 3, 4, 8, 9] ?_ | (show SWp _ _ _ (.region _ _ true) _ _ _ _; refine xG mixed [] ?_) | refine st2 ?_ | (show CallQ ..; first | refine cQ (fun hcc => (by fail)) ?_ | (refine lP ?_; refine lQ (fun hcc m => (by fail)) ?_)) | (show XCallQ ..; first | refine xQ (fun hcc => (by fail)) ?_ | (refine xlP ?_; refine xlQ (fun hcc m => (by fail)) ?_)) | (show Fct ..; refine fctI (fun hf => ?_)) | (show SWp _ _ _ (.cond _ _ _) _ _ _ _; first | refine cB (fun hc => ?_) (fun hc => ?_) | refine cU ?_ ?_)))
  refine stop_out ?_
  rw [eS]
  clear eS
  generalize v + p.inf.getD k default - p.rel.getD ri default - aftI p k v (p.rel.getD ri default) = SP at *
  (repeat' (first | refine swp_seq [0, 1, 2, 3, 4, 8, 9] ?_ | refine st2 ?_ | (show CallQ ..; first | refine cQ (fun hcc => (by first | exact cf _)) ?_ | (refine lP ?_; refine lQ (fun hcc m => (by first | exact cf _)) ?_)) | (show XCallQ ..; first | refine xQ (fun hcc => (by first | exact cf _)) ?_ | (refine xlP ?_; refine xlQ (fun hcc m => (by first | exact cf _)) ?_)) | (show Fct ..; refine fctI (fun hf => ?_)) | (show SWp _ _ _ (.cond _ _ _) _ _ _ _; first | refine cB (fun hc => ?_) (fun hc => ?_) | refine cU ?_ ?_)))
  exact DVR
theorem relB_ref {x : Int} {a : Int × Bool} {c : Int} (hx : -1 ≤ x) (ha : -1 ≤ a.1) : relB x a c = (a.2 && (decide (a.1 < 0) || (decide (0 ≤ x) && decide (x ≤ c + a.1)))) := by
  unfold relB
  have e1 : decide (a.1 = -1) = decide (a.1 < 0) := by rw [decide_eq_decide]; omega
  have e2 : (!decide (x = -1)) = decide (0 ≤ x) := by rw [Bool.eq_iff_iff]; simp; omega
  rw [e1, e2]
end Go.Proofs.Ytedocinehadodaa
