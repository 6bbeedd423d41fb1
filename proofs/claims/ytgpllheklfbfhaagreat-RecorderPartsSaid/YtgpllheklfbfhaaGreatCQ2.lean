/-
  Contracts of functions of the program, over the engine.
  No condition.
-/
import Derived.Test.YtgpllheklfbfhaaGreatCN0N1NBNmT1T2T2eT3
import Derived.Test.YtgpllheklfbfhaaGreatCQ1
import Derived.Test.YtgpllheklfbfhaaGreatCL9L10L11L12L16L20RL25L27
import Derived.Test.YtgpllheklfbfhaaGreatCKSK1K2K3K5K4W0W1W2W3
namespace Go.Proofs.YtgpllheklfbfhaaGreat
open Go.Eng
set_option linter.all false
attribute [local irreducible] DCallsG SWp Fct CallQ XCallQ LCallQ XLCallQ drun xrun
set_option maxHeartbeats 64000000
set_option maxRecDepth 20000

section
variable [Dfr] {P : Program} {N pin : Nat}
def Tm (N : Nat) (f : Nat -> Option Value) (a : Act) : Prop := a.tmps.size = N /\ a.defers = Dfr.ds /\ ∀ t v, f t = some v -> a.tmps.getD t undef = v
theorem Tm.put {f : Nat -> Option Value} {a : Act} (h : Tm N f a) (d : Nat) (hd : d < N) (v : Value) : Tm N (upd f d (some v)) (a.put (some d) v) := by
  obtain ⟨h1, h2, h3⟩ := h;refine ⟨by simp [Act.put, h1], h2, fun t u e => ?_⟩;by_cases k : t = d
  · subst k;rw [upd_same] at e;cases e;simp [Act.put, h1, hd]
  · rw [upd_ne _ _ k] at e;have := h3 t u e;rw [<- this];have k2 : ¬ d = t := fun e => k e.symm
    simp [Act.put, Array.getElem?_setIfInBounds, k2]
theorem Tm.eval {f : Nat -> Option Value} {a : Act} (h : Tm N f a) {t : Nat} {v : Value} (e : f t = some v) : a.eval (.tmp t) = v := h.2.2 t v e
theorem wpOps_one {ops : Array Oper} {Q : Exit -> Act -> World -> Prop} {i : Nat} {o : Oper} {rest : List Nat} {a : Act} {w w' : World} {v : Value} (ho : ops[i]? = some o) (hg : o.guard = none) (hr : (execOp a.eval o).run P w = .ok (.value v) w') (h : wpOps P ops Q rest (a.put o.dst v) w') : wpOps P ops Q (i :: rest) a w := by
  simp only [wpOps, ho];rw [if_pos (by unfold Region.wanted; rw [hg])];left; unfold Oper.wp; rw [hr]; exact h
theorem run_mv {a : Act} {w : World} {o : Oper} {t : Nat} {v : Value} (ho : o.op = .move (.tmp t) ∨ o.op = .assign (.tmp t)) (e : a.eval (.tmp t) = v) : (execOp a.eval o).run P w = .ok (.value v) w := by
  subst e;obtain ⟨dst, op, ty, pos, after, guard⟩ := o;rcases ho with ho | ho <;> (dsimp only at ho; subst ho; rfl)
theorem run_sl {a : Act} {w w' : World} {o : Oper} {ts : TypeId} {x : Nat} {lo hi : Option Nat} {u v : Value} {l h : Option Value} (ho : o.op = .slice ts (.tmp x) (lo.map .tmp) (hi.map .tmp) none) (ex : a.eval (.tmp x) = u) (el : (lo.map fun t => a.eval (.tmp t)) = l) (eh : (hi.map fun t => a.eval (.tmp t)) = h)
    (hr : (Instr.sliceAt ts u l h none).run P w = .ok v w') : (execOp a.eval o).run P w = .ok (.value v) w' := by
  subst ex el eh;obtain ⟨dst, op, ty, pos, after, guard⟩ := o;dsimp only at ho;subst ho;have e1 : ∀ q : Option Nat, (q.map Operand.tmp).map a.eval = q.map fun t => a.eval (.tmp t) := fun q => by cases q <;> rfl
  show (do pure (Next.value (<- Instr.sliceAt ts (a.eval (.tmp x)) ((lo.map .tmp).map a.eval) ((hi.map .tmp).map a.eval) none)) : Sem Next).run P w = _;rw [e1, e1];simp [hr]
theorem run_clr {a : Act} {w w' : World} {o : Oper} {ts : TypeId} {x : Nat} {u v : Value} (ho : o.op = .call { callee := .builtin .clear, args := #[.tmp x], argTypes := #[ts] }) (ex : a.eval (.tmp x) = u)
    (hr : (Builtin.clear_ #[ts] o.type #[u]).run P w = .ok v w') : (execOp a.eval o).run P w = .ok (.value v) w' := by
  subst ex;obtain ⟨dst, op, ty, pos, after, guard⟩ := o;dsimp only at ho hr;subst ho;rw [exec_bi (vs := #[a.eval (.tmp x)]) (by simp)];simp [builtin, hr]
theorem zc_len (z : Array Value) (n : Nat) : (Builtin.zeroCells z n).toList.length = n * z.size := by simp [Builtin.zeroCells]
theorem zc_cell {z : Array Value} {n : Nat} (h : z.toList.all vcell = true) : ∀ v, v ∈ (Builtin.zeroCells z n).toList -> vcell v = true := by
  intro v hv;simp only [Builtin.zeroCells, Array.toList_map, List.mem_map, Array.toList_range] at hv;obtain ⟨j, hj, rfl⟩ := hv;have hj := List.mem_range.1 hj;have hz : 0 < z.size := by
    rcases Nat.eq_zero_or_pos z.size with e | e
    · rw [e, Nat.mul_zero] at hj; omega
    · exact e
  have hlt : j % z.size < z.size := Nat.mod_lt _ hz;rw [getElem!_pos z _ hlt];exact List.all_eq_true.1 h _ (by simp)
theorem swp_dfend {ts te t0 : TypeId} {T F : TD} {i1 i2 : Nat} {p1 p2 p3 p4 p5 p6 p7 p8 : String} {a1 a2 a3 a4 a5 a6 a7 a8 : Array _} {y2 y6 : TypeId}
    {Q : Exit -> LE -> LH -> Nat -> Prop} {A : LE} {H : LH} {nx : Nat} (o i : Nat) (rows : List (List DV))
    (ht : td P ts = some T) (hk : T.k = .slice te) (hF : td P te = some F) (h0 : 0 < F.size) (hzl : F.zero.length = F.size) (hzc : F.zero.all vcell = true)
    (hN : 41 < N) (hA0 : eget A 0 = .gl o) (hA5 : eget A 5 = .p (.lit (.int .i64 i))) (hi : i < rows.length) (ho : pin <= o) (hH : hget H o = some (.lst te F.size rows))
    (hu : DV.usesL (fun _ => False) rows.flatten) (hQ : Q .ret [(4, .gl nx)] [(nx, .lst te F.size (rows.take i))] (nx + 1)) :
    SWp P N pin (.seq (.region i1 #[
      { dst := some 36, op := .move (.tmp 0), type := ts, pos := p1, after := a1, guard := none },
      { dst := some 37, op := .move (.tmp 5), type := y2, pos := p2, after := a2, guard := none },
      { dst := some 38, op := .slice ts (.tmp 36) (some (.tmp 37)) none none, type := ts, pos := p3, after := a3, guard := none },
      { dst := none, op := .call { callee := .builtin .clear, args := #[.tmp 38], argTypes := #[ts] }, type := t0, pos := p4, after := a4, guard := none }] false)
      (.seq (.region i2 #[
      { dst := some 39, op := .move (.tmp 0), type := ts, pos := p5, after := a5, guard := none },
      { dst := some 40, op := .move (.tmp 5), type := y6, pos := p6, after := a6, guard := none },
      { dst := some 41, op := .slice ts (.tmp 39) none (some (.tmp 40)) none, type := ts, pos := p7, after := a7, guard := none },
      { dst := some 4, op := .assign (.tmp 41), type := ts, pos := p8, after := a8, guard := none }] false) .ret)) Q A H nx := by
  unfold SWp;intro hp B hB a w hS;obtain ⟨ρ, S, HS, ES⟩ := hS;have r0 := ES.env 0;rw [hA0] at r0;simp only [Rel] at r0;have r5 := ES.env 5;rw [hA5] at r5;have r5 := rel_lit r5;have g := HS.heap o _ hH;simp only [HRel] at g;obtain ⟨l1, l2, l3, l4, l5⟩ := g;have hcap : (ρ o).cap ≠ 0 := by omega
  rcases l5 with l5 | ⟨b, vs, sp, fz, k1, k2, k3, k4, k5⟩
  · exact absurd l5 hcap
  rw [k1, l1] at r0;have hbl : b < w.heap.size := by
    rcases Nat.lt_or_ge b w.heap.size with q | q
    · exact q
    · rw [Array.getElem?_eq_none q] at k2; cases k2
  obtain ⟨inf, d, z, hi1, hu1, hz1, e1, e2, e3, e4, e5⟩ := td_spec ht;obtain ⟨inF, dF, zF, hi2, hu2, hz2, s1, s2, s3, s4, s5⟩ := td_spec hF;have hds : d = .slice te := tk_slice (e4 ▸ hk);subst hds;have hzs : zF.cells.toList = F.zero := s3.symm;have hzs2 : zF.cells.size = F.size := by rw [<- hzl, <- hzs]; simp
  have hvl : vs.length = rows.length * F.size := by
    rw [<- RelL_length k3, List.length_flatten, List.map_congr_left (g := fun _ => F.size) (fun r hr => l4 r hr), List.map_const', List.sum_replicate_nat]
  have hcl : (vs ++ sp).length = (ρ o).cap * F.size := k4;have hm1 : i * F.size + (rows.length - i) * F.size = rows.length * F.size := by rw [<- Nat.add_mul]; congr 1; omega
  have hm2 : rows.length * F.size <= (ρ o).cap * F.size := Nat.mul_le_mul_right _ l3;obtain ⟨w', q1, q2, q3, q4, q5, q6, q7⟩ := run_cells (P := P) b te fz (i * F.size) (Builtin.zeroCells zF.cells (rows.length - i)).toList 0 (vs ++ sp) w k2 (by rw [zc_len, hzs2, hcl]; omega) k5 (zc_cell (by rw [hzs]; exact hzc));have hfl : (rows.take i).flatten = rows.flatten.take (i * F.size) := by
    have h1 : rows.flatten = (rows.take i).flatten ++ (rows.drop i).flatten := by rw [<- List.flatten_append, List.take_append_drop]
    have h2 : (rows.take i).flatten.length = i * F.size := by
      rw [List.length_flatten, List.map_congr_left (g := fun _ => F.size) (fun r hr => l4 r (List.mem_of_mem_take hr)), List.map_const', List.sum_replicate_nat, List.length_take, Nat.min_eq_left (by omega)]
    rw [h1, List.take_left' h2]
  have huc : DV.usesL (fun i => i < nx) (rows.take i).flatten := by
    rw [hfl];exact usesL_sub (fun d hd => List.mem_of_mem_take hd) (usesL_mono (fun _ k => k.elim) _ hu)
  have hnS : ¬ S b := HS.sep o _ b hH (by simp [hblk, hcap, k1]);have hblk0 : hblk (ρ o) (.lst te F.size rows) = some b := by simp [hblk, hcap, k1]
  have hsl1 : (Instr.sliceAt ts (.slice (some ⟨b, 0, none⟩) rows.length (ρ o).cap) (some (.int .i64 i)) none none).run P w = .ok (.slice (some ⟨b, i * F.size, none⟩) (rows.length - i) ((ρ o).cap - i)) w := by
    have hb := bounds_run (P := P) (w := w) (len := rows.length) (cap := (ρ o).cap) (isS := true) (lo := some (.int .i64 i)) (hi := none) (l := some (i : Int)) (r := none) (.inr ⟨_, _, rfl, rfl⟩) (.inl ⟨rfl, rfl⟩) (by simp) (by simp; omega) (by simp) l3;have hne : ¬ (ρ o).cap = i := by omega
    simp [Instr.sliceAt, r_und hu1, Instr.slice, hb, r_size hi2, s1, addr_add, hne]
  have hsl2 : (Instr.sliceAt ts (.slice (some ⟨b, 0, none⟩) rows.length (ρ o).cap) none (some (.int .i64 i)) none).run P w' = .ok (.slice (some ⟨b, 0, none⟩) i (ρ o).cap) w' := by
    have hb := bounds_run (P := P) (w := w') (len := rows.length) (cap := (ρ o).cap) (isS := true) (lo := none) (hi := some (.int .i64 i)) (l := none) (r := some (i : Int)) (.inl ⟨rfl, rfl⟩) (.inr ⟨_, _, rfl, rfl⟩) (by simp) (by simp) (by simp; omega) l3;simp [Instr.sliceAt, r_und hu1, Instr.slice, hb, r_size hi2, addr_add]
  have hclr : (Builtin.clear_ #[ts] t0 #[.slice (some ⟨b, i * F.size, none⟩) (rows.length - i) ((ρ o).cap - i)]).run P w = .ok (.tuple #[]) w' := by
    obtain ⟨m, hm⟩ : ∃ m, rows.length - i = m + 1 := ⟨rows.length - i - 1, by omega⟩;rw [hm] at q1 ⊢;simp [Builtin.clear_, r_und hu1, r_zero hi2 hz2, q1]
  have hnl : (vs.take (i * F.size) ++ ((Builtin.zeroCells zF.cells (rows.length - i)).toList ++ (vs ++ sp).drop (i * F.size + 0 + (Builtin.zeroCells zF.cells (rows.length - i)).toList.length))).length = (vs ++ sp).length := by
    have h1 := zc_len zF.cells (rows.length - i);rw [hzs2] at h1;rw [List.length_append, List.length_append, List.length_take, List.length_drop, h1, hcl, Nat.min_eq_left (by omega)];omega
  have T0 : Tm N (fun t => if t = 0 then some (.slice (some ⟨b, 0, none⟩) rows.length (ρ o).cap) else if t = 5 then some (.int .i64 i) else none) a := by
    refine ⟨ES.size, ES.defers, fun t v e => ?_⟩;dsimp only at e;by_cases c0 : t = 0
    · subst c0; rw [if_pos rfl] at e; cases e; exact r0
    · rw [if_neg c0] at e;by_cases c5 : t = 5
      · subst c5; rw [if_pos rfl] at e; cases e; exact r5
      · rw [if_neg c5] at e; cases e
  have T1 := T0.put 36 (by omega) (.slice (some ⟨b, 0, none⟩) rows.length (ρ o).cap);have T2 := T1.put 37 (by omega) (.int .i64 i);have T3 := T2.put 38 (by omega) (.slice (some ⟨b, i * F.size, none⟩) (rows.length - i) ((ρ o).cap - i));have T4 := T3.put 39 (by omega) (.slice (some ⟨b, 0, none⟩) rows.length (ρ o).cap);have T5 := T4.put 40 (by omega) (.int .i64 i);have T6 := T5.put 41 (by omega) (.slice (some ⟨b, 0, none⟩) i (ρ o).cap);have T7 := T6.put 4 (by omega) (.slice (some ⟨b, 0, none⟩) i (ρ o).cap);refine wp_seq (wp_region ?_);show wpOps P _ _ [0, 1, 2, 3] a w;refine wpOps_one rfl rfl (run_mv (.inl rfl) (T0.eval (t := 0) rfl)) ?_;refine wpOps_one rfl rfl (run_mv (.inl rfl) (T1.eval (t := 5) rfl)) ?_;refine wpOps_one rfl rfl (run_sl (lo := some 37) (hi := none) rfl (T2.eval (t := 36) rfl) (congrArg some (T2.eval (t := 37) rfl)) rfl hsl1) ?_;refine wpOps_one rfl rfl (run_clr rfl (T3.eval (t := 38) rfl) hclr) ?_;show Code.wp P _ _ _ w';refine wp_seq (wp_region ?_);show wpOps P _ _ [0, 1, 2, 3] _ w';refine wpOps_one rfl rfl (run_mv (.inl rfl) (T3.eval (t := 0) rfl)) ?_;refine wpOps_one rfl rfl (run_mv (.inl rfl) (T4.eval (t := 5) rfl)) ?_;refine wpOps_one rfl rfl (run_sl (lo := none) (hi := some 40) rfl (T5.eval (t := 39) rfl) rfl (congrArg some (T5.eval (t := 40) rfl)) hsl2) ?_;refine wpOps_one rfl rfl (run_mv (.inr rfl) (T6.eval (t := 41) rfl)) ?_;refine wp_ret ?_;have T8 := T7;refine ⟨_, _, nx + 1, by omega, ⟨upd ρ nx { a := some ⟨b, 0, none⟩, len := i, cap := (ρ o).cap }, S, ?_, ?_⟩, hQ⟩
  · have hB0 : ∀ j, B.U0 j -> j ≠ nx := fun j hj => by have := hB j hj; omega
    have G := (HS.drop (h' := fun _ => none) (fun i v h => by cases h)).install (ρ' := upd ρ nx { a := some ⟨b, 0, none⟩, len := i, cap := (ρ o).cap }) (w' := w') nx (.lst te F.size (rows.take i)) b (fun j hj => upd_ne _ _ (by omega)) (fun j hj => upd_ne _ _ (hB0 j hj)) (fun k _ hk => q3 k hk) (by omega) q5 q6 q7 hnS ?_ (fun j u _ hj => by cases hj) (fun b' hb' => by
      rw [upd_same] at hb';simp [hblk, hcap] at hb'; exact hb'.symm) ?_ (by
      simp only [HV.uses]; exact usesL_mono (fun _ k => .inl k) _ huc)
    · have e : upd (fun _ => none) nx (some (HV.lst te F.size (rows.take i))) = hget [(nx, HV.lst te F.size (rows.take i))] := by
        funext t
        by_cases q : t = nx
        · subst q; simp [hget, upd]
        · simp [hget, upd, q]
      rw [<- e];exact G.used fun j k => by omega
    · rcases HS.prov o _ b hH hblk0 with k | k
      · exact absurd (HS.ownU _ _ k) (fun k => by have := hB o k; omega)
      · exact .inr k
    · simp only [HRel, upd_same];refine ⟨by rw [List.length_take, Nat.min_eq_left (by omega)], by rw [List.length_take]; omega, by rw [List.length_take]; omega, fun r hr => l4 r (List.mem_of_mem_take hr), .inr ⟨b, vs.take (i * F.size), (Builtin.zeroCells zF.cells (rows.length - i)).toList ++ (vs ++ sp).drop (i * F.size + 0 + (Builtin.zeroCells zF.cells (rows.length - i)).toList.length), fz, rfl, ?_, ?_, ?_, ?_⟩⟩
      · rw [q2];unfold putV;rw [Nat.add_zero, List.take_append_of_le_length (by omega), List.append_assoc]
      · rw [hfl];have hr := RelL_take (i * F.size) k3;refine RelL.mono (U := fun _ => False) (fun _ k => k.elim) (fun _ k => k) (fun c hc => q3 c fun e => hnS (e ▸ hc)) _ _ ?_ hr;exact usesL_sub (fun d hd => List.mem_of_mem_take hd) hu
      · rw [hnl]; exact k4
      · rw [hnl]; exact k5
  · refine ⟨T7.1, T7.2.1, fun t => ?_, fun t => ?_⟩
    · simp only [eget];split
      · next e =>
        subst e;simp only [Rel, upd_same];exact T7.2.2 4 _ (upd_same ..)
      · simp only [Rel]
    · simp only [eget];split
      · show nx < nx + 1;omega
      · trivial
end
abbrev reHt (a : List Rec) : HV := .lst 41 11 (rows recP a)
theorem rows_take43 {α : Type} (f : α -> List PV) (l : List α) (i : Nat) : (rows f l).take i = rows f (l.take i) := by unfold rows; rw [List.map_take]
theorem filter_keep {α : Type} [Inhabited α] {p : α -> Bool} {l : List α} {k : Nat} (hk : k <= l.length) (ha : ∀ j, j < k -> p (l.getD j default) = false) : (l.take k).filter (fun x => !p x) = l.take k := List.filter_eq_self.2 fun x hx => by
  obtain ⟨j, hj, e⟩ := List.getElem_of_mem hx;have hj2 : j < k := by rw [List.length_take] at hj; omega
  have h1 := ha j hj2;rw [List.getElem_take] at e;rw [List.getD_eq_getElem?_getD, List.getElem?_eq_getElem (by omega), Option.getD_some, e] at h1;rw [h1]; rfl
theorem keep_start {α : Type} [Inhabited α] {p : α -> Bool} {l : List α} {k : Nat} (ht : p (l.getD k default) = true) (ha : ∀ j, j < k -> p (l.getD j default) = false) (hk : k < l.length) : l.take k = (l.take (k + 1)).filter fun x => !p x := by
  have hg : l.getD k default = l[k] := by simp [List.getD_eq_getElem?_getD, hk]
  rw [hg] at ht;rw [List.take_succ_eq_append_getElem hk, List.filter_append, filter_keep (by omega) ha];simp [ht]
theorem drop_same {α : Type} [Inhabited α] {X l : List α} {j : Nat} (h4 : X.length = l.length) (hj : j < l.length) (h : X.drop j = l.drop j) : X.getD j default = l.getD j default := by
  have h1 : X.getD j default = (X.drop j).getD 0 default := by simp [List.getD_eq_getElem?_getD]
  have h2 : l.getD j default = (l.drop j).getD 0 default := by simp [List.getD_eq_getElem?_getD]
  rw [h1, h2, h]
theorem drop_next {α : Type} {X l : List α} {j : Nat} (h : X.drop j = l.drop j) : X.drop (j + 1) = l.drop (j + 1) := by
  rw [<- List.drop_drop, <- List.drop_drop, h]
theorem keep_no {α : Type} [Inhabited α] {p : α -> Bool} {X l : List α} {i j : Nat} (hj : j < l.length) (h5 : X.take i = (l.take j).filter fun x => !p x) (hp : p (l.getD j default) = true) : X.take i = (l.take (j + 1)).filter fun x => !p x := by
  have hg : l.getD j default = l[j] := by simp [List.getD_eq_getElem?_getD, hj]
  rw [hg] at hp;rw [List.take_succ_eq_append_getElem hj, List.filter_append, <- h5];simp [hp]
theorem keep_yes {α : Type} [Inhabited α] {p : α -> Bool} {X l : List α} {i j : Nat} (h2 : i < j) (h4 : X.length = l.length) (hj : j < l.length) (h5 : X.take i = (l.take j).filter fun x => !p x) (h6 : X.drop j = l.drop j) (hp : p (l.getD j default) = false) :
    (X.set i (l.getD j default)).take (i + 1) = (l.take (j + 1)).filter (fun x => !p x) /\ (X.set i (l.getD j default)).drop (j + 1) = l.drop (j + 1) := by
  have hg : l.getD j default = l[j] := by simp [List.getD_eq_getElem?_getD, hj]
  rw [hg] at hp ⊢;constructor
  · rw [List.take_succ_eq_append_getElem hj, List.filter_append, <- h5, List.take_succ_eq_append_getElem (by simp; omega)];simp [hp, List.take_set_of_le]
  · rw [List.drop_set_of_lt (by omega)];exact drop_next h6
theorem Rec_cells (b : Rec) (l : List Rec) : CellsB (recC b ++ (rows recP l).flatten) = True := by
  refine propext ⟨fun _ => trivial, fun _ d hd => ?_⟩;rcases List.mem_append.1 hd with h | h
  · simp only [recC, List.mem_cons, List.not_mem_nil, or_false] at h;rcases h with rfl | rfl | rfl | rfl | rfl | rfl | rfl | rfl | rfl | rfl | rfl <;> rfl
  · obtain ⟨r, hr, h⟩ := List.mem_flatten.1 h;obtain ⟨x, _, rfl⟩ := List.mem_map.1 hr;obtain ⟨y, _, rfl⟩ := List.mem_map.1 h;rfl
attribute [local push_cast] Rec_cells
theorem cloneRec_f (l : List Rec) (m : Nat) (hl : l.length <= 1048576) : DCallsG Tryz.prog 13 [] [recs l] (hget []) m (.gl m) (hget [(m, reHt l)]) := by
  refine contract (n := 8) (rs := [.tmp 2]) (ts := [34]) Tryz.func13 rfl (by decide) 0 0 [] [] [24] (.gl 24) [(24, reHt l)] (by (exact SD)) (by (exact SD)) ?_;cases l with
  | nil =>
    (repeat' (first | refine swp_seq [0, 2, 4] ?_ | (first | refine rF (fun hf => ?_) | refine tN ?_ | refine swp_skip ?_ | refine swp_block ?_ | refine swp_scope ?_ | refine blockK_normal ?_ | refine scopeK_normal ?_ | (refine cB (fun hc => ?_) (fun hc => ?_) <;> first | exact False.elim hc | exact absurd hc Bool.false_ne_true | exact absurd hc.symm Bool.false_ne_true | skip) | refine cU ?_ ?_)))
    · (refine sN 2 41 11 ?_);(refine sR 32 24 ?_);(repeat' (first | refine swp_seq [0, 2, 4] ?_ | (first|refine rF (fun hf=>?_)|refine st0 ?_|refine dF mixed ?_|(refine cB (fun hc=>?_) (fun hc=>?_)<;>first|exact False.elim hc|exact absurd hc Bool.false_ne_true|exact absurd hc.symm Bool.false_ne_true|skip)|refine cU ?_ ?_)));exact DVS
    · (repeat' (first | refine swp_seq [0, 2, 4] ?_ | (first|refine rF (fun hf=>?_)|refine st0 ?_|refine dF mixed ?_|(refine cB (fun hc=>?_) (fun hc=>?_)<;>first|exact False.elim hc|exact absurd hc Bool.false_ne_true|exact absurd hc.symm Bool.false_ne_true|skip)|refine cU ?_ ?_)));exact DVS
  | cons b l =>
    (repeat' (first | refine swp_seq [0,2,4] ?_ | (first|refine rF (fun hf=>?_)|refine st0 ?_|refine dF mixed ?_|(refine cB (fun hc=>?_) (fun hc=>?_)<;>first|exact False.elim hc|exact absurd hc Bool.false_ne_true|exact absurd hc.symm Bool.false_ne_true|skip)|refine cU ?_ ?_)));exact DVS
theorem idxRec_f (g : FuncId) (p : Rec -> Bool) (l : List Rec) (m : Nat) (hl : l.length <= 281474976710656) (hg : ∀ x, x ∈ l -> ∀ m, Pu g [recD x, ] m (lb (p x))) :
    Pu 34 [recs l, .clo g []] m (li (idxI p l)) := by
  refine pcN 19 [.tmp 4] [3] Tryz.func34 rfl [] ?_;(repeat' first|refine stW [0,1,4,5,7,8,9,16] ?_|refine fctI fun hf=>?_|refine twI (fun hc=>?_) fun hc=>?_);refine loop_swp [0, 1, 7, 8] [] 0 (fun q A H => ∃ i : Nat, i <= l.length /\ q = l.length - i /\ (l.take i).any p = false /\ A = [(0, recs l), (1, .clo g []), (7, li l.length), (8, li i)] /\ H = []) (by omega) ?_ ?_ ?_
  · rintro q A H ⟨i, h1, h2, h3, rfl, rfl⟩;exact SDD
  · refine ⟨_, 0, by omega, rfl, rfl, ?_, ?_⟩
    · exact DVR
    · exact DVR
  · rintro q A H ⟨i, h1, h2, h3, rfl, rfl⟩;(repeat' first|refine stW [0,1,4,5,7,8,9,16] ?_|(show CallQ ..;first|refine cQ (fun hcc=>(hg _ (getD_mem SC) _)) ?_|(refine lP ?_;refine lQ (fun hcc m=>(hg _ (getD_mem SC) _)) ?_))|refine fctI fun hf=>?_|refine twI (fun hc=>?_) fun hc=>?_)
    · (refine DVQ ?_);rw [idxI_hit h3 (by omega) (by assumption)]
    · (refine lN [] ?_);exact ⟨_, by omega, i + 1, by omega, rfl, any_step h3 (by omega) (by assumption), rfl, rfl⟩
    · (refine DVQ ?_);rw [List.take_of_length_le (by omega)] at h3;rw [idxI_none h3]
theorem conRec_f (g : FuncId) (p : Rec -> Bool) (l : List Rec) (m : Nat) (hl : l.length <= 281474976710656) (hg : ∀ x, x ∈ l -> ∀ m, Pu g [recD x, ] m (lb (p x))) :
    Pu 6 [recs l, .clo g []] m (lb (l.any p)) := by
  have ci := fun m => idxRec_f g p l m hl hg
  refine pcN 9 [.tmp 4] [4] Tryz.func6 rfl [] ?_;(repeat' first|refine stW [0,1,4] ?_|refine fctI fun hf=>?_|refine twI (fun hc=>?_) fun hc=>?_);(refine DVQ ?_);rw [idxI_any]
theorem set_Rec (X : List Rec) (i : Nat) (y z : Rec) : (rows recP X).set i (recC y ++ List.drop 11 (recC z)) = rows recP (X.set i y) := by
  unfold rows;rw [List.map_set];rfl
theorem delRec_f (g : FuncId) (p : Rec -> Bool) (l : List Rec) (m : Nat) (hl : l.length <= 281474976710656) (hg : ∀ x, x ∈ l -> ∀ m, Pu g [recD x, ] m (lb (p x))) :
    DCallsG Tryz.prog 12 [0] [.gl 0, .clo g []] (hget [(0, reHt l)]) m (.gl m) (hget [(m, reHt (l.filter fun x => !p x))]) := by
  have ci := fun m => idxRec_f g p l m hl hg
  rcases idxI_spec p l with ⟨e, ha⟩ | ⟨k, e, hk, ht, ha⟩
  · have hf : l.filter (fun x => !p x) = l := by have := filter_keep (Nat.le_refl _) ha; rwa [List.take_length] at this
    rw [hf];simp only [e] at ci;refine contract (n := 42) (rs := [.tmp 4]) (ts := [34]) Tryz.func12 rfl (by decide) 0 1 [] [0] [0] (.gl 0) [(0, reHt l)] (by (exact SD)) (by (exact SD)) ?_;(repeat' first|refine stW [0,1,4,5,6,7,12,19,29] ?_|refine fctI fun hf=>?_|refine twI (fun hc=>?_) fun hc=>?_);exact DVS
  have hk1 : ¬ (k : Int) = -1 := by omega
  simp only [e] at ci;(have:=NeI hk1);refine contract (n := 42) (rs := [.tmp 4]) (ts := [34]) Tryz.func12 rfl (by decide) 0 1 [] [0] [113] (.gl 113) [(113, reHt (l.filter fun x => !p x))] (by (exact SD)) (by (exact SD)) ?_;(repeat' first|refine stW [0,1,4,5,6,7,12,19,29] ?_|refine fctI fun hf=>?_|refine twI (fun hc=>?_) fun hc=>?_);refine loop_swp [0, 1, 5, 6] [0] 81 (fun q A H => ∃ (i j : Nat) (X : List Rec), j <= l.length /\ i < j /\ q = l.length - j /\ X.length = l.length /\ X.take i = (l.take j).filter (fun x => !p x) /\ X.drop j = l.drop j /\ A = [(0, .gl 0), (1, .clo g []), (5, li i), (6, li j)] /\ H = [(0, reHt X)]) (by omega) ?_ ?_ ?_
  · rintro q A H ⟨i, j, X, h1, h2, h3, h4, h5, h6, rfl, rfl⟩;exact SDD
  · refine ⟨_, k, k + 1, l, by omega, by omega, rfl, rfl, keep_start ht ha hk, rfl, ?_, ?_⟩
    · exact DVR
    · exact DVR
  rintro q A H ⟨i, j, X, h1, h2, h3, h4, h5, h6, rfl, rfl⟩;by_cases hj : j < l.length
  · have hj3 : (j : Int) < (X.length : Int) := by omega
    have hjX : j < X.length := by omega
    have hiX : i < X.length := by omega
    have hx := drop_same h4 hj h6;have cq := fun m => hg (l.getD j default) (getD_mem hj) m
    have hA := keep_yes (p := p) h2 h4 hj h5 h6;have hB := keep_no (p := p) hj h5;have hC := drop_next h6;clear hg ci;(have:=NeI hj3);(have:=NeI hjX);(have:=NeI hiX);rw [<- hx] at cq hA hB;cases hp : p (X.getD j default) <;> simp only [hp] at cq
    · (repeat' first|refine stW [0,1,4,5,6,7,12,19,29] ?_|refine fctI fun hf=>?_|refine twI (fun hc=>?_) fun hc=>?_);(refine lN [0] ?_);exact ⟨_, by omega, i + 1, j + 1, X.set i (X.getD j default), by omega, by omega, rfl, by simp [h4], (hA hp).1, (hA hp).2, rfl, congrArg (fun x => [(0, HV.lst 41 11 x)]) (set_Rec X i (X.getD j default) default)⟩
    · (repeat' first|refine stW [0,1,4,5,6,7,12,19,29] ?_|refine fctI fun hf=>?_|refine twI (fun hc=>?_) fun hc=>?_);(refine lN [0] ?_);exact ⟨_, by omega, i, j + 1, X, by omega, by omega, rfl, h4, hB hp, hC, rfl, rfl⟩
  obtain rfl : j = l.length := by omega
  rw [List.take_length] at h5;have hj3 : ¬ (l.length : Int) < (X.length : Int) := by omega
  clear hg ci;(have:=NeI hj3);(repeat' first|(show SWp _ _ _ (.seq (.region 11 _ _) _) _ _ _ _;refine (stop_in ?_))|refine stW [0,1,4,5,6,7,12,19,29] ?_|refine fctI fun hf=>?_|refine twI (fun hc=>?_) fun hc=>?_);refine stop_out ?_;refine swp_dfend 0 i (rows recP X) td34 rfl td41 (by decide) rfl rfl (by decide) rfl rfl (by simp [rows]; omega) (by omega) rfl (uses_rows recP _ _) ?_;rw [rows_take43, h5];exact DVS
theorem put_f (l : List UInt8) (n : Int) (s : Nat) (m : Nat) (hs : s <= 8) (hl : l.length <= 281474976710) :
    DCallsG Tryz.prog 57 [0] [.gl 0, li n, li s] (hget [(0, byL l)]) m (.gl m) (hget [(m, byL (l ++ beBytes s (un64 n)))]) := by
  refine contract (n := 24) (rs := [.tmp 6]) (ts := [64]) Tryz.func57 rfl (by decide) 0 1 [] [0] [0] (.gl 0) [(0, byL (l ++ beBytes s (un64 n)))] (by (exact SD)) (by (exact SD)) ?_;(repeat' (first | refine swp_seq [0,1,2,6,7,11] ?_ | (first|refine rF (fun hf=>?_)|refine st0 ?_|refine dF mixed ?_|(refine cB (fun hc=>?_) (fun hc=>?_)<;>first|exact False.elim hc|exact absurd hc Bool.false_ne_true|exact absurd hc.symm Bool.false_ne_true|skip)|refine cU ?_ ?_)));refine loop_swp [0, 1, 7] [0] 1 (fun k A H => ∃ (i : Nat) (q : List UInt8), i <= s /\ k = i /\ q.length + i = s /\ q ++ beBytes i (un64 n) = beBytes s (un64 n) /\ A = [(0, .gl 0), (1, li n), (7, li (i - 1))] /\ H = [(0, byL (l ++ q))]) (by omega) ?_ ?_ ?_
  · rintro k A H ⟨i, q, h1, h2, h3, h4, rfl, rfl⟩;exact SDD
  · refine ⟨_, s, [], by omega, rfl, by simp, rfl, ?_, ?_⟩
    · exact DVR
    · exact DVR
  · rintro k A H ⟨i, q, h1, h2, h3, h4, rfl, rfl⟩;(repeat' (first | refine swp_seq [0,1,2,6,7,11] ?_ | (first|refine rF (fun hf=>?_)|refine st0 ?_|refine dF mixed ?_|(refine cB (fun hc=>?_) (fun hc=>?_)<;>first|exact False.elim hc|exact absurd hc Bool.false_ne_true|exact absurd hc.symm Bool.false_ne_true|skip)|refine cU ?_ ?_)))
    · (refine lN [0] ?_);obtain ⟨j, rfl⟩ : ∃ j, i = j + 1 := ⟨i - 1, by omega⟩;have e : ((j + 1 : Nat) : Int) - 1 = j := by omega
      rw [e, shr_u8 n j (by omega)];refine ⟨_, by omega, j, q ++ [UInt8.ofNat (un64 n / 256 ^ j)], by omega, rfl, by simp; omega, by rw [<- h4]; simp [beBytes], rfl, ?_⟩;simp [rows, byRow]
    · (refine DVQ ?_);obtain rfl : i = 0 := by omega
      simp only [beBytes, List.append_nil] at h4;rw [h4]
theorem putN_f (n : Int) (s : Nat) (m : Nat) (hs : s <= 8) (hs1 : 1 <= s) :
    DCallsG Tryz.prog 57 [] [nilS, li n, li s] (hget []) m (.gl m) (hget [(m, byL (beBytes s (un64 n)))]) := by
  refine contract (n := 24) (rs := [.tmp 6]) (ts := [64]) Tryz.func57 rfl (by decide) 0 0 [] [] [200] (.gl 200) [(200, byL (beBytes s (un64 n)))] (by (exact SD)) (by (exact SD)) ?_;(repeat' (first | refine swp_seq [0,1,2,6,7,11] ?_ | (first|refine rF (fun hf=>?_)|refine st0 ?_|refine dF mixed ?_|(refine cB (fun hc=>?_) (fun hc=>?_)<;>first|exact False.elim hc|exact absurd hc Bool.false_ne_true|exact absurd hc.symm Bool.false_ne_true|skip)|refine cU ?_ ?_)));refine loop_swp [0, 1, 7] [] 201 (fun k A H => ∃ (i : Nat) (q : List UInt8) (d : DV), i <= s /\ k = i /\ q.length + i = s /\ q ++ beBytes i (un64 n) = beBytes s (un64 n) /\ ((i = s /\ q = [] /\ d = nilS /\ H = []) ∨ (d = .gl 200 /\ H = [(200, byL q)])) /\ A = [(0, d), (1, li n), (7, li (i - 1))]) (by omega) ?_ ?_ ?_
  · rintro k A H ⟨i, q, d, h1, h2, h3, h4, h5, rfl⟩;rcases h5 with ⟨_, _, rfl, rfl⟩ | ⟨rfl, rfl⟩
    · exact SDD
    · exact SDD
  · refine ⟨_, s, [], _, by omega, rfl, by simp, rfl, .inl ⟨rfl, rfl, rfl, rfl⟩, ?_⟩
    · exact DVR
  · rintro k A H ⟨i, q, d, h1, h2, h3, h4, h5, rfl⟩;rcases h5 with ⟨rfl, rfl, rfl, rfl⟩ | ⟨rfl, rfl⟩
    · (repeat' (first | refine swp_seq [0,1,2,6,7,11] ?_ | (first|refine rF (fun hf=>?_)|refine st0 ?_|refine dF mixed ?_|(refine cB (fun hc=>?_) (fun hc=>?_)<;>first|exact False.elim hc|exact absurd hc Bool.false_ne_true|exact absurd hc.symm Bool.false_ne_true|skip)|refine cU ?_ ?_)))
      · (refine lR 281 200 [281] ?_);obtain ⟨j, rfl⟩ : ∃ j, i = j + 1 := ⟨i - 1, by omega⟩;have e : ((j + 1 : Nat) : Int) - 1 = j := by omega
        rw [e, shr_u8 n j (by omega)];refine ⟨_, by omega, j, [UInt8.ofNat (un64 n / 256 ^ j)], _, by omega, rfl, by simp; omega, by simp [beBytes], .inr ⟨rfl, ?_⟩, rfl⟩;simp [rows, byRow]
      · exfalso; omega
    · (repeat' (first | refine swp_seq [0,1,2,6,7,11] ?_ | (first|refine rF (fun hf=>?_)|refine st0 ?_|refine dF mixed ?_|(refine cB (fun hc=>?_) (fun hc=>?_)<;>first|exact False.elim hc|exact absurd hc Bool.false_ne_true|exact absurd hc.symm Bool.false_ne_true|skip)|refine cU ?_ ?_)))
      · (refine lN [200] ?_);obtain ⟨j, rfl⟩ : ∃ j, i = j + 1 := ⟨i - 1, by omega⟩;have e : ((j + 1 : Nat) : Int) - 1 = j := by omega
        rw [e, shr_u8 n j (by omega)];refine ⟨_, by omega, j, q ++ [UInt8.ofNat (un64 n / 256 ^ j)], _, by omega, rfl, by simp; omega, by rw [<- h4]; simp [beBytes], .inr ⟨rfl, ?_⟩, rfl⟩;simp [rows, byRow]
      · (refine DVQ ?_);obtain rfl : i = 0 := by omega
        simp only [beBytes, List.append_nil] at h4;rw [h4]
def frameB (b : List UInt8) : List UInt8 := beBytes 4 (un64 b.length) ++ b ++ beBytes 4 (un64 (Go.Eng.sumN (beBytes 4 (un64 b.length) ++ b)))
theorem frame_f (b : List UInt8) (m : Nat) (hb : b.length <= 1000000) : Pu 59 [bys b] m (bys (frameB b)) := by
  refine pcN 13 [.tmp 2] [64] Tryz.func59 rfl [80] ?_;(repeat' (first | refine swp_seq [0,2,3] ?_ | (first|refine rF (fun hf=>?_)|refine st0 ?_|refine dF mixed ?_|(refine cB (fun hc=>?_) (fun hc=>?_)<;>first|exact False.elim hc|exact absurd hc Bool.false_ne_true|exact absurd hc.symm Bool.false_ne_true|skip)|refine cU ?_ ?_)))
  ((refine rC (fun hf => ?_); refine cA (putN_f b.length 4 _ (by omega) (by omega)) (fun hf => ?_); refine drun_end ?_))
  (repeat' (first | refine swp_seq [0,2,3] ?_ | (first|refine rF (fun hf=>?_)|refine st0 ?_|refine dF mixed ?_|(refine cB (fun hc=>?_) (fun hc=>?_)<;>first|exact False.elim hc|exact absurd hc Bool.false_ne_true|exact absurd hc.symm Bool.false_ne_true|skip)|refine cU ?_ ?_)));(refine rC (fun hf => ?_));(refine cL 24 (fun m => rsum_f (beBytes 4 (un64 b.length) ++ b) m (by simp [beBytes_length]; omega)) (fun hf => ?_));(refine cT [24] (put_f (beBytes 4 (un64 b.length) ++ b) (Go.Eng.sumN (beBytes 4 (un64 b.length) ++ b)) 4 1 (by omega) (by simp [beBytes_length]; omega)) (fun hf => ?_));(refine drun_end ?_);(repeat' (first | refine swp_seq [0,2,3] ?_ | (first|refine rF (fun hf=>?_)|refine st0 ?_|refine dF mixed ?_|(refine cB (fun hc=>?_) (fun hc=>?_)<;>first|exact False.elim hc|exact absurd hc Bool.false_ne_true|exact absurd hc.symm Bool.false_ne_true|skip)|refine cU ?_ ?_)));exact DVR
theorem frameB_len (b : List UInt8) : (frameB b).length = b.length + 8 := by unfold frameB; simp [beBytes_length]; omega
def gRec : Rec := ⟨2, 0, [], ⟨#[103]⟩, 500, zMsg, .empty⟩
theorem gB : recB gRec = true := by decide +kernel
theorem gOk : recOk gRec := ⟨by decide, by decide, by decide, by decide⟩
abbrev gD : DV := .agg [li 2, li 0, ints [], ls ⟨#[103]⟩, li 500, ls .empty, li 0, li 0, li 0, li 0, ls .empty]
theorem gV_f (m : Nat) : Pu 45 [gD] m (lb true) := by
  have := recV_f gRec m gOk;rw [gB] at this;exact this
abbrev gBy : List UInt8 := [2, 1, 103, 1, 244]
abbrev dsk0 (a : Int) : DV := .agg [bys [], li 0, li a]
abbrev rd0 (e : Bool) : HV := .blk 189 [bys [], lb e]
theorem take0_f (m : Nat) : DCalls Tryz.prog 155 [.ptr 0 0, li 4] (hget [(0, rd0 false)]) m (bys []) (hget [(0, rd0 true)]) := by
  refine contract (n := 42) (rs := [.tmp 4]) (ts := [64]) Tryz.func155 rfl (by decide) 1 1 [] [] [] (bys []) [(0, rd0 true)] (by (exact SD)) (by (exact SD)) ?_;(repeat' first|refine stW [0,1,4,5,25] ?_|refine fctI fun hf=>?_|refine twI (fun hc=>?_) fun hc=>?_);(refine DVQ ?_);exact ⟨rfl, rfl⟩
theorem number0_f (m : Nat) : DCalls Tryz.prog 154 [.ptr 0 0, li 4] (hget [(0, rd0 false)]) m (li 0) (hget [(0, rd0 true)]) := by
  refine contract (n := 24) (rs := [.tmp 4]) (ts := [3]) Tryz.func154 rfl (by decide) 1 1 [] [] [] (li 0) [(0, rd0 true)] (by (exact SD)) (by (exact SD)) ?_;(repeat' first|refine stW [0,1,4,5,7,10,11,12,13] ?_|refine fctI fun hf=>?_|refine twI (fun hc=>?_) fun hc=>?_);(refine cQT [0] (fun hcc => (take0_f _)) ?_);(repeat' (first | (show SWp _ _ _ (.loop _) _ _ _ _; refine swp_rounds (lwp_round ?_)) | (show roundK ..; first | refine roundK_ret ?_ | refine roundK_exit ?_ | refine roundK_normal [0,1,4,5,7,10,11,12,13] (by (refine DVQ ?_) <;> rfl) ?_) | refine swp_seq [0,1,4,5,7,10,11,12,13] ?_ | refine st1 ?_ | (show CallQ ..; first | refine cF ?_ | refine cQ (fun hcc => (by fail)) ?_ | (refine lP ?_; refine lQ (fun hcc m => (by fail)) ?_)) | (show Fct ..; refine fctI (fun hf => ?_)) | (show XCallQ ..; first | refine xcF ?_ | refine xQ (fun hcc => (by fail)) ?_ | (refine xlP ?_; refine xlQ (fun hcc m => (by fail)) ?_)) | (show SWp _ _ _ (.region _ _ true) _ _ _ _; refine xG mixed [] ?_) | (show SWp _ _ _ (.cond _ _ _) _ _ _ _; first | (refine cB (fun hc => ?_) (fun hc => ?_) <;> first | exact False.elim hc | exact absurd hc Bool.false_ne_true | exact absurd hc.symm Bool.false_ne_true | skip) | refine cU ?_ ?_)));exact DVR
theorem frames0_f (m : Nat) : Pu 113 [bys []] m (.tup [.p (.dat 1 []), ints []]) := by
  refine pcN 76 [.tmp 2,.tmp 3] [155,28] Tryz.func113 rfl [] ?_;(repeat' first|refine stW [0,2,3,4,5,6,7,8,9,30,58] ?_|refine fctI fun hf=>?_|refine twI (fun hc=>?_) fun hc=>?_);refine loop_swp [0, 2, 3, 4] [32] 48 (fun q A H => q = 0 /\ A = [(0, bys []), (2, .p (.lit (.slice none 0 0))), (3, .p (.lit (.slice none 0 0))), (4, .ptr 32 0)] /\ H = [(32, rd0 false)]) (by omega) ?_ ?_ ?_
  · rintro q A H ⟨g1, rfl, rfl⟩;exact SDD
  · refine ⟨_, rfl, ?_, ?_⟩
    · exact DVR
    · exact DVR
  rintro q A H ⟨g1, rfl, rfl⟩;(repeat' first|refine stW [0,2,3,4,5,6,7,8,9,30,58] ?_|refine fctI fun hf=>?_|refine twI (fun hc=>?_) fun hc=>?_);(refine cQT [32] (fun hcc => (number0_f _)) ?_);(repeat' first|refine stW [0,2,3,4,5,6,7,8,9,30,58] ?_|refine fctI fun hf=>?_|refine twI (fun hc=>?_) fun hc=>?_);exact DVR
theorem valid0_f (a : Int) (m : Nat) (ha : -1 <= a /\ a <= 1048576) : Pu 58 [dsk0 a] m (lb true) := by
  have h1 : ¬ a < -1 := by omega
  have h2 : ¬ 1048576 < a := by omega
  (have:=NeI h1);(have:=NeI h2);refine pcN 34 [.tmp 2] [4] Tryz.func58 rfl [] ?_;(repeat' first|refine stW [0,1,2,4,18] ?_|(show CallQ ..;first|refine cQ (fun hcc=>(by first | exact frames0_f _)) ?_|(refine lP ?_;refine lQ (fun hcc m=>(by first | exact frames0_f _)) ?_))|refine fctI fun hf=>?_|refine twI (fun hc=>?_) fun hc=>?_);exact DVR
theorem whole0_f (m : Nat) : Pu 61 [bys []] m (li 0) := by
  refine pcN 19 [.tmp 2] [3] Tryz.func61 rfl [] ?_;(repeat' first|refine stW [0,2,4,12] ?_|(show CallQ ..;first|refine cQ (fun hcc=>(by first | exact frames0_f _)) ?_|(refine lP ?_;refine lQ (fun hcc m=>(by first | exact frames0_f _)) ?_))|refine fctI fun hf=>?_|refine twI (fun hc=>?_) fun hc=>?_);exact DVR
theorem bclone0_f (m : Nat) : DCallsG Tryz.prog 116 [] [bys []] (hget []) m (.gl m) (hget [(m, byL [])]) := by
  refine contract (n := 8) (rs := [.tmp 2]) (ts := [64]) Tryz.func116 rfl (by decide) 0 0 [] [] [24] (.gl 24) [(24, byL [])] (by (exact SD)) (by (exact SD)) ?_;(repeat' (first | refine swp_seq [0, 2, 4] ?_ | (first | refine rF (fun hf => ?_) | refine tN ?_ | refine swp_skip ?_ | refine swp_block ?_ | refine swp_scope ?_ | refine blockK_normal ?_ | refine scopeK_normal ?_ | (refine cB (fun hc => ?_) (fun hc => ?_) <;> first | exact False.elim hc | exact absurd hc Bool.false_ne_true | exact absurd hc.symm Bool.false_ne_true | skip) | refine cU ?_ ?_)))
  · (refine sN 2 5 1 ?_);(refine sR 32 24 ?_);(repeat' (first | refine swp_seq [0, 2, 4] ?_ | (first|refine rF (fun hf=>?_)|refine st0 ?_|refine dF mixed ?_|(refine cB (fun hc=>?_) (fun hc=>?_)<;>first|exact False.elim hc|exact absurd hc Bool.false_ne_true|exact absurd hc.symm Bool.false_ne_true|skip)|refine cU ?_ ?_)));exact DVS
  · (repeat' (first | refine swp_seq [0, 2, 4] ?_ | (first|refine rF (fun hf=>?_)|refine st0 ?_|refine dF mixed ?_|(refine cB (fun hc=>?_) (fun hc=>?_)<;>first|exact False.elim hc|exact absurd hc Bool.false_ne_true|exact absurd hc.symm Bool.false_ne_true|skip)|refine cU ?_ ?_)));exact DVS
theorem copied0_f (a : Int) (m : Nat) : DCallsG Tryz.prog 60 [] [dsk0 a] (hget []) m (.agg [.gl m, li 0, li a]) (hget [(m, byL [])]) := by
  refine contract (n := 8) (rs := [.cell 2 68]) (ts := [68]) Tryz.func60 rfl (by decide) 0 0 [] [] [32] (.agg [.gl 32, li 0, li a]) [(32, byL [])] (by (exact SD)) (by (exact SD)) ?_;(repeat' (first | refine swp_seq [0,1,2] ?_ | (first|refine rF (fun hf=>?_)|refine st0 ?_|refine dF mixed ?_|(refine cB (fun hc=>?_) (fun hc=>?_)<;>first|exact False.elim hc|exact absurd hc Bool.false_ne_true|exact absurd hc.symm Bool.false_ne_true|skip)|refine cU ?_ ?_)))
  ((refine rC (fun hf => ?_); refine cA (bclone0_f _) (fun hf => ?_); refine drun_end ?_))
  (repeat' (first | refine swp_seq [0,1,2] ?_ | (first|refine rF (fun hf=>?_)|refine st0 ?_|refine dF mixed ?_|(refine cB (fun hc=>?_) (fun hc=>?_)<;>first|exact False.elim hc|exact absurd hc Bool.false_ne_true|exact absurd hc.symm Bool.false_ne_true|skip)|refine cU ?_ ?_)));exact DVS
theorem encG_f (m : Nat) : Pu 21 [gD] m (.tup [bys gBy, li 0]) := by
  have b1 : beBytes 1 (un64 1) = [1] := by decide
  have b2 : beBytes 2 (un64 500) = [1, 244] := by decide
  have p1 := fun m => put_f [2] 1 1 m (by decide) (by decide)
  have p2 := fun m => put_f [2, 1, 103] 500 2 m (by decide) (by decide)
  rw [b1] at p1;rw [b2] at p2;refine pcN 97 [.tmp 2,.tmp 3] [64,45] Tryz.func21 rfl [232] ?_;(repeat' first|(show SWp _ _ _ (.region _ _ true) _ _ _ _;refine xG mixed [72] ?_)|refine stW [0,1,2,3,4,6,7,9,12,18,19,30,31,32,33,40,54,76,77,78,79,86] ?_|(show CallQ ..;first|refine cQ (fun hcc=>(by first | exact gV_f _)) ?_|(refine lP ?_;refine lQ (fun hcc m=>(by first | exact gV_f _)) ?_))|(show XCallQ ..;first|refine xQ (fun hcc=>(by first | exact gV_f _)) ?_|(refine xlP ?_;refine xlQ (fun hcc m=>(by first | exact gV_f _)) ?_))|refine fctI fun hf=>?_|refine twI (fun hc=>?_) fun hc=>?_);(refine xQT [72] (fun hcc => (p1 _)) ?_);(repeat' first|refine stW [0,1,2,3,4,6,7,9,12,18,19,30,31,32,33,40,54,76,77,78,79,86] ?_|refine fctI fun hf=>?_|refine twI (fun hc=>?_) fun hc=>?_);(refine cQT [192] (fun hcc => (p2 _)) ?_);(repeat' first|refine stW [0,1,2,3,4,6,7,9,12,18,19,30,31,32,33,40,54,76,77,78,79,86] ?_|refine fctI fun hf=>?_|refine twI (fun hc=>?_) fun hc=>?_);exact DVR
theorem appG1_f (m : Nat) : Pu 22 [dsk0 (-1), gD] m (.tup [.agg [bys (frameB gBy), li 0, li (-1)], li 0]) := by
  have k1 := fun m => encG_f m
  have k2 := fun m => valid0_f (-1) m (by decide)
  have k3 := fun m => frame_f gBy m (by decide)
  have k4 := fun m => whole0_f m
  have k5 := fun m => copied0_f (-1) m
  have hF : (frameB gBy).length = 13 := by rw [frameB_len]; rfl
  have hF1 : ((frameB gBy).length : Int) = 13 := by omega
  have hF3 : ¬ 1048576 < ((frameB gBy).length : Int) := by omega
  generalize frameB gBy = F at *
  (have:=NeI hF3);refine pcN 85 [.cell 4 68,.tmp 5] [68,45] Tryz.func22 rfl [336] ?_;(repeat' first|refine stW [0,1,2,3,4,5,6,7,8,20,24,30,39,59,77] ?_|refine fctI fun hf=>?_|refine twI (fun hc=>?_) fun hc=>?_);exact DVR
theorem appG2_f (m : Nat) : Pu 22 [dsk0 4, gD] m (.tup [.agg [bys ((frameB gBy).take 4), li 0, li 0], li 19]) := by
  have k1 := fun m => encG_f m
  have k2 := fun m => valid0_f 4 m (by decide)
  have k3 := fun m => frame_f gBy m (by decide)
  have k4 := fun m => whole0_f m
  have k5 := fun m => copied0_f 4 m
  have hF : (frameB gBy).length = 13 := by rw [frameB_len]; rfl
  have hF3 : ¬ 1048576 < ((frameB gBy).length : Int) := by omega
  have hF4 : (4 : Int) < ((frameB gBy).length : Int) := by omega
  have hF5 : (4 : Int) <= ((frameB gBy).length : Int) := by omega
  have hF6 : 4 <= (frameB gBy).length := by omega
  generalize frameB gBy = F at *
  (have:=NeI hF3);(have:=NeI hF4);(have:=NeI hF5);(have:=NeI hF6);refine pcN 85 [.cell 4 68,.tmp 5] [68,45] Tryz.func22 rfl [480] ?_;(repeat' first|(show SWp _ _ _ (.seq (.region 11 _ _) _) _ _ _ _;refine (stop_in ?_))|(show SWp _ _ _ (.region _ _ true) _ _ _ _;refine xG mixed [] ?_)|refine stW [0,1,2,3,4,5,6,7,8,20,24,30,39,59,77] ?_|refine fctI fun hf=>?_|refine twI (fun hc=>?_) fun hc=>?_);refine stop_out ?_;(repeat' first|(show SWp _ _ _ (.region _ _ true) _ _ _ _;refine xG mixed [0, 336, 8000000] ?_)|refine stW [0,1,2,3,4,5,6,7,8,20,24,30,39,59,77] ?_|refine fctI fun hf=>?_|refine twI (fun hc=>?_) fun hc=>?_);exact DVR
theorem awake54_f (m : Nat) : Pu 4 [] m (lb true) := by
  have k1 := fun m => encG_f m
  have k2 := fun m => appG1_f m
  have k3 := fun m => appG2_f m
  have k4 := fun m => bytesEq_f gBy gBy m
  rw [decide_eq_true rfl] at k4;have hF : (frameB gBy).length = 13 := by rw [frameB_len]; rfl
  have h1 : ((frameB gBy).length : Int) = 13 := by omega
  have h2 : (((frameB gBy).take 4).length : Int) = 4 := by rw [List.length_take]; omega
  generalize (frameB gBy).take 4 = G at *
  generalize frameB gBy = F at *
  (have:=NeI h1);(have:=NeI h2);refine pcN 58 [.tmp 0] [4] Tryz.func4 rfl [] ?_;(repeat' first|refine stW [0,1,2,3,4,5,6,7] ?_|refine fctI fun hf=>?_|refine twI (fun hc=>?_) fun hc=>?_);exact DVR

end Go.Proofs.YtgpllheklfbfhaaGreat
