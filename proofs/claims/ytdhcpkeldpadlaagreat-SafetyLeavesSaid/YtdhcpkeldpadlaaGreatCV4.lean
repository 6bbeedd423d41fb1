/-
  Contracts of functions of the program, over the engine.
  No condition.
-/
import Derived.Test.YtdhcpkeldpadlaaGreatCU5
import Derived.Test.YtdhcpkeldpadlaaGreatCL9L10L11L12L16L20RL25L27
import Derived.Test.YtdhcpkeldpadlaaGreatCU9
namespace Go.Proofs.YtdhcpkeldpadlaaGreat
open Go.Eng
set_option linter.all false
attribute [local irreducible] DCallsG SWp Fct CallQ XCallQ LCallQ XLCallQ drun xrun
set_option maxHeartbeats 64000000
set_option maxRecDepth 20000

section
variable [Dfr] {P : Program} {N pin : Nat}
def Tm (N : Nat) (f : Nat -> Option Value) (a : Act) : Prop := a.tmps.size = N /\ a.defers = Dfr.ds /\ ∀ t v, f t = some v -> a.tmps.getD t undef = v
theorem Tm.put {f : Nat -> Option Value} {a : Act} (h : Tm N f a) (d : Nat) (hd : d < N) (v : Value) : Tm N (upd f d (some v)) (a.put (some d) v) := by
  obtain ⟨h1, h2, h3⟩ := h;refine ⟨by simp [Act.put, h1], h2, fun t u e => ?_⟩;by_cases k : t = d
  · subst k;rw [upd_same] at e;cases e;simp [Act.put, h1, hd]
  · rw [upd_ne _ _ k] at e;have := h3 t u e;rw [<- this];have k2 : ¬ d = t := fun e => k e.symm
    simp [Act.put, Array.getElem?_setIfInBounds, k2]
theorem Tm.eval {f : Nat -> Option Value} {a : Act} (h : Tm N f a) {t : Nat} {v : Value} (e : f t = some v) : a.eval (.tmp t) = v := h.2.2 t v e
theorem wpOps_one {ops : Array Oper} {Q : Exit -> Act -> World -> Prop} {i : Nat} {o : Oper} {rest : List Nat} {a : Act} {w w' : World} {v : Value} (ho : ops[i]? = some o) (hg : o.guard = none) (hr : (execOp a.eval o).run P w = .ok (.value v) w') (h : wpOps P ops Q rest (a.put o.dst v) w') : wpOps P ops Q (i :: rest) a w := by
  simp only [wpOps, ho];rw [if_pos (by unfold Region.wanted; rw [hg])];left; unfold Oper.wp; rw [hr]; exact h
theorem run_mv {a : Act} {w : World} {o : Oper} {t : Nat} {v : Value} (ho : o.op = .move (.tmp t) ∨ o.op = .assign (.tmp t)) (e : a.eval (.tmp t) = v) : (execOp a.eval o).run P w = .ok (.value v) w := by
  subst e;obtain ⟨dst, op, ty, pos, after, guard⟩ := o;rcases ho with ho | ho <;> (dsimp only at ho; subst ho; rfl)
theorem run_sl {a : Act} {w w' : World} {o : Oper} {ts : TypeId} {x : Nat} {lo hi : Option Nat} {u v : Value} {l h : Option Value} (ho : o.op = .slice ts (.tmp x) (lo.map .tmp) (hi.map .tmp) none) (ex : a.eval (.tmp x) = u) (el : (lo.map fun t => a.eval (.tmp t)) = l) (eh : (hi.map fun t => a.eval (.tmp t)) = h)
    (hr : (Instr.sliceAt ts u l h none).run P w = .ok v w') : (execOp a.eval o).run P w = .ok (.value v) w' := by
  subst ex el eh;obtain ⟨dst, op, ty, pos, after, guard⟩ := o;dsimp only at ho;subst ho;have e1 : ∀ q : Option Nat, (q.map Operand.tmp).map a.eval = q.map fun t => a.eval (.tmp t) := fun q => by cases q <;> rfl
  show (do pure (Next.value (<- Instr.sliceAt ts (a.eval (.tmp x)) ((lo.map .tmp).map a.eval) ((hi.map .tmp).map a.eval) none)) : Sem Next).run P w = _;rw [e1, e1];simp [hr]
theorem run_clr {a : Act} {w w' : World} {o : Oper} {ts : TypeId} {x : Nat} {u v : Value} (ho : o.op = .call { callee := .builtin .clear, args := #[.tmp x], argTypes := #[ts] }) (ex : a.eval (.tmp x) = u)
    (hr : (Builtin.clear_ #[ts] o.type #[u]).run P w = .ok v w') : (execOp a.eval o).run P w = .ok (.value v) w' := by
  subst ex;obtain ⟨dst, op, ty, pos, after, guard⟩ := o;dsimp only at ho hr;subst ho;rw [exec_bi (vs := #[a.eval (.tmp x)]) (by simp)];simp [builtin, hr]
theorem zc_len (z : Array Value) (n : Nat) : (Builtin.zeroCells z n).toList.length = n * z.size := by simp [Builtin.zeroCells]
theorem zc_cell {z : Array Value} {n : Nat} (h : z.toList.all vcell = true) : ∀ v, v ∈ (Builtin.zeroCells z n).toList -> vcell v = true := by
  intro v hv;simp only [Builtin.zeroCells, Array.toList_map, List.mem_map, Array.toList_range] at hv;obtain ⟨j, hj, rfl⟩ := hv;have hj := List.mem_range.1 hj;have hz : 0 < z.size := by
    rcases Nat.eq_zero_or_pos z.size with e | e
    · rw [e, Nat.mul_zero] at hj; omega
    · exact e
  have hlt : j % z.size < z.size := Nat.mod_lt _ hz;rw [getElem!_pos z _ hlt];exact List.all_eq_true.1 h _ (by simp)
theorem swp_dfend {ts te t0 : TypeId} {T F : TD} {i1 i2 : Nat} {p1 p2 p3 p4 p5 p6 p7 p8 : String} {a1 a2 a3 a4 a5 a6 a7 a8 : Array _} {y2 y6 : TypeId}
    {Q : Exit -> LE -> LH -> Nat -> Prop} {A : LE} {H : LH} {nx : Nat} (o i : Nat) (rows : List (List DV))
    (ht : td P ts = some T) (hk : T.k = .slice te) (hF : td P te = some F) (h0 : 0 < F.size) (hzl : F.zero.length = F.size) (hzc : F.zero.all vcell = true)
    (hN : 41 < N) (hA0 : eget A 0 = .gl o) (hA5 : eget A 5 = .p (.lit (.int .i64 i))) (hi : i < rows.length) (ho : pin <= o) (hH : hget H o = some (.lst te F.size rows))
    (hu : DV.usesL (fun _ => False) rows.flatten) (hQ : Q .ret [(4, .gl nx)] [(nx, .lst te F.size (rows.take i))] (nx + 1)) :
    SWp P N pin (.seq (.region i1 #[
      { dst := some 36, op := .move (.tmp 0), type := ts, pos := p1, after := a1, guard := none },
      { dst := some 37, op := .move (.tmp 5), type := y2, pos := p2, after := a2, guard := none },
      { dst := some 38, op := .slice ts (.tmp 36) (some (.tmp 37)) none none, type := ts, pos := p3, after := a3, guard := none },
      { dst := none, op := .call { callee := .builtin .clear, args := #[.tmp 38], argTypes := #[ts] }, type := t0, pos := p4, after := a4, guard := none }] false)
      (.seq (.region i2 #[
      { dst := some 39, op := .move (.tmp 0), type := ts, pos := p5, after := a5, guard := none },
      { dst := some 40, op := .move (.tmp 5), type := y6, pos := p6, after := a6, guard := none },
      { dst := some 41, op := .slice ts (.tmp 39) none (some (.tmp 40)) none, type := ts, pos := p7, after := a7, guard := none },
      { dst := some 4, op := .assign (.tmp 41), type := ts, pos := p8, after := a8, guard := none }] false) .ret)) Q A H nx := by
  unfold SWp;intro hp B hB a w hS;obtain ⟨ρ, S, HS, ES⟩ := hS;have r0 := ES.env 0;rw [hA0] at r0;simp only [Rel] at r0;have r5 := ES.env 5;rw [hA5] at r5;have r5 := rel_lit r5;have g := HS.heap o _ hH;simp only [HRel] at g;obtain ⟨l1, l2, l3, l4, l5⟩ := g;have hcap : (ρ o).cap ≠ 0 := by omega
  rcases l5 with l5 | ⟨b, vs, sp, fz, k1, k2, k3, k4, k5⟩
  · exact absurd l5 hcap
  rw [k1, l1] at r0;have hbl : b < w.heap.size := by
    rcases Nat.lt_or_ge b w.heap.size with q | q
    · exact q
    · rw [Array.getElem?_eq_none q] at k2; cases k2
  obtain ⟨inf, d, z, hi1, hu1, hz1, e1, e2, e3, e4, e5⟩ := td_spec ht;obtain ⟨inF, dF, zF, hi2, hu2, hz2, s1, s2, s3, s4, s5⟩ := td_spec hF;have hds : d = .slice te := tk_slice (e4 ▸ hk);subst hds;have hzs : zF.cells.toList = F.zero := s3.symm;have hzs2 : zF.cells.size = F.size := by rw [<- hzl, <- hzs]; simp
  have hvl : vs.length = rows.length * F.size := by
    rw [<- RelL_length k3, List.length_flatten, List.map_congr_left (g := fun _ => F.size) (fun r hr => l4 r hr), List.map_const', List.sum_replicate_nat]
  have hcl : (vs ++ sp).length = (ρ o).cap * F.size := k4;have hm1 : i * F.size + (rows.length - i) * F.size = rows.length * F.size := by rw [<- Nat.add_mul]; congr 1; omega
  have hm2 : rows.length * F.size <= (ρ o).cap * F.size := Nat.mul_le_mul_right _ l3;obtain ⟨w', q1, q2, q3, q4, q5, q6, q7⟩ := run_cells (P := P) b te fz (i * F.size) (Builtin.zeroCells zF.cells (rows.length - i)).toList 0 (vs ++ sp) w k2 (by rw [zc_len, hzs2, hcl]; omega) k5 (zc_cell (by rw [hzs]; exact hzc));have hfl : (rows.take i).flatten = rows.flatten.take (i * F.size) := by
    have h1 : rows.flatten = (rows.take i).flatten ++ (rows.drop i).flatten := by rw [<- List.flatten_append, List.take_append_drop]
    have h2 : (rows.take i).flatten.length = i * F.size := by
      rw [List.length_flatten, List.map_congr_left (g := fun _ => F.size) (fun r hr => l4 r (List.mem_of_mem_take hr)), List.map_const', List.sum_replicate_nat, List.length_take, Nat.min_eq_left (by omega)]
    rw [h1, List.take_left' h2]
  have huc : DV.usesL (fun i => i < nx) (rows.take i).flatten := by
    rw [hfl];exact usesL_sub (fun d hd => List.mem_of_mem_take hd) (usesL_mono (fun _ k => k.elim) _ hu)
  have hnS : ¬ S b := HS.sep o _ b hH (by simp [hblk, hcap, k1]);have hblk0 : hblk (ρ o) (.lst te F.size rows) = some b := by simp [hblk, hcap, k1]
  have hsl1 : (Instr.sliceAt ts (.slice (some ⟨b, 0, none⟩) rows.length (ρ o).cap) (some (.int .i64 i)) none none).run P w = .ok (.slice (some ⟨b, i * F.size, none⟩) (rows.length - i) ((ρ o).cap - i)) w := by
    have hb := bounds_run (P := P) (w := w) (len := rows.length) (cap := (ρ o).cap) (isS := true) (lo := some (.int .i64 i)) (hi := none) (l := some (i : Int)) (r := none) (.inr ⟨_, _, rfl, rfl⟩) (.inl ⟨rfl, rfl⟩) (by simp) (by simp; omega) (by simp) l3;have hne : ¬ (ρ o).cap = i := by omega
    simp [Instr.sliceAt, r_und hu1, Instr.slice, hb, r_size hi2, s1, addr_add, hne]
  have hsl2 : (Instr.sliceAt ts (.slice (some ⟨b, 0, none⟩) rows.length (ρ o).cap) none (some (.int .i64 i)) none).run P w' = .ok (.slice (some ⟨b, 0, none⟩) i (ρ o).cap) w' := by
    have hb := bounds_run (P := P) (w := w') (len := rows.length) (cap := (ρ o).cap) (isS := true) (lo := none) (hi := some (.int .i64 i)) (l := none) (r := some (i : Int)) (.inl ⟨rfl, rfl⟩) (.inr ⟨_, _, rfl, rfl⟩) (by simp) (by simp) (by simp; omega) l3;simp [Instr.sliceAt, r_und hu1, Instr.slice, hb, r_size hi2, addr_add]
  have hclr : (Builtin.clear_ #[ts] t0 #[.slice (some ⟨b, i * F.size, none⟩) (rows.length - i) ((ρ o).cap - i)]).run P w = .ok (.tuple #[]) w' := by
    obtain ⟨m, hm⟩ : ∃ m, rows.length - i = m + 1 := ⟨rows.length - i - 1, by omega⟩;rw [hm] at q1 ⊢;simp [Builtin.clear_, r_und hu1, r_zero hi2 hz2, q1]
  have hnl : (vs.take (i * F.size) ++ ((Builtin.zeroCells zF.cells (rows.length - i)).toList ++ (vs ++ sp).drop (i * F.size + 0 + (Builtin.zeroCells zF.cells (rows.length - i)).toList.length))).length = (vs ++ sp).length := by
    have h1 := zc_len zF.cells (rows.length - i);rw [hzs2] at h1;rw [List.length_append, List.length_append, List.length_take, List.length_drop, h1, hcl, Nat.min_eq_left (by omega)];omega
  have T0 : Tm N (fun t => if t = 0 then some (.slice (some ⟨b, 0, none⟩) rows.length (ρ o).cap) else if t = 5 then some (.int .i64 i) else none) a := by
    refine ⟨ES.size, ES.defers, fun t v e => ?_⟩;dsimp only at e;by_cases c0 : t = 0
    · subst c0; rw [if_pos rfl] at e; cases e; exact r0
    · rw [if_neg c0] at e;by_cases c5 : t = 5
      · subst c5; rw [if_pos rfl] at e; cases e; exact r5
      · rw [if_neg c5] at e; cases e
  have T1 := T0.put 36 (by omega) (.slice (some ⟨b, 0, none⟩) rows.length (ρ o).cap);have T2 := T1.put 37 (by omega) (.int .i64 i);have T3 := T2.put 38 (by omega) (.slice (some ⟨b, i * F.size, none⟩) (rows.length - i) ((ρ o).cap - i));have T4 := T3.put 39 (by omega) (.slice (some ⟨b, 0, none⟩) rows.length (ρ o).cap);have T5 := T4.put 40 (by omega) (.int .i64 i);have T6 := T5.put 41 (by omega) (.slice (some ⟨b, 0, none⟩) i (ρ o).cap);have T7 := T6.put 4 (by omega) (.slice (some ⟨b, 0, none⟩) i (ρ o).cap);refine wp_seq (wp_region ?_);show wpOps P _ _ [0, 1, 2, 3] a w;refine wpOps_one rfl rfl (run_mv (.inl rfl) (T0.eval (t := 0) rfl)) ?_;refine wpOps_one rfl rfl (run_mv (.inl rfl) (T1.eval (t := 5) rfl)) ?_;refine wpOps_one rfl rfl (run_sl (lo := some 37) (hi := none) rfl (T2.eval (t := 36) rfl) (congrArg some (T2.eval (t := 37) rfl)) rfl hsl1) ?_;refine wpOps_one rfl rfl (run_clr rfl (T3.eval (t := 38) rfl) hclr) ?_;show Code.wp P _ _ _ w';refine wp_seq (wp_region ?_);show wpOps P _ _ [0, 1, 2, 3] _ w';refine wpOps_one rfl rfl (run_mv (.inl rfl) (T3.eval (t := 0) rfl)) ?_;refine wpOps_one rfl rfl (run_mv (.inl rfl) (T4.eval (t := 5) rfl)) ?_;refine wpOps_one rfl rfl (run_sl (lo := none) (hi := some 40) rfl (T5.eval (t := 39) rfl) rfl (congrArg some (T5.eval (t := 40) rfl)) hsl2) ?_;refine wpOps_one rfl rfl (run_mv (.inr rfl) (T6.eval (t := 41) rfl)) ?_;refine wp_ret ?_;have T8 := T7;refine ⟨_, _, nx + 1, by omega, ⟨upd ρ nx { a := some ⟨b, 0, none⟩, len := i, cap := (ρ o).cap }, S, ?_, ?_⟩, hQ⟩
  · have hB0 : ∀ j, B.U0 j -> j ≠ nx := fun j hj => by have := hB j hj; omega
    have G := (HS.drop (h' := fun _ => none) (fun i v h => by cases h)).install (ρ' := upd ρ nx { a := some ⟨b, 0, none⟩, len := i, cap := (ρ o).cap }) (w' := w') nx (.lst te F.size (rows.take i)) b (fun j hj => upd_ne _ _ (by omega)) (fun j hj => upd_ne _ _ (hB0 j hj)) (fun k _ hk => q3 k hk) (by omega) q5 q6 q7 hnS ?_ (fun j u _ hj => by cases hj) (fun b' hb' => by
      rw [upd_same] at hb';simp [hblk, hcap] at hb'; exact hb'.symm) ?_ (by
      simp only [HV.uses]; exact usesL_mono (fun _ k => .inl k) _ huc)
    · have e : upd (fun _ => none) nx (some (HV.lst te F.size (rows.take i))) = hget [(nx, HV.lst te F.size (rows.take i))] := by
        funext t
        by_cases q : t = nx
        · subst q; simp [hget, upd]
        · simp [hget, upd, q]
      rw [<- e];exact G.used fun j k => by omega
    · rcases HS.prov o _ b hH hblk0 with k | k
      · exact absurd (HS.ownU _ _ k) (fun k => by have := hB o k; omega)
      · exact .inr k
    · simp only [HRel, upd_same];refine ⟨by rw [List.length_take, Nat.min_eq_left (by omega)], by rw [List.length_take]; omega, by rw [List.length_take]; omega, fun r hr => l4 r (List.mem_of_mem_take hr), .inr ⟨b, vs.take (i * F.size), (Builtin.zeroCells zF.cells (rows.length - i)).toList ++ (vs ++ sp).drop (i * F.size + 0 + (Builtin.zeroCells zF.cells (rows.length - i)).toList.length), fz, rfl, ?_, ?_, ?_, ?_⟩⟩
      · rw [q2];unfold putV;rw [Nat.add_zero, List.take_append_of_le_length (by omega), List.append_assoc]
      · rw [hfl];have hr := RelL_take (i * F.size) k3;refine RelL.mono (U := fun _ => False) (fun _ k => k.elim) (fun _ k => k) (fun c hc => q3 c fun e => hnS (e ▸ hc)) _ _ ?_ hr;exact usesL_sub (fun d hd => List.mem_of_mem_take hd) hu
      · rw [hnl]; exact k4
      · rw [hnl]; exact k5
  · refine ⟨T7.1, T7.2.1, fun t => ?_, fun t => ?_⟩
    · simp only [eget];split
      · next e =>
        subst e;simp only [Rel, upd_same];exact T7.2.2 4 _ (upd_same ..)
      · simp only [Rel]
    · simp only [eget];split
      · show nx < nx + 1;omega
      · trivial
end
abbrev ruHt (a : List Rule) : HV := .lst 43 4 (rows ruleP a)
theorem rows_take43 {α : Type} (f : α -> List PV) (l : List α) (i : Nat) : (rows f l).take i = rows f (l.take i) := by unfold rows; rw [List.map_take]
theorem filter_keep {α : Type} [Inhabited α] {p : α -> Bool} {l : List α} {k : Nat} (hk : k <= l.length) (ha : ∀ j, j < k -> p (l.getD j default) = false) : (l.take k).filter (fun x => !p x) = l.take k := List.filter_eq_self.2 fun x hx => by
  obtain ⟨j, hj, e⟩ := List.getElem_of_mem hx;have hj2 : j < k := by rw [List.length_take] at hj; omega
  have h1 := ha j hj2;rw [List.getElem_take] at e;rw [List.getD_eq_getElem?_getD, List.getElem?_eq_getElem (by omega), Option.getD_some, e] at h1;rw [h1]; rfl
theorem keep_start {α : Type} [Inhabited α] {p : α -> Bool} {l : List α} {k : Nat} (ht : p (l.getD k default) = true) (ha : ∀ j, j < k -> p (l.getD j default) = false) (hk : k < l.length) : l.take k = (l.take (k + 1)).filter fun x => !p x := by
  have hg : l.getD k default = l[k] := by simp [List.getD_eq_getElem?_getD, hk]
  rw [hg] at ht;rw [List.take_succ_eq_append_getElem hk, List.filter_append, filter_keep (by omega) ha];simp [ht]
theorem drop_same {α : Type} [Inhabited α] {X l : List α} {j : Nat} (h4 : X.length = l.length) (hj : j < l.length) (h : X.drop j = l.drop j) : X.getD j default = l.getD j default := by
  have h1 : X.getD j default = (X.drop j).getD 0 default := by simp [List.getD_eq_getElem?_getD]
  have h2 : l.getD j default = (l.drop j).getD 0 default := by simp [List.getD_eq_getElem?_getD]
  rw [h1, h2, h]
theorem drop_next {α : Type} {X l : List α} {j : Nat} (h : X.drop j = l.drop j) : X.drop (j + 1) = l.drop (j + 1) := by
  rw [<- List.drop_drop, <- List.drop_drop, h]
theorem keep_no {α : Type} [Inhabited α] {p : α -> Bool} {X l : List α} {i j : Nat} (hj : j < l.length) (h5 : X.take i = (l.take j).filter fun x => !p x) (hp : p (l.getD j default) = true) : X.take i = (l.take (j + 1)).filter fun x => !p x := by
  have hg : l.getD j default = l[j] := by simp [List.getD_eq_getElem?_getD, hj]
  rw [hg] at hp;rw [List.take_succ_eq_append_getElem hj, List.filter_append, <- h5];simp [hp]
theorem keep_yes {α : Type} [Inhabited α] {p : α -> Bool} {X l : List α} {i j : Nat} (h2 : i < j) (h4 : X.length = l.length) (hj : j < l.length) (h5 : X.take i = (l.take j).filter fun x => !p x) (h6 : X.drop j = l.drop j) (hp : p (l.getD j default) = false) :
    (X.set i (l.getD j default)).take (i + 1) = (l.take (j + 1)).filter (fun x => !p x) /\ (X.set i (l.getD j default)).drop (j + 1) = l.drop (j + 1) := by
  have hg : l.getD j default = l[j] := by simp [List.getD_eq_getElem?_getD, hj]
  rw [hg] at hp ⊢;constructor
  · rw [List.take_succ_eq_append_getElem hj, List.filter_append, <- h5, List.take_succ_eq_append_getElem (by simp; omega)];simp [hp, List.take_set_of_le]
  · rw [List.drop_set_of_lt (by omega)];exact drop_next h6
theorem Link43_cells (b : Link) (l : List Link) : CellsB (linkC b ++ (rows linkP l).flatten) = True := by
  refine propext ⟨fun _ => trivial, fun _ d hd => ?_⟩;rcases List.mem_append.1 hd with h | h
  · simp only [linkC, List.mem_cons, List.not_mem_nil, or_false] at h;rcases h with rfl | rfl | rfl | rfl | rfl | rfl | rfl | rfl | rfl | rfl | rfl <;> rfl
  · obtain ⟨r, hr, h⟩ := List.mem_flatten.1 h;obtain ⟨x, _, rfl⟩ := List.mem_map.1 hr;obtain ⟨y, _, rfl⟩ := List.mem_map.1 h;rfl
attribute [local push_cast] Link43_cells
theorem cloneLink43_f (l : List Link) (m : Nat) (hl : l.length <= 1048576) : DCallsG Tryz.prog 13 [] [linkL l] (hget []) m (.gl m) (hget [(m, lkHt l)]) := by
  refine contract (n := 8) (rs := [.tmp 2]) (ts := [23]) Tryz.func13 rfl (by decide) 0 0 [] [] [24] (.gl 24) [(24, lkHt l)] (by (exact SD)) (by (exact SD)) ?_;cases l with
  | nil =>
    (repeat' (first | refine swp_seq [0, 2, 4] ?_ | (first | refine rF (fun hf => ?_) | refine tN ?_ | refine swp_skip ?_ | refine swp_block ?_ | refine swp_scope ?_ | refine blockK_normal ?_ | refine scopeK_normal ?_ | (refine cB (fun hc => ?_) (fun hc => ?_) <;> first | exact False.elim hc | exact absurd hc Bool.false_ne_true | exact absurd hc.symm Bool.false_ne_true | skip) | refine cU ?_ ?_)))
    · (refine sN 2 39 11 ?_);(refine sR 32 24 ?_);(repeat' (first | refine swp_seq [0, 2, 4] ?_ | (first|refine rF (fun hf=>?_)|refine st0 ?_|refine dF mixed ?_|(refine cB (fun hc=>?_) (fun hc=>?_)<;>first|exact False.elim hc|exact absurd hc Bool.false_ne_true|exact absurd hc.symm Bool.false_ne_true|skip)|refine cU ?_ ?_)));exact DVS
    · (repeat' (first | refine swp_seq [0, 2, 4] ?_ | (first|refine rF (fun hf=>?_)|refine st0 ?_|refine dF mixed ?_|(refine cB (fun hc=>?_) (fun hc=>?_)<;>first|exact False.elim hc|exact absurd hc Bool.false_ne_true|exact absurd hc.symm Bool.false_ne_true|skip)|refine cU ?_ ?_)));exact DVS
  | cons b l =>
    (repeat' (first | refine swp_seq [0,2,4] ?_ | (first|refine rF (fun hf=>?_)|refine st0 ?_|refine dF mixed ?_|(refine cB (fun hc=>?_) (fun hc=>?_)<;>first|exact False.elim hc|exact absurd hc Bool.false_ne_true|exact absurd hc.symm Bool.false_ne_true|skip)|refine cU ?_ ?_)));exact DVS
theorem Rule43_cells (b : Rule) (l : List Rule) : CellsB (ruleC b ++ (rows ruleP l).flatten) = True := by
  refine propext ⟨fun _ => trivial, fun _ d hd => ?_⟩;rcases List.mem_append.1 hd with h | h
  · simp only [ruleC, List.mem_cons, List.not_mem_nil, or_false] at h;rcases h with rfl | rfl | rfl | rfl <;> rfl
  · obtain ⟨r, hr, h⟩ := List.mem_flatten.1 h;obtain ⟨x, _, rfl⟩ := List.mem_map.1 hr;obtain ⟨y, _, rfl⟩ := List.mem_map.1 h;rfl
attribute [local push_cast] Rule43_cells
theorem cloneRule43_f (l : List Rule) (m : Nat) (hl : l.length <= 1048576) : DCallsG Tryz.prog 17 [] [ruleL l] (hget []) m (.gl m) (hget [(m, ruHt l)]) := by
  refine contract (n := 8) (rs := [.tmp 2]) (ts := [27]) Tryz.func17 rfl (by decide) 0 0 [] [] [24] (.gl 24) [(24, ruHt l)] (by (exact SD)) (by (exact SD)) ?_;cases l with
  | nil =>
    (repeat' (first | refine swp_seq [0, 2, 4] ?_ | (first | refine rF (fun hf => ?_) | refine tN ?_ | refine swp_skip ?_ | refine swp_block ?_ | refine swp_scope ?_ | refine blockK_normal ?_ | refine scopeK_normal ?_ | (refine cB (fun hc => ?_) (fun hc => ?_) <;> first | exact False.elim hc | exact absurd hc Bool.false_ne_true | exact absurd hc.symm Bool.false_ne_true | skip) | refine cU ?_ ?_)))
    · (refine sN 2 43 4 ?_);(refine sR 32 24 ?_);(repeat' (first | refine swp_seq [0, 2, 4] ?_ | (first|refine rF (fun hf=>?_)|refine st0 ?_|refine dF mixed ?_|(refine cB (fun hc=>?_) (fun hc=>?_)<;>first|exact False.elim hc|exact absurd hc Bool.false_ne_true|exact absurd hc.symm Bool.false_ne_true|skip)|refine cU ?_ ?_)));exact DVS
    · (repeat' (first | refine swp_seq [0, 2, 4] ?_ | (first|refine rF (fun hf=>?_)|refine st0 ?_|refine dF mixed ?_|(refine cB (fun hc=>?_) (fun hc=>?_)<;>first|exact False.elim hc|exact absurd hc Bool.false_ne_true|exact absurd hc.symm Bool.false_ne_true|skip)|refine cU ?_ ?_)));exact DVS
  | cons b l =>
    (repeat' (first | refine swp_seq [0,2,4] ?_ | (first|refine rF (fun hf=>?_)|refine st0 ?_|refine dF mixed ?_|(refine cB (fun hc=>?_) (fun hc=>?_)<;>first|exact False.elim hc|exact absurd hc Bool.false_ne_true|exact absurd hc.symm Bool.false_ne_true|skip)|refine cU ?_ ?_)));exact DVS
theorem idxLink43P_f (g : FuncId) (u v : PV) (p : Link -> Bool) (l : List Link) (m : Nat) (hl : l.length <= 281474976710656) (hg : ∀ x, x ∈ l -> ∀ m, Pu g [linkD x, .p u, .p v] m (lb (p x))) :
    Pu 46 [linkL l, .clo g [.p u, .p v]] m (li (idxI p l)) := by
  refine pcN 19 [.tmp 4] [3] Tryz.func46 rfl [] ?_;(repeat' first|refine stW [0,1,4,5,7,8,9,16] ?_|refine fctI fun hf=>?_|refine twI (fun hc=>?_) fun hc=>?_);refine loop_swp [0, 1, 7, 8] [] 0 (fun q A H => ∃ i : Nat, i <= l.length /\ q = l.length - i /\ (l.take i).any p = false /\ A = [(0, linkL l), (1, .clo g [.p u, .p v]), (7, li l.length), (8, li i)] /\ H = []) (by omega) ?_ ?_ ?_
  · rintro q A H ⟨i, h1, h2, h3, rfl, rfl⟩;exact SDD
  · refine ⟨_, 0, by omega, rfl, rfl, ?_, ?_⟩
    · exact DVR
    · exact DVR
  · rintro q A H ⟨i, h1, h2, h3, rfl, rfl⟩;(repeat' first|refine stW [0,1,4,5,7,8,9,16] ?_|(show CallQ ..;first|refine cQ (fun hcc=>(hg _ (getD_mem SC) _)) ?_|(refine lP ?_;refine lQ (fun hcc m=>(hg _ (getD_mem SC) _)) ?_))|refine fctI fun hf=>?_|refine twI (fun hc=>?_) fun hc=>?_)
    · (refine DVQ ?_);rw [idxI_hit h3 (by omega) (by assumption)]
    · (refine lN [] ?_);exact ⟨_, by omega, i + 1, by omega, rfl, any_step h3 (by omega) (by assumption), rfl, rfl⟩
    · (refine DVQ ?_);rw [List.take_of_length_le (by omega)] at h3;rw [idxI_none h3]
theorem set_Link43P (X : List Link) (i : Nat) (y z : Link) : (rows linkP X).set i (linkC y ++ List.drop 11 (linkC z)) = rows linkP (X.set i y) := by
  unfold rows;rw [List.map_set];rfl
theorem delLink43P_f (g : FuncId) (u v : PV) (p : Link -> Bool) (l : List Link) (m : Nat) (hl : l.length <= 281474976710656) (hg : ∀ x, x ∈ l -> ∀ m, Pu g [linkD x, .p u, .p v] m (lb (p x))) :
    DCallsG Tryz.prog 12 [0] [.gl 0, .clo g [.p u, .p v]] (hget [(0, lkHt l)]) m (.gl m) (hget [(m, lkHt (l.filter fun x => !p x))]) := by
  have ci := fun m => idxLink43P_f g u v p l m hl hg
  rcases idxI_spec p l with ⟨e, ha⟩ | ⟨k, e, hk, ht, ha⟩
  · have hf : l.filter (fun x => !p x) = l := by have := filter_keep (Nat.le_refl _) ha; rwa [List.take_length] at this
    rw [hf];simp only [e] at ci;refine contract (n := 42) (rs := [.tmp 4]) (ts := [23]) Tryz.func12 rfl (by decide) 0 1 [] [0] [0] (.gl 0) [(0, lkHt l)] (by (exact SD)) (by (exact SD)) ?_;(repeat' first|refine stW [0,1,4,5,6,7,12,19,29] ?_|refine fctI fun hf=>?_|refine twI (fun hc=>?_) fun hc=>?_);exact DVS
  have hk1 : ¬ (k : Int) = -1 := by omega
  simp only [e] at ci;(have:=NeI hk1);refine contract (n := 42) (rs := [.tmp 4]) (ts := [23]) Tryz.func12 rfl (by decide) 0 1 [] [0] [113] (.gl 113) [(113, lkHt (l.filter fun x => !p x))] (by (exact SD)) (by (exact SD)) ?_;(repeat' first|refine stW [0,1,4,5,6,7,12,19,29] ?_|refine fctI fun hf=>?_|refine twI (fun hc=>?_) fun hc=>?_);refine loop_swp [0, 1, 5, 6] [0] 81 (fun q A H => ∃ (i j : Nat) (X : List Link), j <= l.length /\ i < j /\ q = l.length - j /\ X.length = l.length /\ X.take i = (l.take j).filter (fun x => !p x) /\ X.drop j = l.drop j /\ A = [(0, .gl 0), (1, .clo g [.p u, .p v]), (5, li i), (6, li j)] /\ H = [(0, lkHt X)]) (by omega) ?_ ?_ ?_
  · rintro q A H ⟨i, j, X, h1, h2, h3, h4, h5, h6, rfl, rfl⟩;exact SDD
  · refine ⟨_, k, k + 1, l, by omega, by omega, rfl, rfl, keep_start ht ha hk, rfl, ?_, ?_⟩
    · exact DVR
    · exact DVR
  rintro q A H ⟨i, j, X, h1, h2, h3, h4, h5, h6, rfl, rfl⟩;by_cases hj : j < l.length
  · have hj3 : (j : Int) < (X.length : Int) := by omega
    have hjX : j < X.length := by omega
    have hiX : i < X.length := by omega
    have hx := drop_same h4 hj h6;have cq := fun m => hg (l.getD j default) (getD_mem hj) m
    have hA := keep_yes (p := p) h2 h4 hj h5 h6;have hB := keep_no (p := p) hj h5;have hC := drop_next h6;clear hg ci;(have:=NeI hj3);(have:=NeI hjX);(have:=NeI hiX);rw [<- hx] at cq hA hB;cases hp : p (X.getD j default) <;> simp only [hp] at cq
    · (repeat' first|refine stW [0,1,4,5,6,7,12,19,29] ?_|refine fctI fun hf=>?_|refine twI (fun hc=>?_) fun hc=>?_);(refine lN [0] ?_);exact ⟨_, by omega, i + 1, j + 1, X.set i (X.getD j default), by omega, by omega, rfl, by simp [h4], (hA hp).1, (hA hp).2, rfl, congrArg (fun x => [(0, HV.lst 39 11 x)]) (set_Link43P X i _ _)⟩
    · (repeat' first|refine stW [0,1,4,5,6,7,12,19,29] ?_|refine fctI fun hf=>?_|refine twI (fun hc=>?_) fun hc=>?_);(refine lN [0] ?_);exact ⟨_, by omega, i, j + 1, X, by omega, by omega, rfl, h4, hB hp, hC, rfl, rfl⟩
  obtain rfl : j = l.length := by omega
  rw [List.take_length] at h5;have hj3 : ¬ (l.length : Int) < (X.length : Int) := by omega
  clear hg ci;(have:=NeI hj3);(repeat' first|(show SWp _ _ _ (.seq (.region 11 _ _) _) _ _ _ _;refine (stop_in ?_))|refine stW [0,1,4,5,6,7,12,19,29] ?_|refine fctI fun hf=>?_|refine twI (fun hc=>?_) fun hc=>?_);refine stop_out ?_;refine swp_dfend 0 i (rows linkP X) td23 rfl td39 (by decide) rfl rfl (by decide) rfl rfl (by simp [rows]; omega) (by omega) rfl (uses_rows linkP _ _) ?_;rw [rows_take43, h5];exact DVS
theorem idxRule43Q_f (g : FuncId) (u : PV) (p : Rule -> Bool) (l : List Rule) (m : Nat) (hl : l.length <= 281474976710656) (hg : ∀ x, x ∈ l -> ∀ m, Pu g [ruleD x, .p u] m (lb (p x))) :
    Pu 40 [ruleL l, .clo g [.p u]] m (li (idxI p l)) := by
  refine pcN 19 [.tmp 4] [3] Tryz.func40 rfl [] ?_;(repeat' first|refine stW [0,1,4,5,7,8,9,16] ?_|refine fctI fun hf=>?_|refine twI (fun hc=>?_) fun hc=>?_);refine loop_swp [0, 1, 7, 8] [] 0 (fun q A H => ∃ i : Nat, i <= l.length /\ q = l.length - i /\ (l.take i).any p = false /\ A = [(0, ruleL l), (1, .clo g [.p u]), (7, li l.length), (8, li i)] /\ H = []) (by omega) ?_ ?_ ?_
  · rintro q A H ⟨i, h1, h2, h3, rfl, rfl⟩;exact SDD
  · refine ⟨_, 0, by omega, rfl, rfl, ?_, ?_⟩
    · exact DVR
    · exact DVR
  · rintro q A H ⟨i, h1, h2, h3, rfl, rfl⟩;(repeat' first|refine stW [0,1,4,5,7,8,9,16] ?_|(show CallQ ..;first|refine cQ (fun hcc=>(hg _ (getD_mem SC) _)) ?_|(refine lP ?_;refine lQ (fun hcc m=>(hg _ (getD_mem SC) _)) ?_))|refine fctI fun hf=>?_|refine twI (fun hc=>?_) fun hc=>?_)
    · (refine DVQ ?_);rw [idxI_hit h3 (by omega) (by assumption)]
    · (refine lN [] ?_);exact ⟨_, by omega, i + 1, by omega, rfl, any_step h3 (by omega) (by assumption), rfl, rfl⟩
    · (refine DVQ ?_);rw [List.take_of_length_le (by omega)] at h3;rw [idxI_none h3]
theorem set_Rule43Q (X : List Rule) (i : Nat) (y z : Rule) : (rows ruleP X).set i (ruleC y ++ List.drop 4 (ruleC z)) = rows ruleP (X.set i y) := by
  unfold rows;rw [List.map_set];rfl
theorem delRule43Q_f (g : FuncId) (u : PV) (p : Rule -> Bool) (l : List Rule) (m : Nat) (hl : l.length <= 281474976710656) (hg : ∀ x, x ∈ l -> ∀ m, Pu g [ruleD x, .p u] m (lb (p x))) :
    DCallsG Tryz.prog 16 [0] [.gl 0, .clo g [.p u]] (hget [(0, ruHt l)]) m (.gl m) (hget [(m, ruHt (l.filter fun x => !p x))]) := by
  have ci := fun m => idxRule43Q_f g u p l m hl hg
  rcases idxI_spec p l with ⟨e, ha⟩ | ⟨k, e, hk, ht, ha⟩
  · have hf : l.filter (fun x => !p x) = l := by have := filter_keep (Nat.le_refl _) ha; rwa [List.take_length] at this
    rw [hf];simp only [e] at ci;refine contract (n := 42) (rs := [.tmp 4]) (ts := [27]) Tryz.func16 rfl (by decide) 0 1 [] [0] [0] (.gl 0) [(0, ruHt l)] (by (exact SD)) (by (exact SD)) ?_;(repeat' first|refine stW [0,1,4,5,6,7,12,19,29] ?_|refine fctI fun hf=>?_|refine twI (fun hc=>?_) fun hc=>?_);exact DVS
  have hk1 : ¬ (k : Int) = -1 := by omega
  simp only [e] at ci;(have:=NeI hk1);refine contract (n := 42) (rs := [.tmp 4]) (ts := [27]) Tryz.func16 rfl (by decide) 0 1 [] [0] [113] (.gl 113) [(113, ruHt (l.filter fun x => !p x))] (by (exact SD)) (by (exact SD)) ?_;(repeat' first|refine stW [0,1,4,5,6,7,12,19,29] ?_|refine fctI fun hf=>?_|refine twI (fun hc=>?_) fun hc=>?_);refine loop_swp [0, 1, 5, 6] [0] 81 (fun q A H => ∃ (i j : Nat) (X : List Rule), j <= l.length /\ i < j /\ q = l.length - j /\ X.length = l.length /\ X.take i = (l.take j).filter (fun x => !p x) /\ X.drop j = l.drop j /\ A = [(0, .gl 0), (1, .clo g [.p u]), (5, li i), (6, li j)] /\ H = [(0, ruHt X)]) (by omega) ?_ ?_ ?_
  · rintro q A H ⟨i, j, X, h1, h2, h3, h4, h5, h6, rfl, rfl⟩;exact SDD
  · refine ⟨_, k, k + 1, l, by omega, by omega, rfl, rfl, keep_start ht ha hk, rfl, ?_, ?_⟩
    · exact DVR
    · exact DVR
  rintro q A H ⟨i, j, X, h1, h2, h3, h4, h5, h6, rfl, rfl⟩;by_cases hj : j < l.length
  · have hj3 : (j : Int) < (X.length : Int) := by omega
    have hjX : j < X.length := by omega
    have hiX : i < X.length := by omega
    have hx := drop_same h4 hj h6;have cq := fun m => hg (l.getD j default) (getD_mem hj) m
    have hA := keep_yes (p := p) h2 h4 hj h5 h6;have hB := keep_no (p := p) hj h5;have hC := drop_next h6;clear hg ci;(have:=NeI hj3);(have:=NeI hjX);(have:=NeI hiX);rw [<- hx] at cq hA hB;cases hp : p (X.getD j default) <;> simp only [hp] at cq
    · (repeat' first|refine stW [0,1,4,5,6,7,12,19,29] ?_|refine fctI fun hf=>?_|refine twI (fun hc=>?_) fun hc=>?_);(refine lN [0] ?_);exact ⟨_, by omega, i + 1, j + 1, X.set i (X.getD j default), by omega, by omega, rfl, by simp [h4], (hA hp).1, (hA hp).2, rfl, congrArg (fun x => [(0, HV.lst 43 4 x)]) (set_Rule43Q X i _ _)⟩
    · (repeat' first|refine stW [0,1,4,5,6,7,12,19,29] ?_|refine fctI fun hf=>?_|refine twI (fun hc=>?_) fun hc=>?_);(refine lN [0] ?_);exact ⟨_, by omega, i, j + 1, X, by omega, by omega, rfl, h4, hB hp, hC, rfl, rfl⟩
  obtain rfl : j = l.length := by omega
  rw [List.take_length] at h5;have hj3 : ¬ (l.length : Int) < (X.length : Int) := by omega
  clear hg ci;(have:=NeI hj3);(repeat' first|(show SWp _ _ _ (.seq (.region 11 _ _) _) _ _ _ _;refine (stop_in ?_))|refine stW [0,1,4,5,6,7,12,19,29] ?_|refine fctI fun hf=>?_|refine twI (fun hc=>?_) fun hc=>?_);refine stop_out ?_;refine swp_dfend 0 i (rows ruleP X) td27 rfl td43 (by decide) rfl rfl (by decide) rfl rfl (by simp [rows]; omega) (by omega) rfl (uses_rows ruleP _ _) ?_;rw [rows_take43, h5];exact DVS
theorem idxRule43P_f (g : FuncId) (u v y : PV) (p : Rule -> Bool) (l : List Rule) (m : Nat) (hl : l.length <= 281474976710656) (hg : ∀ x, x ∈ l -> ∀ m, Pu g [ruleD x, .p u, .p v, .p y] m (lb (p x))) :
    Pu 40 [ruleL l, .clo g [.p u, .p v, .p y]] m (li (idxI p l)) := by
  refine pcN 19 [.tmp 4] [3] Tryz.func40 rfl [] ?_;(repeat' first|refine stW [0,1,4,5,7,8,9,16] ?_|refine fctI fun hf=>?_|refine twI (fun hc=>?_) fun hc=>?_);refine loop_swp [0, 1, 7, 8] [] 0 (fun q A H => ∃ i : Nat, i <= l.length /\ q = l.length - i /\ (l.take i).any p = false /\ A = [(0, ruleL l), (1, .clo g [.p u, .p v, .p y]), (7, li l.length), (8, li i)] /\ H = []) (by omega) ?_ ?_ ?_
  · rintro q A H ⟨i, h1, h2, h3, rfl, rfl⟩;exact SDD
  · refine ⟨_, 0, by omega, rfl, rfl, ?_, ?_⟩
    · exact DVR
    · exact DVR
  · rintro q A H ⟨i, h1, h2, h3, rfl, rfl⟩;(repeat' first|refine stW [0,1,4,5,7,8,9,16] ?_|(show CallQ ..;first|refine cQ (fun hcc=>(hg _ (getD_mem SC) _)) ?_|(refine lP ?_;refine lQ (fun hcc m=>(hg _ (getD_mem SC) _)) ?_))|refine fctI fun hf=>?_|refine twI (fun hc=>?_) fun hc=>?_)
    · (refine DVQ ?_);rw [idxI_hit h3 (by omega) (by assumption)]
    · (refine lN [] ?_);exact ⟨_, by omega, i + 1, by omega, rfl, any_step h3 (by omega) (by assumption), rfl, rfl⟩
    · (refine DVQ ?_);rw [List.take_of_length_le (by omega)] at h3;rw [idxI_none h3]
theorem conRule43P_f (g : FuncId) (u v y : PV) (p : Rule -> Bool) (l : List Rule) (m : Nat) (hl : l.length <= 281474976710656) (hg : ∀ x, x ∈ l -> ∀ m, Pu g [ruleD x, .p u, .p v, .p y] m (lb (p x))) :
    Pu 9 [ruleL l, .clo g [.p u, .p v, .p y]] m (lb (l.any p)) := by
  have ci := fun m => idxRule43P_f g u v y p l m hl hg
  refine pcN 9 [.tmp 4] [4] Tryz.func9 rfl [] ?_;(repeat' first|refine stW [0,1,4] ?_|refine fctI fun hf=>?_|refine twI (fun hc=>?_) fun hc=>?_);(refine DVQ ?_);rw [idxI_any]
theorem tank_zero5 {n : Net} {c a : List Sect} {l : List Rule} {t : ByteArray} (K : TankIn n c l t a) {sec : Int} (hs : 1 <= sec /\ sec <= 86400) : safE n c l t sec = 0 :=
  (safE_sec (by rw [K.nb, K.cb, K.rb]; rfl) K.te).trans ((if_neg (not_not_intro hs)).trans (if_neg (by rw [K.fk]; intro e; cases e)))
theorem sl1_f (r : Rule) (N : List ByteArray) (i : Nat) (x : Int) (m : Nat) (hi : i < N.length) : Pu 10 [ruleD r, .p (.ptr [.dat 1 (N.map strRow)]), .p (.ptr [.lit (.int .i64 i)]), .p (.ptr [.lit (.int .i64 x)])] m (lb (decide (r.lnk = N.getD i default) && decide (r.setg = x))) := by
  have hi3 : (i : Int) < (N.length : Int) := by omega
  (have:=NeI hi);(have:=NeI hi3);by_cases h1 : r.lnk = N.getD i default <;> by_cases h2 : r.setg = x
  all_goals
    (have:=NeI h1);(have:=NeI h2);refine pcN 19 [.tmp 5] [4] Tryz.func10 rfl [] ?_;(repeat' first|refine stW [0,1,2,3,4,5] ?_|refine fctI fun hf=>?_|refine twI (fun hc=>?_) fun hc=>?_);exact DVR
theorem sl2_f (x : Link) (t k : ByteArray) (m : Nat) : Pu 14 [linkD x, .p (.ptr [.lit (.string t)]), .p (.ptr [.lit (.string k)])] m (lb (decide (x.fro = t) && !decide (x.name = k))) := by
  by_cases h1 : x.fro = t <;> by_cases h2 : x.name = k
  all_goals
    (have:=NeI h1);(have:=NeI h2);refine pcN 15 [.tmp 4] [4] Tryz.func14 rfl [] ?_;(repeat' first|refine stW [0,1,2,3,4] ?_|refine fctI fun hf=>?_|refine twI (fun hc=>?_) fun hc=>?_);exact DVR
theorem sl3_f (r : Rule) (k : ByteArray) (m : Nat) : Pu 18 [ruleD r, .p (.ptr [.lit (.string k)])] m (lb (!decide (r.lnk = k))) := by
  by_cases h1 : r.lnk = k
  all_goals
    (have:=NeI h1);refine pcN 8 [.tmp 3] [4] Tryz.func18 rfl [] ?_;(repeat' first|refine stW [0,1,2,3] ?_|refine fctI fun hf=>?_|refine twI (fun hc=>?_) fun hc=>?_);exact DVR
theorem setE_in {n : Net} {l : List Rule} {t : ByteArray} {v : Int} (h : setE43 n l t v = 0) : netB n = true /\ rulesB l = true /\ tankE n l t = 0 /\ ¬ (v < (nodeA n t).inv ∨ (nodeA n t).gnd < v) := by
  unfold setE43 at h;by_cases h1 : (netB n && rulesB l) = false
  · rw [if_pos h1] at h; cases h
  rw [if_neg h1] at h;by_cases h2 : tankE n l t = 0
  case neg => rw [if_pos h2] at h; exact absurd h h2
  rw [if_neg (not_not_intro h2)] at h;by_cases h3 : v < (nodeA n t).inv ∨ (nodeA n t).gnd < v
  · rw [if_pos h3] at h; cases h
  rw [Bool.not_eq_false, Bool.and_eq_true] at h1;exact ⟨h1.1, h1.2, h2, h3⟩
theorem mosE_is {n : Net} {c : List Sect} {l : List Rule} {t : ByteArray} {v sec : Int} (nb : netB n = true) (cb : catB c = true) (rb : rulesB l = true) (te : tankE n l t = 0) (hv : ¬ (v < (nodeA n t).inv ∨ (nodeA n t).gnd < v)) : mosE43 n c l t v sec = safE n c l t sec := by
  unfold mosE43;rw [nb, cb, rb, if_neg (by decide), if_neg (not_not_intro te), if_neg hv]
theorem mosE_cat {n : Net} {c : List Sect} {l : List Rule} {t : ByteArray} {v sec : Int} (h : mosE43 n c l t v sec = 0) : (netB n && catB c && rulesB l) = true := by
  unfold mosE43 at h;by_cases h1 : (netB n && catB c && rulesB l) = false
  · rw [if_pos h1] at h; cases h
  · rwa [Bool.not_eq_false] at h1
def oneS (n : Net) (c : List Sect) (l : List Rule) (t : ByteArray) (v sec : Int) (i : Nat) : Int := (((outL n t).take i).map fun x => leavesI [flowX n c v x (grI l t x.name v)] sec).sum
theorem oneS_next {n : Net} {c : List Sect} {l : List Rule} {t : ByteArray} {v sec : Int} {i : Nat} (h : i < (outL n t).length) : oneS n c l t v sec (i + 1) = oneS n c l t v sec i + leavesI [flowX n c v ((outL n t).getD i default) (grI l t ((outL n t).getD i default).name v)] sec := by
  unfold oneS;rw [take_snocD h, List.map_append, List.sum_append];simp
theorem oneS_in {n : Net} {c : List Sect} {l : List Rule} {t : ByteArray} {v sec : Int} (hp : ∀ x, x ∈ outL n t -> 0 <= leavesI [flowX n c v x (grI l t x.name v)] sec /\ leavesI [flowX n c v x (grI l t x.name v)] sec <= 1125899906842624) : ∀ i : Nat, i <= (outL n t).length -> 0 <= oneS n c l t v sec i /\ oneS n c l t v sec i <= i * 1125899906842624
  | 0, _ => by unfold oneS; simp
  | i + 1, h => by
    have ih := oneS_in hp i (by omega);have := hp _ (mem_getD (show i < (outL n t).length from h));rw [oneS_next h];omega
theorem tank_two5 {n : Net} {c a : List Sect} {l : List Rule} {t : ByteArray} (K : TankIn n c l t a) {sec : Int} (hs : ¬ (1 <= sec /\ sec <= 86400)) : safE n c l t sec = 2 :=
  (safE_sec (by rw [K.nb, K.cb, K.rb]; rfl) K.te).trans (if_pos hs)
theorem one_most {n : Net} {c a : List Sect} {l : List Rule} {t : ByteArray} (K : TankIn n c l t a) {sec v : Int} (hs : 1 <= sec /\ sec <= 86400) (hv : ¬ (v < (nodeA n t).inv ∨ (nodeA n t).gnd < v)) {x : Link} (hx : x ∈ outL n t) :
    netB (oneN n t x.name) = true /\ netOk (oneN n t x.name) /\ rulOk (l.filter fun r => !(!decide (r.lnk = x.name))) /\ mosE43 (oneN n t x.name) c (l.filter fun r => !(!decide (r.lnk = x.name))) t v sec = 0 /\ mostS (oneN n t x.name) c (l.filter fun r => !(!decide (r.lnk = x.name))) t v sec = leavesI [flowX n c v x (grI l t x.name v)] sec := by
  have e : (l.filter fun r => !(!decide (r.lnk = x.name))) = l.filter fun r => decide (r.lnk = x.name) := List.filter_congr fun r _ => Bool.not_not _
  obtain ⟨b, K2⟩ := one_tank K hx;rw [e];exact ⟨K2.nb, K2.no, K2.lo, (mosE_is K2.nb K2.cb K2.rb K2.te hv).trans (tank_zero5 K2 hs), leaves_one K.ni c l hx v sec⟩
theorem any_named {l : List Rule} {k : ByteArray} {x : Int} (h : ∃ r, r ∈ l /\ r.lnk = k /\ r.setg = x) : (l.any fun r => decide (r.lnk = k) && decide (r.setg = x)) = true := by
  obtain ⟨r, hr, h1, h2⟩ := h;exact List.any_eq_true.2 ⟨r, hr, by rw [decide_eq_true h1, decide_eq_true h2]; rfl⟩
theorem nm_at {L : List Link} {i : Nat} (h : i < L.length) : (L.map Link.name).getD i default = (L.getD i default).name := by
  simp [List.getD_eq_getElem?_getD, h]
theorem safleav_f (n : Net) (c : List Sect) (l : List Rule) (t : ByteArray) (v sec more : Int) (m : Nat) (no : netOk n) (co : catOk c) (lo : rulOk l) (to : t.size <= 281474976710656) (hv : i64ok v) (hsec : i64ok sec) (hmo : i64ok more) :
    Pu 3 [netD n, sectL c, ruleL l, ls t, li v, li sec, li more] m (lb true) := by
  have k0 := fun m => awake43_f m
  have k1 := fun m => large43_f n l m no lo
  have k2 := fun m => many43_f c m co
  cases hL : lgB43 n l <;> simp only [hL] at k1
  case true =>
    refine pcN 204 [.tmp 14] [4] Tryz.func3 rfl [] ?_;(repeat' first|refine stW [0,1,2,3,4,5,6,7,10,14,15,16,17,19,20,21,22,23,24,25,26,27,29,30,31,32,33,35,55,65,70,71,72,73,79,90,91,92,93,94,118,131,164,165,166,167,168,180,196] ?_|refine fctI fun hf=>?_|refine twI (fun hc=>?_) fun hc=>?_);exact DVR
  cases hM : maB43 c <;> simp only [hM] at k2
  case true =>
    refine pcN 204 [.tmp 14] [4] Tryz.func3 rfl [] ?_;(repeat' first|refine stW [0,1,2,3,4,5,6,7,10,14,15,16,17,19,20,21,22,23,24,25,26,27,29,30,31,32,33,35,55,65,70,71,72,73,79,90,91,92,93,94,118,131,164,165,166,167,168,180,196] ?_|refine fctI fun hf=>?_|refine twI (fun hc=>?_) fun hc=>?_);exact DVR
  by_cases h60 : (60 : Int) < (t.size : Int)
  · (have:=NeI h60);refine pcN 204 [.tmp 14] [4] Tryz.func3 rfl [] ?_;(repeat' first|refine stW [0,1,2,3,4,5,6,7,10,14,15,16,17,19,20,21,22,23,24,25,26,27,29,30,31,32,33,35,55,65,70,71,72,73,79,90,91,92,93,94,118,131,164,165,166,167,168,180,196] ?_|refine fctI fun hf=>?_|refine twI (fun hc=>?_) fun hc=>?_);exact DVR
  (have:=NeI h60);by_cases q1 : more < 0
  · (have:=NeI q1);refine pcN 204 [.tmp 14] [4] Tryz.func3 rfl [] ?_;(repeat' first|refine stW [0,1,2,3,4,5,6,7,10,14,15,16,17,19,20,21,22,23,24,25,26,27,29,30,31,32,33,35,55,65,70,71,72,73,79,90,91,92,93,94,118,131,164,165,166,167,168,180,196] ?_|refine fctI fun hf=>?_|refine twI (fun hc=>?_) fun hc=>?_);exact DVR
  (have:=NeI q1);by_cases q2 : 86400 < more
  · (have:=NeI q2);refine pcN 204 [.tmp 14] [4] Tryz.func3 rfl [] ?_;(repeat' first|refine stW [0,1,2,3,4,5,6,7,10,14,15,16,17,19,20,21,22,23,24,25,26,27,29,30,31,32,33,35,55,65,70,71,72,73,79,90,91,92,93,94,118,131,164,165,166,167,168,180,196] ?_|refine fctI fun hf=>?_|refine twI (fun hc=>?_) fun hc=>?_);exact DVR
  (have:=NeI q2);have k3 := fun m => Settings_f l n t v m lo no
  by_cases hS : setE43 n l t v = 0
  case neg =>
    rw [if_neg hS] at k3;generalize setE43 n l t v = F at *
    have e1 : F = F := rfl;(have:=NeI hS);(have:=NeI e1);refine pcN 204 [.tmp 14] [4] Tryz.func3 rfl [] ?_;(repeat' first|refine stW [0,1,2,3,4,5,6,7,10,14,15,16,17,19,20,21,22,23,24,25,26,27,29,30,31,32,33,35,55,65,70,71,72,73,79,90,91,92,93,94,118,131,164,165,166,167,168,180,196] ?_|refine fctI fun hf=>?_|refine twI (fun hc=>?_) fun hc=>?_);exact DVR
  obtain ⟨nb, rb, te, hvr⟩ := setE_in hS;rw [if_pos hS, hS] at k3;have hol := lkTo_len n t;have hoa := lkTo_all n t;obtain ⟨b1, b2, b3⟩ := lgB43_in hL;have hll : (outL n t).length <= 8 := Nat.le_trans (List.length_filter_le ..) b2;have hSl := setsS_len l n t v;refine pcN 204 [.tmp 14] [4] Tryz.func3 rfl [] ?_;(repeat' first|(show SWp _ _ _ (.seq (.region 9 _ _) _) _ _ _ _;refine (stop_in ?_))|refine stW [0,1,2,3,4,5,6,7,10,14,15,16,17,19,20,21,22,23,24,25,26,27,29,30,31,32,33,35,55,65,70,71,72,73,79,90,91,92,93,94,118,131,164,165,166,167,168,180,196] ?_|refine fctI fun hf=>?_|refine twI (fun hc=>?_) fun hc=>?_);refine stop_out ?_;refine sF 0 (v := .blk 25 (netC n)) (x := .cells (netP n)) ?_ (hx := rfl);refine sF 8 (v := .blk 9 [ls t]) (x := .cells [.lit (.string t)]) ?_ (hx := rfl);change SWp _ _ _ _ _ _ ((296, .blk 35 ([] ++ .p (.lit (.slice none 0 0)) :: [])) :: _) _;refine swp_nilC 296 35 9 1 [] [] rfl ?_;(repeat' first|refine stW [0,1,2,3,4,5,6,7,10,14,15,16,17,19,20,21,22,23,24,25,26,27,29,30,31,32,33,35,55,65,70,71,72,73,79,90,91,92,93,94,118,131,164,165,166,167,168,180,196] ?_|refine fctI fun hf=>?_|refine twI (fun hc=>?_) fun hc=>?_);refine loop_swp [1, 2, 4, 5, 6, 7, 10, 15, 17, 70, 71, 72] [296, 304] 344 (fun q A H => ∃ i : Nat, i <= n.links.length /\ q = n.links.length - i /\ A = [(1, sectL c), (2, ruleL l), (4, li v), (5, li sec), (6, li more), (7, .p (.ptr (netP n))), (10, .p (.ptr [.lit (.string t)])), (15, ints (setsS l n t v)), (17, .ptr 296 0), (70, linkL n.links), (71, li n.links.length), (72, li i)] /\ H = [(296, .blk 35 [.gl 304]), (304, strL ((lkTo n t i).map Link.name))]) (by omega) ?_ ?_ ?_
  · rintro q A H ⟨i, g1, g2, rfl, rfl⟩;exact SDD
  · refine ⟨_, 0, by omega, rfl, ?_, ?_⟩
    · exact DVR
    · exact DVR
  rintro q A H ⟨i, g1, g2, rfl, rfl⟩;by_cases hi : i < n.links.length
  · have hi3 : (i : Int) < (n.links.length : Int) := by omega
    have hX : ((lkTo n t i).map Link.name).length <= 400 := by rw [List.length_map]; exact Nat.le_trans (hol i) (by omega)
    clear k0 k1 k2 k3 hoa hol;by_cases e : (n.links.getD i default).fro = t
    · have h1 := (lkTo_yes hi e).1;generalize hXX : (lkTo n t i).map Link.name = X at *
      (have:=NeI hi);(have:=NeI hi3);(have:=NeI e);(repeat' first|refine stW [0,1,2,3,4,5,6,7,10,14,15,16,17,19,20,21,22,23,24,25,26,27,29,30,31,32,33,35,55,65,70,71,72,73,79,90,91,92,93,94,118,131,164,165,166,167,168,180,196] ?_|refine fctI fun hf=>?_|refine twI (fun hc=>?_) fun hc=>?_);(refine lN [296, 304] ?_);exact ⟨_, by omega, i + 1, by omega, rfl, rfl, by rw [h1, List.map_append, hXX] <;> rfl⟩
    · have h1 := (lkTo_no hi e).1;generalize hXX : (lkTo n t i).map Link.name = X at *
      (have:=NeI hi);(have:=NeI hi3);(have:=NeI e);(repeat' first|refine stW [0,1,2,3,4,5,6,7,10,14,15,16,17,19,20,21,22,23,24,25,26,27,29,30,31,32,33,35,55,65,70,71,72,73,79,90,91,92,93,94,118,131,164,165,166,167,168,180,196] ?_|refine fctI fun hf=>?_|refine twI (fun hc=>?_) fun hc=>?_);(refine lN [296, 304] ?_);exact ⟨_, by omega, i + 1, by omega, rfl, rfl, by rw [h1, hXX] <;> rfl⟩
  obtain rfl : i = n.links.length := by omega
  have hi3 : ¬ ((n.links.length : Int) < (n.links.length : Int)) := by omega
  (have:=NeI hi3);rw [hoa];clear hoa hol k0 k1 k2 k3;generalize hNM : (outL n t).map Link.name = NM;have hNl : NM.length = (outL n t).length := by rw [<- hNM, List.length_map]
  have hNi : ∀ i, i < (outL n t).length -> NM.getD i default = ((outL n t).getD i default).name := fun i hi => by rw [<- hNM]; exact nm_at hi
  (refine sF 304 ?_);refine sF 296 (v := .blk 35 [.p (.dat 1 (NM.map strRow))]) (x := .cells [.dat 1 (NM.map strRow)]) ?_ (hx := rfl);have hSf : ∀ i, i < NM.length -> 0 <= (setsS l n t v).getD i default /\ (setsS l n t v).getD i default <= 1000 /\ ((setsS l n t v).getD i default = 1000 ∨ (setsS l n t v).getD i default = 0 ∨ (l.any fun r => decide (r.lnk = NM.getD i default) && decide (r.setg = (setsS l n t v).getD i default)) = true) := fun i hi => by
    have hi2 : i < (outL n t).length := by omega
    rw [setsS_at hi2, hNi i hi2];have h1 := grI_in t ((outL n t).getD i default).name v (rules_in rb);refine ⟨h1.1, h1.2, ?_⟩;rcases grI_named l t ((outL n t).getD i default).name v with h | h | h
    · exact .inl h
    · exact .inr (.inl h)
    · exact .inr (.inr (any_named h))
  have eSN : ((setsS l n t v).length : Int) = (NM.length : Int) := by omega
  have hN8 : NM.length <= 8 := by omega
  have k1 := fun m => MostS_f n c l t v sec m no co lo
  have k2 := fun m => MostS_f n c l t v (sec + more) m no co lo
  have hone := fun (i : Nat) (hi : i < (outL n t).length) (m : Nat) => hNi i hi
  have hcore : mosE43 n c l t v sec = 0 -> 1 <= sec /\ sec <= 86400 /\ ∃ a, TankIn n c l t a := fun h => by
    have hc := mosE_cat h;simp only [Bool.and_eq_true] at hc;rw [mosE_is nb hc.1.2 rb te hvr] at h;obtain ⟨h1, h2⟩ := safE_in no co lo h;exact ⟨h1.1, h1.2, h2⟩
  clear hone;(have:=NeI eSN);generalize hSS : setsS l n t v = S at *
  (repeat' first|refine stW [0,1,2,3,4,5,6,7,10,14,15,16,17,19,20,21,22,23,24,25,26,27,29,30,31,32,33,35,55,65,70,71,72,73,79,90,91,92,93,94,118,131,164,165,166,167,168,180,196] ?_|refine fctI fun hf=>?_|refine twI (fun hc=>?_) fun hc=>?_);refine loop_swp [1, 2, 4, 5, 6, 7, 10, 17, 91, 92, 93] [] 416 (fun q A H => ∃ i : Nat, i <= S.length /\ q = S.length - i /\ A = [(1, sectL c), (2, ruleL l), (4, li v), (5, li sec), (6, li more), (7, .p (.ptr (netP n))), (10, .p (.ptr [.lit (.string t)])), (17, .p (.ptr [.dat 1 (NM.map strRow)])), (91, ints S), (92, li S.length), (93, li i)] /\ H = []) (by omega) ?_ ?_ ?_
  · rintro q A H ⟨i, g1, g2, rfl, rfl⟩;exact SDD
  · refine ⟨_, 0, by omega, rfl, ?_, ?_⟩
    · exact DVR
    · exact DVR
  rintro q A H ⟨i, g1, g2, rfl, rfl⟩;by_cases hi : i < S.length
  · have hi3 : (i : Int) < (S.length : Int) := by omega
    have hi4 : i < NM.length := by omega
    obtain ⟨f1, f2, f3⟩ := hSf i hi4;have k3 := fun m => conRule43P_f 10 (.ptr [.dat 1 (NM.map strRow)]) (.ptr [.lit (.int .i64 i)]) (.ptr [.lit (.int .i64 (S.getD i default))]) (fun r => decide (r.lnk = NM.getD i default) && decide (r.setg = S.getD i default)) l m lo.1 (fun r _ m => sl1_f r NM i (S.getD i default) m hi4)
    generalize (l.any fun r => decide (r.lnk = NM.getD i default) && decide (r.setg = S.getD i default)) = B at *
    clear hSf hcore k1 k2;have f4 : ¬ S.getD i default < 0 := by omega
    have f5 : ¬ 1000 < S.getD i default := by omega
    (have:=NeI hi);(have:=NeI hi3);(have:=NeI f4);(have:=NeI f5);rcases f3 with f3 | f3 | f3
    · have f6 : ¬ S.getD i default < 1000 := by omega
      (have:=NeI f6);(repeat' first|(show SWp _ _ _ (.seq (.region 20 _ _) _) _ _ _ _;refine (stop_in ?_))|refine stW [0,1,2,3,4,5,6,7,10,14,15,16,17,19,20,21,22,23,24,25,26,27,29,30,31,32,33,35,55,65,70,71,72,73,79,90,91,92,93,94,118,131,164,165,166,167,168,180,196] ?_|refine fctI fun hf=>?_|refine twI (fun hc=>?_) fun hc=>?_);refine stop_out ?_;refine sF 448 (v := .blk 3 [li i]) (x := .cells [.lit (.int .i64 i)]) ?_ (hx := rfl);refine sF 456 (v := .blk 3 [li (S.getD i default)]) (x := .cells [.lit (.int .i64 (S.getD i default))]) ?_ (hx := rfl);(repeat' first|refine stW [0,1,2,3,4,5,6,7,10,14,15,16,17,19,20,21,22,23,24,25,26,27,29,30,31,32,33,35,55,65,70,71,72,73,79,90,91,92,93,94,118,131,164,165,166,167,168,180,196] ?_|refine fctI fun hf=>?_|refine twI (fun hc=>?_) fun hc=>?_);(refine lN [] ?_);exact ⟨_, by omega, i + 1, by omega, rfl, rfl, rfl⟩
    · by_cases f6 : S.getD i default < 1000
      case neg => omega
      (have:=NeI f6);(have:=NeI f3);(repeat' first|(show SWp _ _ _ (.seq (.region 20 _ _) _) _ _ _ _;refine (stop_in ?_))|refine stW [0,1,2,3,4,5,6,7,10,14,15,16,17,19,20,21,22,23,24,25,26,27,29,30,31,32,33,35,55,65,70,71,72,73,79,90,91,92,93,94,118,131,164,165,166,167,168,180,196] ?_|refine fctI fun hf=>?_|refine twI (fun hc=>?_) fun hc=>?_);refine stop_out ?_;refine sF 448 (v := .blk 3 [li i]) (x := .cells [.lit (.int .i64 i)]) ?_ (hx := rfl);refine sF 456 (v := .blk 3 [li (S.getD i default)]) (x := .cells [.lit (.int .i64 (S.getD i default))]) ?_ (hx := rfl);(repeat' first|refine stW [0,1,2,3,4,5,6,7,10,14,15,16,17,19,20,21,22,23,24,25,26,27,29,30,31,32,33,35,55,65,70,71,72,73,79,90,91,92,93,94,118,131,164,165,166,167,168,180,196] ?_|refine fctI fun hf=>?_|refine twI (fun hc=>?_) fun hc=>?_);(refine lN [] ?_);exact ⟨_, by omega, i + 1, by omega, rfl, rfl, rfl⟩
    · subst f3;(repeat' first|(show SWp _ _ _ (.seq (.region 20 _ _) _) _ _ _ _;refine (stop_in ?_))|refine stW [0,1,2,3,4,5,6,7,10,14,15,16,17,19,20,21,22,23,24,25,26,27,29,30,31,32,33,35,55,65,70,71,72,73,79,90,91,92,93,94,118,131,164,165,166,167,168,180,196] ?_|refine fctI fun hf=>?_|refine twI (fun hc=>?_) fun hc=>?_);refine stop_out ?_;refine sF 448 (v := .blk 3 [li i]) (x := .cells [.lit (.int .i64 i)]) ?_ (hx := rfl);refine sF 456 (v := .blk 3 [li (S.getD i default)]) (x := .cells [.lit (.int .i64 (S.getD i default))]) ?_ (hx := rfl);(repeat' first|refine stW [0,1,2,3,4,5,6,7,10,14,15,16,17,19,20,21,22,23,24,25,26,27,29,30,31,32,33,35,55,65,70,71,72,73,79,90,91,92,93,94,118,131,164,165,166,167,168,180,196] ?_|refine fctI fun hf=>?_|refine twI (fun hc=>?_) fun hc=>?_);all_goals
        (refine lN [] ?_);exact ⟨_, by omega, i + 1, by omega, rfl, rfl, rfl⟩
  obtain rfl : i = S.length := by omega
  have hi3 : ¬ ((S.length : Int) < (S.length : Int)) := by omega
  (have:=NeI hi3);clear hSf;by_cases hE : mosE43 n c l t v sec = 0
  case neg =>
    rw [if_neg hE] at k1;generalize mosE43 n c l t v sec = F at *
    (have:=NeI hE);clear k2 hcore;(repeat' first|refine stW [0,1,2,3,4,5,6,7,10,14,15,16,17,19,20,21,22,23,24,25,26,27,29,30,31,32,33,35,55,65,70,71,72,73,79,90,91,92,93,94,118,131,164,165,166,167,168,180,196] ?_|refine fctI fun hf=>?_|refine twI (fun hc=>?_) fun hc=>?_);exact DVR
  obtain ⟨hs1, hs2, a, K⟩ := hcore hE;rw [if_pos hE, hE] at k1;have hpos : ∀ q, q ∈ flowsS n c t (setsS l n t v) v -> 0 <= q /\ q <= 1099511627776 := K.pos (by omega) (by omega) v;have hmn : mostS n c l t v sec <= mostS n c l t v (sec + more) := leaves_mono sec more (by omega) _ fun q hq => (hpos q hq).1
  have h0 : 0 <= mostS n c l t v sec := leaves_zero (by omega) fun q hq => (hpos q hq).1
  have hE2 : (mosE43 n c l t v (sec + more) = 0) ∨ mosE43 n c l t v (sec + more) = 2 := by
    rw [mosE_is K.nb K.cb K.rb K.te hvr];by_cases q : 1 <= sec + more /\ sec + more <= 86400
    · exact .inl (tank_zero5 K q)
    · exact .inr (tank_two5 K q)
  have hall := leaves_all n c l t v sec;have hp1 : ∀ x, x ∈ outL n t -> 0 <= leavesI [flowX n c v x (grI l t x.name v)] sec /\ leavesI [flowX n c v x (grI l t x.name v)] sec <= 1125899906842624 := fun x hx => by
    have hq := hpos (flowX n c v x (grI l t x.name v)) (by rw [flowsS_sets]; exact List.mem_map_of_mem hx);have := Int.mul_nonneg hq.1 (show 0 <= sec by omega);rw [leaves_cons];show 0 <= min _ _ + 0 /\ min _ _ + 0 <= _;omega
  have hin := fun i hi => oneS_in (n := n) (c := c) (l := l) (t := t) (v := v) (sec := sec) hp1 i hi
  have hnx := @oneS_next n c l t v sec;have hon := fun (i : Nat) (hi : i < (outL n t).length) => one_most K ⟨hs1, hs2⟩ hvr (mem_getD hi)
  have hoe : oneS n c l t v sec (outL n t).length = mostS n c l t v sec := by
    unfold oneS;rw [List.take_length]; exact hall
  have hz0 : oneS n c l t v sec 0 = 0 := rfl;have b2L := no.2.1;have b3L := lo.1;clear hpos hp1 hall K hE;rw [<- hNl] at hin hon hoe;have hz : ¬ mostS n c l t v sec < 0 := by omega
  have hgo : ∀ i, i < NM.length -> ((outL n t).getD i default).name = NM.getD i default := fun i hi => (hNi i (by omega)).symm
  clear hNi;(have:=NeI hz);generalize hMM : mostS n c l t v sec = M at *
  rcases hE2 with hE2 | hE2
  all_goals
    rw [hE2] at k2;first | rw [if_pos rfl] at k2 | rw [if_neg (by decide)] at k2
    generalize mostS n c l t v (sec + more) = M2 at *
    have hM2 : ¬ M2 < M := by omega
    (have:=NeI hM2);(repeat' first|refine stW [0,1,2,3,4,5,6,7,10,14,15,16,17,19,20,21,22,23,24,25,26,27,29,30,31,32,33,35,55,65,70,71,72,73,79,90,91,92,93,94,118,131,164,165,166,167,168,180,196] ?_|refine fctI fun hf=>?_|refine twI (fun hc=>?_) fun hc=>?_);clear k1 k2;refine loop_swp [1, 2, 4, 5, 7, 10, 23, 27, 165, 166, 167] [] 832 (fun q A H => ∃ i : Nat, i <= NM.length /\ q = NM.length - i /\ A = [(1, sectL c), (2, ruleL l), (4, li v), (5, li sec), (7, .p (.ptr (netP n))), (10, .p (.ptr [.lit (.string t)])), (23, li M), (27, li (oneS n c l t v sec i)), (165, strs NM), (166, li NM.length), (167, li i)] /\ H = []) (by omega) ?_ ?_ ?_
    · rintro q A H ⟨i, g1, g2, rfl, rfl⟩;exact SDD
    · refine ⟨_, 0, by omega, rfl, ?_, ?_⟩
      · rw [hz0];exact DVR
      · exact DVR
    rintro q A H ⟨i, g1, g2, rfl, rfl⟩;by_cases hi : i < NM.length
    case neg =>
      obtain rfl : i = NM.length := by omega
      have hi3 : ¬ ((NM.length : Int) < (NM.length : Int)) := by omega
      (have:=NeI hi3);rw [hoe];(repeat' first|refine stW [0,1,2,3,4,5,6,7,10,14,15,16,17,19,20,21,22,23,24,25,26,27,29,30,31,32,33,35,55,65,70,71,72,73,79,90,91,92,93,94,118,131,164,165,166,167,168,180,196] ?_|refine fctI fun hf=>?_|refine twI (fun hc=>?_) fun hc=>?_);exact DVR
    have hi3 : (i : Int) < (NM.length : Int) := by omega
    obtain ⟨j1, j2, j3, j4, j5⟩ := hon i hi;have jn := hnx (i := i) (by omega);have ji := hin i (by omega);have ji2 := hin (i + 1) (by omega);rw [hgo i hi] at j1 j2 j3 j4 j5 jn;rw [<- j5] at jn;have c1 := fun m => rNetValid_f (oneN n t (NM.getD i default)) m j2
    have c2 := fun m => MostS_f (oneN n t (NM.getD i default)) c (l.filter fun r => !(!decide (r.lnk = NM.getD i default))) t v sec m j2 co j3
    rw [j1] at c1;rw [j4, if_pos rfl] at c2;have d1 := fun m => cloneLink43_f n.links m (by omega)
    have d2 := fun m => delLink43P_f 14 (.ptr [.lit (.string t)]) (.ptr [.lit (.string (NM.getD i default))]) (fun y => decide (y.fro = t) && !decide (y.name = NM.getD i default)) n.links m (by omega) (fun x _ m => sl2_f x t (NM.getD i default) m)
    have d3 := fun m => cloneRule43_f l m (by omega)
    have d4 := fun m => delRule43Q_f 18 (.ptr [.lit (.string (NM.getD i default))]) (fun r => !decide (r.lnk = NM.getD i default)) l m (by omega) (fun x _ m => sl3_f x (NM.getD i default) m)
    generalize hKR : (l.filter fun r => !(!decide (r.lnk = NM.getD i default))) = KR at *
    generalize mostS (oneN n t (NM.getD i default)) c KR t v sec = D at *
    generalize hON : oneS n c l t v sec i = O1 at *
    generalize hO2N : oneS n c l t v sec (i + 1) = O2 at *
    clear hin hon hoe hnx hgo;(have:=NeI hi);(have:=NeI hi3);(repeat' first|(show SWp _ _ _ (.seq (.region 35 _ _) _) _ _ _ _;refine (stop_in ?_))|refine stW [0,1,2,3,4,5,6,7,10,14,15,16,17,19,20,21,22,23,24,25,26,27,29,30,31,32,33,35,55,65,70,71,72,73,79,90,91,92,93,94,118,131,164,165,166,167,168,180,196] ?_|refine fctI fun hf=>?_|refine twI (fun hc=>?_) fun hc=>?_);refine stop_out ?_;refine sF 856 (v := .blk 9 [ls (NM.getD i default)]) (x := .cells [.lit (.string (NM.getD i default))]) ?_ (hx := rfl);generalize hKS : NM.getD i default = ks at *
    (repeat' first|refine stW [0,1,2,3,4,5,6,7,10,14,15,16,17,19,20,21,22,23,24,25,26,27,29,30,31,32,33,35,55,65,70,71,72,73,79,90,91,92,93,94,118,131,164,165,166,167,168,180,196] ?_|refine fctI fun hf=>?_|refine twI (fun hc=>?_) fun hc=>?_);(refine cQT [912] (fun hcc => (d2 _)) ?_);(repeat' first|(show SWp _ _ _ (.seq (.region 36 _ _) _) _ _ _ _;refine (stop_in ?_))|refine stW [0,1,2,3,4,5,6,7,10,14,15,16,17,19,20,21,22,23,24,25,26,27,29,30,31,32,33,35,55,65,70,71,72,73,79,90,91,92,93,94,118,131,164,165,166,167,168,180,196] ?_|refine fctI fun hf=>?_|refine twI (fun hc=>?_) fun hc=>?_);refine stop_out ?_;(refine sF 928 ?_);(repeat' first|(show SWp _ _ _ (.seq (.region 38 _ _) _) _ _ _ _;refine (stop_in ?_))|refine stW [0,1,2,3,4,5,6,7,10,14,15,16,17,19,20,21,22,23,24,25,26,27,29,30,31,32,33,35,55,65,70,71,72,73,79,90,91,92,93,94,118,131,164,165,166,167,168,180,196] ?_|refine fctI fun hf=>?_|refine twI (fun hc=>?_) fun hc=>?_);refine stop_out ?_;(repeat' first|refine stW [0,1,2,3,4,5,6,7,10,14,15,16,17,19,20,21,22,23,24,25,26,27,29,30,31,32,33,35,55,65,70,71,72,73,79,90,91,92,93,94,118,131,164,165,166,167,168,180,196] ?_|refine fctI fun hf=>?_|refine twI (fun hc=>?_) fun hc=>?_);(refine cQT [984] (fun hcc => (d4 _)) ?_);(repeat' first|(show SWp _ _ _ (.seq (.region 39 _ _) _) _ _ _ _;refine (stop_in ?_))|refine stW [0,1,2,3,4,5,6,7,10,14,15,16,17,19,20,21,22,23,24,25,26,27,29,30,31,32,33,35,55,65,70,71,72,73,79,90,91,92,93,94,118,131,164,165,166,167,168,180,196] ?_|refine fctI fun hf=>?_|refine twI (fun hc=>?_) fun hc=>?_);refine stop_out ?_;(refine sF 1000 ?_);(repeat' first|refine stW [0,1,2,3,4,5,6,7,10,14,15,16,17,19,20,21,22,23,24,25,26,27,29,30,31,32,33,35,55,65,70,71,72,73,79,90,91,92,93,94,118,131,164,165,166,167,168,180,196] ?_|refine fctI fun hf=>?_|refine twI (fun hc=>?_) fun hc=>?_);(refine lN [] ?_);exact ⟨_, by omega, i + 1, by omega, rfl, by rw [hO2N, jn] <;> rfl, rfl⟩

end Go.Proofs.YtdhcpkeldpadlaaGreat
