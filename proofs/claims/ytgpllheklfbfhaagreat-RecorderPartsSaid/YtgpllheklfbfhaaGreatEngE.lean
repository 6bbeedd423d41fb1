/-
  A part of the engine that reckons calls at the level of data.
  No condition.
-/

import Derived.Test.YtgpllheklfbfhaaGreatEngD
namespace Go.Eng
set_option linter.all false
open Go.RowKit
section
variable [Dfr]
variable {P : Program} {B : Base} {N : Nat} {U : Nat -> Prop} {ρ : Nat -> Hd} {S : Nat -> Prop} {w : World} {f : Nat -> DV} {h : Nat -> Option HV} {a : Act}
theorem oneCell_eq (v : Value) : v.oneCell' = vcell v := by cases v <;> rfl
def putV (l : List Value) (off : Nat) (xs : List Value) : List Value := l.take off ++ xs ++ l.drop (off + xs.length)
theorem putV_length {l xs : List Value} {off : Nat} (hle : off + xs.length <= l.length) : (putV l off xs).length = l.length := by
  simp [putV]; omega
theorem RelL_put {ds xs : List DV} {vs us : List Value} {off : Nat} (h1 : RelL ρ S w ds vs) (h2 : RelL ρ S w xs us) : RelL ρ S w (putL ds off xs) (putV vs off us) := by
  unfold putL putV;rw [RelL_length h2];exact RelL_append (RelL_append (RelL_take _ h1) h2) (RelL_drop _ h1)
theorem flatten_put {m : Nat} {xs : List DV} : ∀ (l : List (List DV)) (i j : Nat), (∀ r, r ∈ l -> r.length = m) -> i < l.length -> j + xs.length <= m ->
    (l.set i (putL (l.getD i []) j xs)).flatten = putL l.flatten (i * m + j) xs
  | [], _, _, _, hi, _ => by simp at hi
  | r :: l, 0, j, hr, _, hj => by
    have := hr r (by simp);simp only [List.set_cons_zero, List.getD_cons_zero, List.flatten_cons, putL, Nat.zero_mul, Nat.zero_add];rw [List.take_append_of_le_length (by omega), List.drop_append_of_le_length (by omega)];simp
  | r :: l, i + 1, j, hr, hi, hj => by
    have h1 := hr r (by simp);have ih := flatten_put l i j (fun r k => hr r (by simp [k])) (by simpa using hi) hj;simp only [List.set_cons_succ, List.getD_cons_succ, List.flatten_cons];rw [ih];have e1 : (i + 1) * m + j = r.length + (i * m + j) := by rw [Nat.add_mul, h1]; omega
    rw [e1];simp only [putL];rw [List.take_length_add_append, Nat.add_assoc r.length, List.drop_length_add_append];simp [List.append_assoc]
theorem run_cells (b : Nat) (t : TypeId) (fz : Nat × Nat) (off : Nat) : ∀ (us : List Value) (i : Nat) (cur : List Value) (w : World), w.heap[b]? = some (.cells cur.toArray t fz) ->
    off + i + us.length <= cur.length -> (∀ k, k < cur.length -> ¬ (fz.1 <= k /\ k < fz.2)) -> (∀ v, v ∈ us -> vcell v = true) ->
    ∃ w', (storeCells ⟨b, off, none⟩ us i).run P w = .ok () w' /\ w'.heap[b]? = some (.cells (putV cur (off + i) us).toArray t fz) /\
      (∀ k, k ≠ b -> w'.heap[k]? = w.heap[k]?) /\ w'.heap.size = w.heap.size /\ w'.os = w.os /\ w'.tape = w.tape /\ w'.output = w.output
  | [], i, cur, w, hg, _, _, _ => ⟨w, by simp [storeCells], by simpa [putV] using hg, fun _ _ => rfl, rfl, rfl, rfl, rfl⟩
  | u :: us, i, cur, w, hg, hle, hfz, hv => by
    simp only [List.length_cons] at hle;have hc : w.cell? ⟨b, off + i, none⟩ = some (cur.getD (off + i) default) := cell?_heap hg (by omega);have hf : w.frozen? ⟨b, off + i, none⟩ = false := by
      have := hfz (off + i) (by omega);simp only [World.frozen?, hg];simpa using this
    have hrun : (store ((⟨b, off, none⟩ : Addr).add i) u).run P w = .ok () (w.setCell ⟨b, off + i, none⟩ u) := by
      rw [run_store P w _ u _ (by rw [oneCell_eq]; exact hv u (by simp)), addr_add, hc];simp [hf]
    have hb : b < w.heap.size := by
      rcases Nat.lt_or_ge b w.heap.size with k | k
      · exact k
      · simp [Array.getElem?_eq_none k] at hg
    have hg' : (w.setCell ⟨b, off + i, none⟩ u).heap[b]? = some (.cells (cur.set (off + i) u).toArray t fz) := by
      have e : w.heap[b] = .cells cur.toArray t fz := by simpa [Array.getElem?_eq_getElem hb] using hg
      simp [World.setCell, Array.getElem?_modify, Array.getElem?_eq_getElem hb, e]
    obtain ⟨w', q1, q2, q3, q4, q5, q6, q7⟩ := run_cells b t fz off us (i + 1) (cur.set (off + i) u) (w.setCell ⟨b, off + i, none⟩ u) hg' (by simp; omega)
      (fun k hk => hfz k (by simpa using hk)) (fun v k => hv v (by simp [k]))
    refine ⟨w', by simp [storeCells, hrun, q1], ?_, fun k hk => ?_, ?_, q5, q6, q7⟩
    · rw [q2];congr 3
      have h1 : off + i < cur.length := by omega
      have hA : (cur.take (off + i)).length = off + i := by simp; omega
      have hset : cur.set (off + i) u = cur.take (off + i) ++ u :: cur.drop (off + i + 1) := by rw [List.set_eq_take_append_cons_drop, if_pos h1]
      unfold putV;rw [hset, <- Nat.add_assoc off i 1];generalize cur.take (off + i) = A at hA ⊢;have e1 : (A ++ u :: cur.drop (off + i + 1)).take (off + i + 1) = A ++ [u] := by
        rw [<- hA, List.take_length_add_append]; simp
      have e2 : (A ++ u :: cur.drop (off + i + 1)).drop (off + i + 1 + us.length) = cur.drop (off + i + (u :: us).length) := by
        have : off + i + 1 + us.length = A.length + (1 + us.length) := by omega
        rw [this, List.drop_length_add_append, Nat.add_comm 1 us.length, List.drop_succ_cons, List.drop_drop];congr 1; simp; omega
      rw [e1, e2]; simp
    · rw [q3 k hk];simp only [World.setCell, Array.getElem?_modify];rw [if_neg (fun e => hk e.symm)]
    · rw [q4]; simp [World.setCell]
theorem cellsD_rel {y : DV} {u : Value} (hy : Rel ρ S w y u) (hc : (cellsD y).all DV.cellB = true) : RelL ρ S w (cellsD y) u.cells.toList /\ ∀ v, v ∈ u.cells.toList -> vcell v = true := by
  have key : y.cellB = true -> RelL ρ S w [y] u.cells.toList /\ ∀ v, v ∈ u.cells.toList -> vcell v = true := fun hb => by
    have hv := hy.cell hb;have : u.cells.toList = [u] := by cases u <;> simp_all [Value.cells, vcell]
    rw [this];exact ⟨⟨hy, trivial⟩, fun v hm => by simp at hm; subst hm; exact hv⟩
  cases y with
  | agg cs =>
    simp only [Rel] at hy;obtain ⟨vs, rfl, hr⟩ := hy;simp only [cellsD, Value.cells] at *
    refine ⟨hr, fun v hm => ?_⟩;obtain ⟨i, hi, rfl⟩ := List.getElem_of_mem hm;have hlen := RelL_length hr;have h1 := RelL_get hr i (by omega);have h2 : cs.getD i default ∈ cs := by rw [List.getD_eq_getElem?_getD, List.getElem?_eq_getElem (by omega)]; simp
    have := h1.cell (List.all_eq_true.1 hc _ h2);simpa [hi] using this
  | tup cs => simp [cellsD, DV.cellB] at hc
  | opt b d => simp [cellsD, DV.cellB] at hc
  | junk => simp [cellsD, DV.cellB] at hc
  | p x => exact key rfl
  | ptr id off => exact key rfl
  | eptr id n i j => exact key rfl
  | gl id => exact key rfl
  | mref id => exact key rfl
  | clo g c => exact key rfl
theorem cellsD_uses {y : DV} (hy : y.uses U) : DV.usesL U (cellsD y) := by
  cases y <;> first | exact ⟨hy, trivial⟩ | exact hy
theorem usesL_append {l m : List DV} (h1 : DV.usesL U l) (h2 : DV.usesL U m) : DV.usesL U (l ++ m) :=
  usesL_iff.2 fun d hd => (List.mem_append.1 hd).elim (usesL_iff.1 h1 d) (usesL_iff.1 h2 d)
theorem putL_uses {l m : List DV} {o : Nat} (h1 : DV.usesL U l) (h2 : DV.usesL U m) : DV.usesL U (putL l o m) :=
  usesL_append (usesL_append (usesL_sub (fun _ hd => List.mem_of_mem_take hd) h1) h2) (usesL_sub (fun _ hd => List.mem_of_mem_drop hd) h1)
theorem putL_length {l xs : List DV} {off : Nat} (hle : off + xs.length <= l.length) : (putL l off xs).length = l.length := by
  simp [putL]; omega
theorem step_set (H : HSat B U ρ S w h) (E : ESat N U ρ S w f a) {nid : Nat} {s : Sem Next} {q : Prop} {w' : World} {id : Nat} {old hv : HV} {b : Nat}
    (hr : s.run P w = .ok .skip w') (ho : h id = some old) (hb : hblk (ρ id) old = some b) (hb' : ∀ c, hblk (ρ id) hv = some c -> c = b)
    (hw : ∀ k, k ≠ b -> w'.heap[k]? = w.heap[k]?) (hsz : w'.heap.size = w.heap.size) (hos : w'.os = w.os) (ht : w'.tape = w.tape) (hout : w'.output = w.output)
    (hv' : HRel ρ S w' id hv) (hu : hv.uses U) : StepOk P B N U nid f h a w s { pre := q, fact := True, d := .junk, e := .set id hv } := by
  have hS : ¬ S b := H.sep id old b ho hb;refine ⟨.skip, undef, w', ρ, S, hr, .inr ⟨rfl, rfl⟩, ?_, ?_, by simp only [Rel], trivial, trivial, fun e => (by cases e), fun _ _ e => (by cases e)⟩
  · have := H.install id hv b (fun _ _ => rfl) (fun _ _ => rfl) (fun k _ hk => hw k hk) (by omega) hos ht hout hS (H.prov id old b ho hb)
      (fun j u hj hju e => hj (H.disj j id u old b hju ho e hb)) hb' hv' (HV.uses_mono (fun _ k => .inl k) _ hu)
    exact this.used fun i k => k.elim .inl fun e => .inl (e ▸ (H.heapU id old ho).1)
  · exact E.mono (fun _ _ => rfl) (fun _ k => k) (fun c hc => hw c (fun e => hS (e ▸ hc))) fun _ k => .inl k
theorem store_ok (H : HSat B U ρ S w h) (E : ESat N U ρ S w f a) {nid : Nat} {t : TypeId} {T : TD} {x y : DV} {v u : Value} {out : Out}
    (ht : td P t = some T) (hx : Rel ρ S w x v) (hy : Rel ρ S w y u) (hyu : y.uses U) (hd : dstore T x y h = some out) (hp : out.pre) :
    StepOk P B N U nid f h a w (do Instr.storeAt t v u; pure Next.skip) out := by
  obtain ⟨i, d, z, hi, hu, hz, e1, e2, e3, e4, _⟩ := td_spec ht;unfold dstore at hd;split at hd
  case isFalse => cases hd
  next hc =>
  obtain ⟨hc1, hc2⟩ := hc;obtain ⟨hrel, hcell⟩ := cellsD_rel hy hc2;have hlen := RelL_length hrel;have hsize : u.cells.size = i.size := by rw [<- Array.length_toList, <- hlen, hc1, e1]
  have hus := cellsD_uses hyu;split at hd
  · next id off =>
    simp only [Rel] at hx;obtain ⟨b, hb, rfl⟩ := hx;split at hd
    · next tt cs hh =>
      split at hd
      · next hle =>
        obtain rfl := Option.some.inj hd;have h1 := H.heap id _ hh;have h1u := (H.heapU id _ hh).2;simp only [HRel] at h1;obtain ⟨b', vs, fz, k1, k2, k3, k4⟩ := h1;rw [hb] at k1; simp at k1; subst k1;have hvl := RelL_length k3;obtain ⟨w', q1, q2, q3, q4, q5, q6, q7⟩ := run_cells (P := P) b tt fz off u.cells.toList 0 vs w k2 (by rw [<- hlen, hc1]; omega) k4 hcell;refine step_set H E (w' := w') (b := b) ?_ hh (by simp [hblk, hb]) (by simp [hblk, hb]) q3 q4 q5 q6 q7 ?_ ?_
        · simp [Instr.storeAt, Instr.sureAddr, storeVar, r_size hi, hsize, q1]
        · simp only [HRel];have hmono : ∀ (ds : List DV) (us : List Value), DV.usesL U ds -> RelL ρ S w ds us -> RelL ρ S w' ds us :=
            fun ds us hu => RelL.mono (U := U) (fun _ _ => rfl) (fun _ k => k) (fun c hc => q3 c (fun e => H.sep id _ b hh (by simp [hblk, hb]) (e ▸ hc))) ds us hu
          refine ⟨b, putV vs off u.cells.toList, fz, hb, by simpa using q2, hmono _ _ (putL_uses h1u hus) (RelL_put k3 hrel), fun k hk => k4 k ?_⟩;rw [putV_length (by rw [<- hlen, hc1]; omega)] at hk; exact hk
        · exact putL_uses h1u hus
      · cases hd
    · cases hd
  · next id n i' j' =>
    simp only [Rel] at hx;obtain ⟨b, hb, rfl⟩ := hx;split at hd
    · next tt m l hh =>
      split at hd
      · next hle =>
        obtain ⟨rfl, hle⟩ := hle;obtain rfl := Option.some.inj hd;have hp : i' < l.length := hp;have h1 := H.heap id _ hh;have h1u := (H.heapU id _ hh).2;simp only [HV.uses] at h1u;simp only [HRel] at h1;obtain ⟨p1, p2, p3, p4, p5⟩ := h1;have hcap : (ρ id).cap ≠ 0 := by omega
        rcases p5 with p5 | ⟨b', vs, sp, fz, k1, k2, k3, k4, k5⟩
        · exact absurd p5 hcap
        rw [hb] at k1; simp at k1; subst k1;have hvl := RelL_length k3;have hfl := flatten_len l m p4;have hbound : i' * m + m <= l.length * m := by
          have : (i' + 1) * m <= l.length * m := Nat.mul_le_mul_right m hp;rw [Nat.add_mul] at this; omega
        have hul : u.cells.toList.length = T.size := by rw [<- hlen, hc1]
        obtain ⟨w', q1, q2, q3, q4, q5, q6, q7⟩ := run_cells (P := P) b tt fz (i' * m + j') u.cells.toList 0 (vs ++ sp) w k2 (by rw [hul]; simp; omega) k5 hcell;have hrow : (l.getD i' []).length = m := p4 _ (by rw [List.getD_eq_getElem?_getD, List.getElem?_eq_getElem hp]; simp);refine step_set H E (w' := w') (b := b) ?_ hh (by simp [hblk, hcap, hb]) (by simp [hblk, hb]) q3 q4 q5 q6 q7 ?_ ?_
        · simp [Instr.storeAt, Instr.sureAddr, storeVar, r_size hi, hsize, q1]
        · simp only [HRel];have hmono : ∀ (ds : List DV) (us : List Value), DV.usesL U ds -> RelL ρ S w ds us -> RelL ρ S w' ds us :=
            fun ds us hu => RelL.mono (U := U) (fun _ _ => rfl) (fun _ k => k) (fun c hc => q3 c (fun e => H.sep id _ b hh (by simp [hblk, hcap, hb]) (e ▸ hc))) ds us hu
          have hput : putV (vs ++ sp) (i' * m + j') u.cells.toList = putV vs (i' * m + j') u.cells.toList ++ sp := by
            unfold putV;rw [List.take_append_of_le_length (by omega), List.drop_append_of_le_length (by omega)];simp
          refine ⟨by simpa using p1, by simpa using p2, by simpa using p3, ?_, .inr ⟨b, putV vs (i' * m + j') u.cells.toList, sp, fz, hb, ?_, ?_, ?_, ?_⟩⟩
          · intro r hr;rcases List.mem_or_eq_of_mem_set hr with hr | rfl
            · exact p4 r hr
            · rw [putL_length (by omega), hrow]
          · rw [<- hput]; simpa using q2
          · rw [flatten_put l i' j' p4 hp (by omega)];exact hmono _ _ (putL_uses h1u hus) (RelL_put k3 hrel)
          · rw [List.length_append, putV_length (by omega)]; simpa using k4
          · intro k hk;refine k5 k ?_;rw [List.length_append, putV_length (by omega)] at hk;simpa using hk
        · simp only [HV.uses];rw [flatten_put l i' j' p4 hp (by omega)];exact putL_uses h1u hus
      · cases hd
    · cases hd
  · cases hd
theorem cv_rel {vs : List Value} (hv : vs.all vcell = true) : RelL ρ S w (cv vs) vs := by
  refine RelL_mk (by simp [cv]) fun i hi => ?_
  simp only [cv, List.length_map] at hi;have e : (cv vs).getD i default = DV.p (.lit (vs.getD i default)) := by simp [cv, hi]
  rw [e]; simp only [Rel];refine .lit _ (List.all_eq_true.1 hv _ ?_);rw [List.getD_eq_getElem?_getD, List.getElem?_eq_getElem hi]; simp
theorem cv_uses {vs : List Value} : DV.usesL U (cv vs) := usesL_iff.2 fun d hd => by obtain ⟨c, _, rfl⟩ := List.mem_map.1 hd; trivial
theorem push_old {w : World} {o : Obj} : ∀ k, k < w.heap.size -> (w.heap.push o)[k]? = w.heap[k]? := fun k hk => by rw [Array.getElem?_push, if_neg (by omega)]
theorem newblk_ok (H : HSat B U ρ S w h) (E : ESat N U ρ S w f a) {nid : Nat} (hn : ¬ U nid) (hn0 : ¬ B.U0 nid) {t : TypeId} {cs : List DV} {vs : List Value} {s : Sem Value}
    (hs : s.run P w = .ok (.pointer (some ⟨w.heap.size, 0, none⟩)) { w with heap := w.heap.push (.cells vs.toArray t) }) (hr : RelL ρ S w cs vs) (hu : DV.usesL U cs) :
    StepOk P B N U nid f h a w (do pure (Next.value (<- s))) { pre := True, fact := True, d := .ptr nid 0, e := .add nid (.blk t cs) } := by
  have hne : ∀ i, U i -> upd ρ nid { a := some ⟨w.heap.size, 0, none⟩, len := 0, cap := 0 } i = ρ i := fun i hi => by
    have : i ≠ nid := fun e => hn (e ▸ hi)
    exact upd_ne _ _ this
  refine step_add H E hn hn0 (v := .pointer (some ⟨w.heap.size, 0, none⟩)) (g := { a := some ⟨w.heap.size, 0, none⟩, len := 0, cap := 0 }) (w' := { w with heap := w.heap.push (.cells vs.toArray t) }) (by simp [hs]) push_old (by simp) rfl rfl rfl (by simp [hblk]) ?_ hu ?_ ?_
  · simp only [HRel];refine ⟨w.heap.size, vs, (0, 0), by simp, by simp, RelL.mono (U := U) hne (fun _ k => k) (fun b hb => push_old b (H.sIn b hb)) _ _ hu hr, by simp⟩
  · simp only [Rel]; exact ⟨w.heap.size, by simp, rfl⟩
  · exact .inr rfl
theorem box_ok (H : HSat B U ρ S w h) (E : ESat N U ρ S w f a) {nid : Nat} (hn : ¬ U nid) (hn0 : ¬ B.U0 nid) {e : TypeId} {y : DV} {u : Value}
    (hy : Rel ρ S w y u) (hyu : y.uses U) (hc : (cellsD y).all DV.cellB = true) :
    StepOk P B N U nid f h a w (do pure (Next.value (<- Instr.box e u))) { pre := True, fact := True, d := .ptr nid 0, e := .add nid (.blk e (cellsD y)) } :=
  newblk_ok H E hn hn0 (vs := u.cells.toList) (by simp [Instr.box, newVar, newRow]) (cellsD_rel hy hc).1 (cellsD_uses hyu)
theorem alloc_ok (H : HSat B U ρ S w h) (E : ESat N U ρ S w f a) {nid : Nat} (hn : ¬ U nid) (hn0 : ¬ B.U0 nid) {e : TypeId} {T : TD}
    (ht : td P e = some T) (hc : T.zero.all vcell = true) :
    StepOk P B N U nid f h a w (do pure (Next.value (<- Instr.alloc e true (.tuple #[])))) { pre := True, fact := True, d := .ptr nid 0, e := .add nid (.blk e (cv T.zero)) } := by
  obtain ⟨i, d, z, hi, hu, hz, e1, e2, e3, e4, _⟩ := td_spec ht;refine newblk_ok H E hn hn0 (vs := T.zero) ?_ (cv_rel hc) cv_uses;simp [Instr.alloc, r_zero hi hz, newVar, newRow, e3]
theorem foldl_put (off : Nat) : ∀ (us : List Value) (j : Nat) (cs : Array Value), off + j + us.length <= cs.size ->
    ((us.zipIdx j).foldl (fun cs (x : Value × Nat) => cs.setIfInBounds (off + x.2) x.1) cs).toList = putV cs.toList (off + j) us
  | [], j, cs, _ => by simp [putV]
  | u :: us, j, cs, hle => by
    simp only [List.length_cons] at hle;rw [List.zipIdx_cons, List.foldl_cons, foldl_put off us (j + 1) _ (by simp; omega)];have h1 : off + j < cs.toList.length := by simp; omega
    have hA : (cs.toList.take (off + j)).length = off + j := by simp; omega
    have hset : (cs.setIfInBounds (off + j) u).toList = cs.toList.take (off + j) ++ u :: cs.toList.drop (off + j + 1) := by
      rw [Array.toList_setIfInBounds, List.set_eq_take_append_cons_drop, if_pos h1]
    unfold putV;dsimp only;rw [hset, <- Nat.add_assoc off j 1];generalize cs.toList = l at *
    generalize l.take (off + j) = A at hA ⊢;have e1 : (A ++ u :: l.drop (off + j + 1)).take (off + j + 1) = A ++ [u] := by
      rw [<- hA, List.take_length_add_append]; simp
    have e2 : (A ++ u :: l.drop (off + j + 1)).drop (off + j + 1 + us.length) = l.drop (off + j + (u :: us).length) := by
      have : off + j + 1 + us.length = A.length + (1 + us.length) := by omega
      rw [this, List.drop_length_add_append, Nat.add_comm 1 us.length, List.drop_succ_cons, List.drop_drop];congr 1; simp; omega
    rw [e1, e2]; simp
theorem fill_cons {place : Nat -> Option (Nat × Nat)} {cells : Array Value} {i : Nat} {v : Value} {rest : List (Nat × Value)} {off size : Nat} (hp : place i = some (off, size)) (hs : v.cells.size = size) (hle : off + size <= cells.size) :
    Instr.fill place cells ((i, v) :: rest) = Instr.fill place (putV cells.toList off v.cells.toList).toArray rest := by
  have h0 : ¬ (v.cells.size ≠ size || decide (off + v.cells.size > cells.size)) = true := by simp [hs]; omega
  have := foldl_put off v.cells.toList 0 cells (by simp [hs]; omega);simp only [Instr.fill, hp];rw [if_neg (by simpa using h0)];congr 1
  rw [<- Array.toList_inj, <- Array.foldl_toList, Array.toList_zipIdx];simpa using this
def PartsR (ρ : Nat -> Hd) (S : Nat -> Prop) (w : World) : List (Nat × DV) -> List (Nat × Value) -> Prop
  | [], [] => True
  | (i, d) :: l, (j, v) :: m => i = j /\ Rel ρ S w d v /\ PartsR ρ S w l m
  | _, _ => False
theorem fill_rel {place : Nat -> Option (Nat × Nat)} : ∀ (ps : List (Nat × DV)) (vs : List (Nat × Value)) (zs cs : List DV) (l : List (Nat × DV)) (us : List Value),
    PartsR ρ S w ps vs -> partsD place ps = some l -> fillD zs l = some cs -> RelL ρ S w zs us ->
    ∃ us' : List Value, Instr.fill place us.toArray vs = some us'.toArray /\ RelL ρ S w cs us'
  | [], [], zs, cs, l, us, _, h1, h2, h3 => by
    simp [partsD] at h1; subst h1;simp [fillD] at h2; subst h2;exact ⟨us, rfl, h3⟩
  | (i, d) :: ps, (j, v) :: vs, zs, cs, l, us, hp, h1, h2, h3 => by
    obtain ⟨rfl, hr, hp'⟩ := hp;simp only [partsD] at h1;split at h1
    · next off size l' hpl hps =>
      split at h1
      · next hsz =>
        obtain rfl := Option.some.inj h1;simp only [fillD] at h2;split at h2
        · next hc =>
          obtain ⟨hle, hcell⟩ := hc;have hd := cellsD_rel hr hcell;have hl := RelL_length hd.1;have hul := RelL_length h3;have hvs : v.cells.size = size := by rw [<- Array.length_toList, <- hl, hsz]
          obtain ⟨us', q1, q2⟩ := fill_rel ps vs _ cs l' (putV us off v.cells.toList) hp' hps h2 (RelL_put h3 hd.1);exact ⟨us', by rw [fill_cons hpl hvs (by simp; omega)]; exact q1, q2⟩
        · cases h2
      · cases h1
    · cases h1
  | [], _ :: _, _, _, _, _, h, _, _, _ => h.elim
  | _ :: _, [], _, _, _, _, h, _, _, _ => h.elim
theorem fillD_uses : ∀ (l : List (Nat × DV)) (zs cs : List DV), fillD zs l = some cs -> DV.usesL U zs -> (∀ x, x ∈ l -> x.2.uses U) -> DV.usesL U cs
  | [], zs, cs, h, hz, _ => by simp [fillD] at h; subst h; exact hz
  | (off, d) :: l, zs, cs, h, hz, hl => by
    simp only [fillD] at h;split at h
    · exact fillD_uses l _ cs h (putL_uses hz (cellsD_uses (hl (off, d) (by simp)))) fun x hx => hl x (by simp [hx])
    · cases h
theorem partsD_mem {place : Nat -> Option (Nat × Nat)} : ∀ (ps : List (Nat × DV)) (l : List (Nat × DV)), partsD place ps = some l -> ∀ x, x ∈ l -> ∃ y, y ∈ ps /\ x.2 = y.2
  | [], l, h, x, hx => by simp [partsD] at h; subst h; simp at hx
  | (i, d) :: ps, l, h, x, hx => by
    simp only [partsD] at h;split at h
    · next off size l' _ hps =>
      split at h
      · obtain rfl := Option.some.inj h;rcases List.mem_cons.1 hx with rfl | hx
        · exact ⟨(i, d), by simp, rfl⟩
        · obtain ⟨y, hy, e⟩ := partsD_mem ps l' hps x hx;exact ⟨y, by simp [hy], e⟩
      · cases h
    · cases h
theorem run_mapM_places (fs : List Field) (hf : ∀ x, x ∈ fs -> (P.info? x.type).isSome = true) (w : World) :
    (fs.mapM (m := Sem) fun f => Functor.map (Prod.mk f.offset) (sizeOf f.type)).run P w = .ok (fs.map fun f => (f.offset, P.cellsOf f.type)) w := by
  induction fs with
  | nil => simp
  | cons x fs ih =>
    obtain ⟨i, hi⟩ := Option.isSome_iff_exists.1 (hf x (by simp));have hc : P.cellsOf x.type = i.size := by simp [Program.cellsOf, hi]
    simp [r_size hi, ih (fun y hy => hf y (by simp [hy])), hc]
theorem build_ok (H : HSat B U ρ S w h) (E : ESat N U ρ S w f a) {nid : Nat} {t : TypeId} {T : TD} {ps : List (Nat × DV)} {vs : List (Nat × Value)} {fs : List (Nat × TypeId)} {l : List (Nat × DV)} {cs : List DV}
    (ht : td P t = some T) (hz : T.zero.all vcell = true) (hfo : T.fok = true) (hk : T.k = .struct fs) (hr : PartsR ρ S w ps vs) (hu : ∀ x, x ∈ ps -> x.2.uses U)
    (hl : partsD (placeD P fs) ps = some l) (hf : fillD (cv T.zero) l = some cs) :
    StepOk P B N U nid f h a w (do pure (Next.value (<- Instr.build t vs.toArray))) { pre := True, fact := True, d := .agg cs, e := .no } := by
  obtain ⟨i, d, z, hi, hud, hzz, e1, e2, e3, e4, _, _, e7⟩ := td_spec ht;rw [e4] at hk;cases d with
  | struct fields =>
    unfold tkOf at hk;dsimp only at hk;split at hk
    case isFalse => cases hk
    obtain rfl := TK.struct.inj hk;rw [e7] at hfo;have hfi : ∀ x, x ∈ fields.toList -> (P.info? x.type).isSome = true := fun x hx => List.all_eq_true.1 hfo x hx
    have hplace : ∀ k off size, placeD P (fields.toList.map fun f => (f.offset, f.type)) k = some (off, size) -> ((fields.toList.map fun f => (f.offset, P.cellsOf f.type)).toArray)[k]? = some (off, size) := by
      intro k off size hk;unfold placeD at hk;rw [List.getElem?_map] at hk;simp only [List.getElem?_toArray, List.getElem?_map];cases hx : fields.toList[k]? with
      | none => rw [hx] at hk; simp at hk
      | some x =>
        rw [hx] at hk;simp only [Option.map_some] at hk;split at hk
        · next F hF =>
          obtain ⟨i', d', z', hi', _, _, s1, _⟩ := td_spec hF;simp only [Option.some.injEq, Prod.mk.injEq] at hk;simp [<- hk.1, <- hk.2, s1, Program.cellsOf, hi']
        · cases hk
    have hpd : partsD (fun k => ((fields.toList.map fun f => (f.offset, P.cellsOf f.type)).toArray)[k]?) ps = some l := by
      clear hf hr hu;induction ps generalizing l with
      | nil => simpa [partsD] using hl
      | cons x ps ih =>
        obtain ⟨k, dd⟩ := x;simp only [partsD] at hl ⊢;split at hl
        · next off size l' h1 h2 =>
          rw [hplace k off size h1, ih h2];exact hl
        · cases hl
    obtain ⟨us', q1, q2⟩ := fill_rel ps vs (cv T.zero) cs l T.zero hr hpd hf (cv_rel hz);refine step_no H E (v := .agg us'.toArray) ?_ ?_ ?_ trivial
    · have hm := run_mapM_places (P := P) fields.toList hfi w;have hze : z.cells = T.zero.toArray := by rw [e3]
      simp [Instr.build, r_zero hi hzz, r_und hud, Array.mapM_eq_mapM_toList, hm, hze];have e : (fun x : Nat => Option.map (fun f : Field => (f.offset, P.cellsOf f.type)) fields[x]?) = (fun k => (List.map (fun f : Field => (f.offset, P.cellsOf f.type)) fields.toList).toArray[k]?) := by
        funext k; simp
      rw [e, q1]; rfl
    · simp only [Rel]; exact ⟨us', rfl, q2⟩
    · refine fillD_uses l _ cs hf cv_uses fun x hx => ?_
      obtain ⟨y, hy, e⟩ := partsD_mem ps l hl x hx;rw [e]; exact hu y hy
  | _ => cases hk
end
end Go.Eng
