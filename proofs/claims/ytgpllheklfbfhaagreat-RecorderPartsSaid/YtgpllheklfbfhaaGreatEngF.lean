/-
  A part of the engine that reckons calls at the level of data.
  No condition.
-/

import Derived.Test.YtgpllheklfbfhaaGreatEngE
namespace Go.Eng
set_option linter.all false
open Go.RowKit
section
variable [Dfr]
variable {P : Program} {B : Base} {N : Nat} {U : Nat -> Prop} {ρ : Nat -> Hd} {S : Nat -> Prop} {w : World} {f : Nat -> DV} {h : Nat -> Option HV} {a : Act}
theorem tk_slice {d : TypeDesc} {e : TypeId} (h : tkOf d = .slice e) : d = .slice e := by
  cases d <;> simp [tkOf] at h
  · rw [h]
  · split at h <;> cases h
theorem tk_str {d : TypeDesc} (h : tkOf d = .str) : d = .string := by
  cases d <;> simp [tkOf] at h
  · rfl
  · split at h <;> cases h
theorem tk_int {d : TypeDesc} {k : IntKind} (h : tkOf d = .int k) : d = .int k := by
  cases d <;> simp [tkOf] at h
  · rw [h]
  · split at h <;> cases h
theorem tk_bool {d : TypeDesc} (h : tkOf d = .bool) : d = .bool := by
  cases d <;> simp [tkOf] at h
  · rfl
  · split at h <;> cases h
theorem tk_structInv {d : TypeDesc} {fs : List (Nat × TypeId)} (h : tkOf d = .struct fs) : ∃ g, d = .struct g /\ fs = g.toList.map (fun f => (f.offset, f.type)) /\ (g.toList.all fun f => f.name != "_") = true := by
  cases d <;> simp only [tkOf] at h
  case struct g =>
    split at h
    · next hn => exact ⟨g, rfl, (TK.struct.inj h).symm, hn⟩
    · cases h
  all_goals cases h
theorem newlst_ok (H : HSat B U ρ S w h) (E : ESat N U ρ S w f a) {nid : Nat} (hn : ¬ U nid) (hn0 : ¬ B.U0 nid) {t : TypeId} {n cap : Nat} {l : List (List DV)} {vs sp : List Value} {s : Sem Value} {w' : World} {q : Prop} {fz : Nat × Nat}
    (hs : s.run P w = .ok (.slice (some ⟨w.heap.size, 0, none⟩) l.length cap) w') (hh : w'.heap = w.heap.push (.cells (vs ++ sp).toArray t fz)) (hos : w'.os = w.os) (ht : w'.tape = w.tape) (ho : w'.output = w.output)
    (hr : RelL ρ S w l.flatten vs) (hu : DV.usesL U l.flatten) (hb : l.length <= BL) (hc : l.length <= cap) (hrow : ∀ r, r ∈ l -> r.length = n) (hlen : (vs ++ sp).length = cap * n)
    (hfz : ∀ i, i < (vs ++ sp).length -> ¬ (fz.1 <= i /\ i < fz.2)) :
    StepOk P B N U nid f h a w (do pure (Next.value (<- s))) { pre := q, fact := True, d := .gl nid, e := .add nid (.lst t n l) } := by
  have hne : ∀ i, U i -> upd ρ nid { a := some ⟨w.heap.size, 0, none⟩, len := l.length, cap } i = ρ i := fun i hi => by
    have : i ≠ nid := fun e => hn (e ▸ hi)
    exact upd_ne _ _ this
  have hold : ∀ k, k < w.heap.size -> w'.heap[k]? = w.heap[k]? := fun k hk => by rw [hh]; exact push_old k hk
  refine step_add H E hn hn0 (v := .slice (some ⟨w.heap.size, 0, none⟩) l.length cap) (g := { a := some ⟨w.heap.size, 0, none⟩, len := l.length, cap }) (w' := w') (by simp [hs]) hold (by rw [hh]; simp) hos ht ho ?_ ?_ hu ?_ ?_
  · intro b hb; simp only [hblk] at hb; split at hb
    · cases hb
    · simpa using hb.symm
  · simp only [HRel, upd_same];refine ⟨trivial, hb, hc, hrow, .inr ⟨w.heap.size, vs, sp, fz, rfl, by rw [hh]; simp, RelL.mono (U := U) hne (fun _ k => k) (fun b hb => hold b (H.sIn b hb)) _ _ hu hr, hlen, hfz⟩⟩
  · simp only [Rel, upd_same]
  · exact .inr rfl
theorem fillS_rel {n : Nat} : ∀ (ps : List (Nat × DV)) (vs : List (Nat × Value)) (l l' : List (List DV)) (us : List Value),
    PartsR ρ S w ps vs -> fillS l n ps = some l' -> RelL ρ S w l.flatten us -> (∀ r, r ∈ l -> r.length = n) ->
    ∃ us' : List Value, Instr.fill (fun i => some (i * n, n)) us.toArray vs = some us'.toArray /\ RelL ρ S w l'.flatten us' /\ (∀ r, r ∈ l' -> r.length = n) /\ l'.length = l.length
  | [], [], l, l', us, _, h1, h2, h3 => by
    simp [fillS] at h1; subst h1;exact ⟨us, rfl, h2, h3, rfl⟩
  | (i, d) :: ps, (j, v) :: vs, l, l', us, hp, h1, h2, h3 => by
    obtain ⟨rfl, hr, hp'⟩ := hp;simp only [fillS] at h1;split at h1
    · next hc =>
      obtain ⟨hi, hsz, hcell⟩ := hc;have hd := cellsD_rel hr hcell;have hl := RelL_length hd.1;have hul := RelL_length h2;have hfl := flatten_len l n h3;have hvs : v.cells.size = n := by rw [<- Array.length_toList, <- hl, hsz]
      have hbound : i * n + n <= l.length * n := by
        have : (i + 1) * n <= l.length * n := Nat.mul_le_mul_right n hi;rw [Nat.add_mul] at this; omega
      have hset : l.set i (cellsD d) = l.set i (putL (l.getD i []) 0 (cellsD d)) := by
        congr 1
        have : (l.getD i []).length = n := h3 _ (by rw [List.getD_eq_getElem?_getD, List.getElem?_eq_getElem hi]; simp);simp only [putL, List.take_zero, List.nil_append, Nat.zero_add];rw [List.drop_eq_nil_of_le (by omega)]; simp
      have hflat : (l.set i (cellsD d)).flatten = putL l.flatten (i * n + 0) (cellsD d) := by
        rw [hset]; exact flatten_put l i 0 h3 hi (by omega)
      have hrow' : ∀ r, r ∈ l.set i (cellsD d) -> r.length = n := fun r hr => by
        rcases List.mem_or_eq_of_mem_set hr with hr | rfl
        · exact h3 r hr
        · exact hsz
      obtain ⟨us', q1, q2, q3, q4⟩ := fillS_rel ps vs _ l' (putV us (i * n) v.cells.toList) hp' h1 (by rw [hflat]; exact RelL_put h2 hd.1) hrow';exact ⟨us', by rw [fill_cons rfl hvs (by simp; omega)]; exact q1, q2, q3, by simpa using q4⟩
    · cases h1
  | [], _ :: _, _, _, _, h, _, _, _ => h.elim
  | _ :: _, [], _, _, _, h, _, _, _ => h.elim
theorem fillS_uses {n : Nat} : ∀ (ps : List (Nat × DV)) (l l' : List (List DV)), fillS l n ps = some l' -> DV.usesL U l.flatten -> (∀ x, x ∈ ps -> x.2.uses U) -> DV.usesL U l'.flatten
  | [], l, l', h, hz, _ => by simp [fillS] at h; subst h; exact hz
  | (i, d) :: ps, l, l', h, hz, hl => by
    simp only [fillS] at h;split at h
    · refine fillS_uses ps _ l' h ?_ fun x hx => hl x (by simp [hx])
      rw [usesL_iff];intro y hy;obtain ⟨r, hr, hyr⟩ := List.mem_flatten.1 hy;rcases List.mem_or_eq_of_mem_set hr with hr | rfl
      · exact usesL_iff.1 hz y (List.mem_flatten.2 ⟨r, hr, hyr⟩)
      · exact usesL_iff.1 (cellsD_uses (hl (i, d) (by simp))) y hyr
    · cases h
theorem zeros_eq (zs : List Value) : ∀ len : Nat, ((List.range (len * zs.length)).map fun k => zs[k % zs.length]?.getD default) = (List.replicate len zs).flatten
  | 0 => by simp
  | len + 1 => by
    rw [Nat.add_mul, Nat.one_mul, List.range_add, List.map_append, zeros_eq zs len, List.replicate_succ', List.flatten_append];congr 1
    simp only [List.flatten_cons, List.flatten_nil, List.append_nil, List.map_map];apply List.ext_getElem
    · simp
    · intro i h1 h2;simp at h1;simp [Nat.add_mod, Nat.mod_eq_of_lt h1, h1]
theorem cv_flatten (zs : List Value) (len : Nat) : (List.replicate len (cv zs)).flatten = cv (List.replicate len zs).flatten := by
  induction len with
  | zero => rfl
  | succ n ih => rw [List.replicate_succ, List.flatten_cons, ih, List.replicate_succ, List.flatten_cons]; simp [cv]
theorem buildSlice_ok (H : HSat B U ρ S w h) (E : ESat N U ρ S w f a) {nid : Nat} (hn : ¬ U nid) (hn0 : ¬ B.U0 nid) {t e : TypeId} {T F : TD} {len : Nat} {ps : List (Nat × DV)} {vs : List (Nat × Value)} {l : List (List DV)}
    (ht : td P t = some T) (hk : T.k = .slice e) (hF : td P e = some F) (hz : F.zero.all vcell = true) (hzl : F.zero.length = F.size) (h0 : 0 < F.size) (hle : len * F.size <= 2 ^ 24)
    (hr : PartsR ρ S w ps vs) (hu : ∀ x, x ∈ ps -> x.2.uses U) (hl : fillS (List.replicate len (cv F.zero)) F.size ps = some l) :
    StepOk P B N U nid f h a w (do pure (Next.value (<- Instr.buildSlice t len vs.toArray))) { pre := True, fact := True, d := .gl nid, e := .add nid (.lst e F.size l) } := by
  obtain ⟨i, d, z, hi, hud, hzz, e1, e2, e3, e4, _⟩ := td_spec ht;obtain ⟨i', d', z', hi', hud', hzz', s1, s2, s3, s4, _⟩ := td_spec hF;have hd : d = .slice e := tk_slice (e4 ▸ hk);subst hd;have hsz : i'.size = F.zero.length := by rw [hzl, s1]
  have hza : z'.cells = F.zero.toArray := by rw [s3]
  have hinit : RelL ρ S w (List.replicate len (cv F.zero)).flatten (List.replicate len F.zero).flatten := by
    rw [cv_flatten]; refine cv_rel ?_;rw [List.all_eq_true]; intro x hx;obtain ⟨r, hr, hxr⟩ := List.mem_flatten.1 hx;rw [List.eq_of_mem_replicate hr] at hxr;exact List.all_eq_true.1 hz x hxr
  obtain ⟨us', q1, q2, q3, q4⟩ := fillS_rel ps vs _ l _ hr hl hinit (fun r hr => by rw [List.eq_of_mem_replicate hr]; simp [cv, hzl]);have q4' : l.length = len := by simpa using q4
  have hul := RelL_length q2;have hfl := flatten_len l F.size q3;have hBL : len <= BL := by
    have : len * 1 <= len * F.size := Nat.mul_le_mul_left len h0;unfold BL; omega
  refine newlst_ok H E hn hn0 (cap := len) (vs := us') (sp := []) (w' := { w with heap := w.heap.push (.cells us'.toArray e) }) (fz := (0, 0)) ?_ (by simp) rfl rfl rfl q2 ?_ (by omega) (by omega) q3 (by simp; rw [<- hul, hfl, q4']) (by simp)
  · have hnot : ¬ 2 ^ 24 < len * F.zero.length := by rw [hzl]; omega
    by_cases hl0 : len = 0
    · subst hl0;have e0 : us'.toArray = #[] := by
        have : us'.length = 0 := by rw [<- hul, hfl, q4']; simp
        rw [List.eq_nil_of_length_eq_zero this]
      have q1' : Instr.fill (fun i => some (i * i'.size, i'.size)) #[] vs = some us'.toArray := by rw [<- s1]; simpa using q1
      have er : Array.map (fun _ => (default : Value)) (Array.range 0) = #[] := Array.ext' (by simp);simp [Instr.buildSlice, r_und hud, r_size hi', newRow, er, q1', q4', e0]
    · have hne : ¬ (len * F.size = 0) := Nat.mul_ne_zero hl0 (by omega);have hcells : ((Array.range (len * F.size)).map fun k => F.zero[k % F.zero.length]?.getD default) = (List.replicate len F.zero).flatten.toArray := by
        rw [<- zeros_eq F.zero len, hzl];apply Array.ext';simp
      have hnot' : ¬ 2 ^ 24 < len * F.size := by omega
      simp only [Instr.buildSlice, Sem.run_bind, r_und hud, Result.andThen_ok, r_size hi', <- s1, Sem.run_ite];simp [hnot', r_zero hi' hzz', hza];rw [if_neg hne, hcells];simp [q1, newRow, q4']
  · refine fillS_uses ps _ l hl ?_ hu;rw [cv_flatten]; exact cv_uses
theorem growBy_le (n : Nat) : ∀ (r c : Nat), c <= 2 * n + 192 -> Builtin.growBy n r c <= 2 * n + 192
  | 0, c, h => h
  | r + 1, c, h => by
    simp only [Builtin.growBy];split
    · exact h
    · exact growBy_le n r _ (by omega)
theorem nextcap_le {need cap : Nat} (h : cap < need) : Builtin.nextslicecap need cap <= 2 * need + 192 := by
  unfold Builtin.nextslicecap;split
  · omega
  · split
    · omega
    · exact growBy_le _ _ _ (by omega)
theorem src_ok (H : HSat B U ρ S w h) {n : Nat} {x : DV} {v : Value} {xs : List (List DV)} (hx : Rel ρ S w x v) (hd : srcD n x h = some xs) :
    (∀ w' : World, (Builtin.lenOf v).run P w' = .ok xs.length w') /\ (∀ r, r ∈ xs -> r.length = n) /\ DV.usesL U xs.flatten /\
    ∃ us : List Value, RelL ρ S w xs.flatten us /\
      ∀ w' : World, (∀ k, k < w.heap.size -> w'.heap[k]? = w.heap[k]?) -> (Builtin.firstCells n xs.length v).run P w' = .ok us.toArray w' := by
  unfold srcD at hd;split at hd
  · next m l =>
    split at hd
    · next hm =>
      subst hm;obtain rfl := Option.some.inj hd;simp only [Rel] at hx;generalize hy : PV.dat m l = y at hx;cases hx with
      | ub b => cases hy
      | map => cases hy
      | lit => cases hy
      | ptr => cases hy
      | dat n' l' a b off cap c hl hcap ha hn hc hr =>
        cases hy;have hrow : ∀ r, r ∈ l.map (List.map DV.p) -> r.length = m := fun r hr => by
          obtain ⟨r', hr', rfl⟩ := List.mem_map.1 hr;obtain ⟨i, hi, rfl⟩ := List.getElem_of_mem hr';have := hn i hi;simpa [hi] using this
        refine ⟨fun w' => by simp [Builtin.lenOf], hrow, ?_, ((List.range (l.length * m)).map fun k => c (k / m) (k % m)), ?_, ?_⟩
        · rw [usesL_iff]; intro d hd;obtain ⟨r, hr, hdr⟩ := List.mem_flatten.1 hd;obtain ⟨r', _, rfl⟩ := List.mem_map.1 hr;obtain ⟨y, _, rfl⟩ := List.mem_map.1 hdr;trivial
        · refine RelL_range (by rw [flatten_len _ m hrow]; simp) fun k hk => ?_
          have hm : 0 < m := by rcases Nat.eq_zero_or_pos m with e | e; · simp [e] at hk
                                · exact e
          have hq : k / m < l.length := Nat.div_lt_of_lt_mul (by rw [Nat.mul_comm]; exact hk);have hrm := Nat.mod_lt k hm;have hk' : k = (k / m) * m + k % m := by rw [Nat.mul_comm]; exact (Nat.div_add_mod k m).symm
          have h1 := hr (k / m) (k % m) hq hrm;have h2 := flatten_at (default : DV) (l.map (List.map DV.p)) m hrow (k / m) (k % m) (by simpa using hq) hrm;rw [<- hk', getD_map_map hq] at h2;rw [h2];have hlen := hn (k / m) hq;have e : ((l.getD (k / m) []).map DV.p).getD (k % m) default = DV.p ((l.getD (k / m) []).getD (k % m) default) := by
            generalize l.getD (k / m) [] = r at hlen ⊢;simp [hlen, hrm]
          rw [e]; simpa only [Rel] using h1
        · intro w' hw';by_cases h0 : 0 < l.length
          · obtain ⟨rfl, hS⟩ := ha h0;have hb := H.sIn b hS;have := run_loadCells (P := P) w' ⟨b, off, none⟩ (l.length * m) (fun k => c (k / m) (k % m)) (fun k hk => by
              have hm : 0 < m := by rcases Nat.eq_zero_or_pos m with e | e; · simp [e] at hk
                                    · exact e
              have hq : k / m < l.length := Nat.div_lt_of_lt_mul (by rw [Nat.mul_comm]; exact hk);have hrm := Nat.mod_lt k hm;have hk' : (k / m) * m + k % m = k := by rw [Nat.mul_comm]; exact Nat.div_add_mod k m
              rw [addr_add, cell?_of_heap (hw' b hb)];have := hc (k / m) (k % m) hq hrm
              rwa [hk'] at this)
            simpa [Builtin.firstCells] using this
          · have : l = [] := List.eq_nil_of_length_eq_zero (by omega);subst this;cases a with
            | none => simp [Builtin.firstCells]
            | some a => simp [Builtin.firstCells, loadCells, loadCellsFrom]
    · cases hd
  · next id =>
    split at hd
    · next t m l hh =>
      split at hd
      · next hm =>
        subst hm;obtain rfl := Option.some.inj hd;simp only [Rel] at hx;subst hx;have h1 := H.heap id _ hh;have h1u := (H.heapU id _ hh).2;simp only [HV.uses] at h1u;simp only [HRel] at h1;obtain ⟨q1, q2, q3, q4, q5⟩ := h1;refine ⟨fun w' => by simp [Builtin.lenOf, q1], q4, h1u, ?_⟩;by_cases h0 : 0 < l.length
        · rcases q5 with q5 | ⟨b, vs, sp, fz, k1, k2, k3, k4, k5⟩
          · omega
          have hvl := RelL_length k3;have hfl := flatten_len l m q4;have hb : b < w.heap.size := by
            rcases Nat.lt_or_ge b w.heap.size with k | k
            · exact k
            · simp [Array.getElem?_eq_none k] at k2
          have hlen0 : (vs ++ sp).length ≥ l.length * m := by simp; omega
          refine ⟨vs, k3, fun w' hw' => ?_⟩;have := run_loadCells (P := P) w' ⟨b, 0, none⟩ (l.length * m) (fun k => vs.getD k default) (fun k hk => by
            rw [addr_add, cell?_of_heap (hw' b hb), Nat.zero_add, cell?_heap k2 (by omega)];simp only [List.getD_eq_getElem?_getD];rw [List.getElem?_append_left (by omega)])
          have hrange : (List.range (l.length * m)).map (fun k => vs.getD k default) = vs := by
            apply List.ext_getElem
            · simp; omega
            · intro i h1 h2; simp [h2]
          rw [hrange] at this;simpa [Builtin.firstCells, k1] using this
        · have : l = [] := List.eq_nil_of_length_eq_zero (by omega);subst this;refine ⟨[], trivial, fun w' _ => ?_⟩;cases (ρ id).a with
          | none => simp [Builtin.firstCells]
          | some a => simp [Builtin.firstCells, loadCells, loadCellsFrom]
      · cases hd
    · cases hd
  · obtain rfl := Option.some.inj hd;obtain rfl := rel_lit hx;exact ⟨fun w' => by simp [Builtin.lenOf], by simp, trivial, [], trivial, fun w' _ => by simp [Builtin.firstCells]⟩
  · next s =>
    split at hd
    · next hn =>
      subst hn;obtain rfl := Option.some.inj hd;obtain rfl := rel_lit hx;have hfl : (s.data.toList.map fun c => [lv (.int .u8 (c.toNat : Int))]).flatten = s.data.toList.map fun c => lv (.int .u8 (c.toNat : Int)) := by
        generalize s.data.toList = l;induction l with
        | nil => rfl
        | cons c l ih => simp [ih]
      refine ⟨fun w' => by simp [Builtin.lenOf], ?_, ?_, s.data.toList.map fun c => .int .u8 (c.toNat : Int), ?_, ?_⟩
      · intro r hr; obtain ⟨c, _, rfl⟩ := List.mem_map.1 hr; rfl
      · rw [hfl, usesL_iff]; intro d hd; obtain ⟨c, _, rfl⟩ := List.mem_map.1 hd; trivial
      · rw [hfl];generalize s.data.toList = l;induction l with
        | nil => trivial
        | cons c l ih => exact ⟨by simp only [lv, Rel]; exact .lit _ rfl, ih⟩
      · intro w' _;simp [Builtin.firstCells];apply Array.ext'; simp
    · cases hd
  · cases hd
theorem RelL_cells {ds : List DV} {us : List Value} (hr : RelL ρ S w ds us) (hc : CellsB ds) : ∀ u, u ∈ us -> vcell u = true := by
  intro u hu;obtain ⟨i, hi, rfl⟩ := List.getElem_of_mem hu;have hl := RelL_length hr;have h1 := RelL_get hr i (by omega);have := h1.cell (hc _ (by rw [List.getD_eq_getElem?_getD, List.getElem?_eq_getElem (by omega : i < ds.length)]; simp));simpa [hi] using this
theorem append_fits {t u e ty : TypeId} {F : TypeInfo} {d' : TypeDesc} (ht : P.underlying t = some (.slice e)) (hu : P.underlying u = some d') (hV : ∀ k, d' ≠ .int k) (hF : P.info? e = some F)
    {base : Option Addr} {len cap n : Nat} {xv : Value} {us : List Value} {w' : World} (hn : ∀ w' : World, (Builtin.lenOf xv).run P w' = .ok n w') (hc : (Builtin.firstCells F.size n xv).run P w = .ok us.toArray w) (hle : len + n <= cap)
    (hst : (match base with | some a => storeCells (a.add (len * F.size)) us | none => pure ()).run P w = .ok () w') :
    (Builtin.append_ #[t, u] ty #[.slice base len cap, xv]).run P w = .ok (.slice base (len + n) cap) w' := by
  simp only [Builtin.append_, List.getElem?_toArray, List.getElem?_cons_zero, List.getElem?_cons_succ, Sem.run_bind, r_und ht, r_und hu, r_size hF, Result.andThen_ok, Sem.run_pure];simp only [Bool.false_eq_true, if_false, hn, Sem.run_bind, Result.andThen_ok, hle, if_true, hc, Bool.not_false];cases base with
  | none => simp only [Sem.run_pure] at hst ⊢; cases hst; rfl
  | some a => simp only at hst; simp [hst]
theorem zeroCells_len (zs : Array Value) (n : Nat) : (Builtin.zeroCells zs n).size = n * zs.size := by simp [Builtin.zeroCells]
theorem append_grows {t u e ty : TypeId} {F : TypeInfo} {d' : TypeDesc} {z : Value} (ht : P.underlying t = some (.slice e)) (hu : P.underlying u = some d') (hV : ∀ k, d' ≠ .int k) (hF : P.info? e = some F) (hz : F.zero = some z)
    {base : Option Addr} {len cap n : Nat} {xv : Value} {us vs : List Value} (hn : ∀ w' : World, (Builtin.lenOf xv).run P w' = .ok n w')
    (hc : ∀ w' : World, (∀ k, k < w.heap.size -> w'.heap[k]? = w.heap[k]?) -> (Builtin.firstCells F.size n xv).run P w' = .ok us.toArray w')
    (hs : ∀ w' : World, (∀ k, k < w.heap.size -> w'.heap[k]? = w.heap[k]?) -> (Builtin.firstCells F.size len (.slice base len cap)).run P w' = .ok vs.toArray w')
    (hgt : cap < len + n) (hb : (len + n) * F.bytes <= 2 ^ 46) (hl : len + n <= 2 ^ 46) (hb0 : F.bytes <= 2 ^ 38) :
    ∃ newCap sp w', (Builtin.append_ #[t, u] ty #[.slice base len cap, xv]).run P w = .ok (.slice (some ⟨w.heap.size, 0, none⟩) (len + n) newCap) w' /\ len + n <= newCap /\
      w'.heap = w.heap.push (.cells (vs ++ us ++ sp).toArray e) /\ sp.length = (newCap - (len + n)) * z.cells.size /\ w'.os = w.os /\ w'.tape = w.tape /\ w'.output = w.output := by
  have hcap := nextcap_le hgt;have hroom : ¬ (2 ^ 48 < Builtin.nextslicecap (len + n) cap * F.bytes) := by
    have : Builtin.nextslicecap (len + n) cap * F.bytes <= (2 * (len + n) + 192) * F.bytes := Nat.mul_le_mul_right _ hcap;rw [Nat.add_mul, Nat.mul_assoc] at this;have : 192 * F.bytes <= 192 * 2 ^ 38 := Nat.mul_le_mul_left _ hb0;omega
  have hle : ¬ (len + n <= cap) := by omega
  have hmax : ¬ (9223372036854775807 < (len : Int) + n) := by omega
  let q := Question.appendCap (len + n) cap e
  refine ⟨q.cut (w.tape w.drawn q), (Builtin.zeroCells z.cells (q.cut (w.tape w.drawn q) - (len + n))).toList, { (w.alloc (.cells (vs ++ us ++ (Builtin.zeroCells z.cells (q.cut (w.tape w.drawn q) - (len + n))).toList).toArray e)) with drawn := w.drawn + 1 }, ?_, ?_, rfl, by rw [Array.length_toList, zeroCells_len], rfl, rfl, rfl⟩
  · have hc' := hc { w with drawn := w.drawn + 1 } (fun _ _ => rfl);have hs' := hs { w with drawn := w.drawn + 1 } (fun _ _ => rfl);have hf : q.forced = false := rfl;have e1 : vs ++ us ++ (Builtin.zeroCells z.cells (q.cut (w.tape w.drawn q) - (len + n))).toList = vs ++ (us ++ (Builtin.zeroCells z.cells (q.cut (w.tape w.drawn q) - (len + n))).toList) := by simp
    simp only [Builtin.append_, List.getElem?_toArray, List.getElem?_cons_zero, List.getElem?_cons_succ, Sem.run_bind, r_und ht, r_und hu, r_size hF, Result.andThen_ok, Sem.run_pure];simp only [Bool.false_eq_true, if_false, hn, Sem.run_bind, Result.andThen_ok, hle, if_true, Bool.not_false];have hmax' : ¬ (((len + n : Nat) : Int) > IntKind.i64.max /\ (False ∨ F.bytes = 0)) := by rw [i64max]; omega
    have hroom' : ¬ (Builtin.nextslicecap (len + n) cap * F.bytes > 2 ^ 48) := by omega
    simp only [r_info hF, Result.andThen_ok, hmax', if_false, Sem.run_bind, hroom', run_choose];have hf' : (Question.appendCap (len + n) cap e).forced = false := rfl;simp only [hf', Bool.false_eq_true, if_false, Result.andThen_ok, run_askRoom, Sem.run_bind, hs', hc', r_zero hF hz, newRow, Sem.run_pure, newObj, Sem.run, World.alloc];simp [q];congr 2; apply Array.ext'; simp
  · simp only [q, Question.cut]; omega
theorem RelL.flat_append {l m : List (List DV)} {us vs : List Value} (h1 : RelL ρ S w l.flatten us) (h2 : RelL ρ S w m.flatten vs) : RelL ρ S w (l ++ m).flatten (us ++ vs) := by
  rw [List.flatten_append]; exact RelL_append h1 h2
mutual
theorem uses_and {V : Nat -> Prop} : ∀ d : DV, d.uses U -> d.uses V -> d.uses fun i => U i /\ V i
  | .p _, _, _ => trivial
  | .ptr _ _, a, b => ⟨a, b⟩
  | .eptr .., a, b => ⟨a, b⟩
  | .gl _, a, b => ⟨a, b⟩
  | .mref _, a, b => ⟨a, b⟩
  | .clo _ cs, a, b => usesL_and cs a b
  | .agg cs, a, b => usesL_and cs a b
  | .tup cs, a, b => usesL_and cs a b
  | .opt _ d, a, b => fun e => uses_and d (a e) (b e)
  | .junk, _, _ => trivial
theorem usesL_and {V : Nat -> Prop} : ∀ l : List DV, DV.usesL U l -> DV.usesL V l -> DV.usesL (fun i => U i /\ V i) l
  | [], _, _ => trivial
  | d :: l, a, b => ⟨uses_and d a.1 b.1, usesL_and l a.2 b.2⟩
end
theorem HRel.at {ρ ρ' : Nat -> Hd} {S V : Nat -> Prop} {w : World} {id id' : Nat} {v : HV} (hid : ρ' id' = ρ id) (hρ : ∀ i, V i -> ρ' i = ρ i) (hu : v.uses V) (h : HRel ρ S w id v) : HRel ρ' S w id' v := by
  cases v with
  | blk t cs =>
    simp only [HRel] at *
    obtain ⟨b, vs, fz, h1, h2, h3, h4⟩ := h;exact ⟨b, vs, fz, by rw [hid]; exact h1, h2, RelL.mono hρ (fun _ k => k) (fun _ _ => rfl) cs vs hu h3, h4⟩
  | lst t n l =>
    simp only [HRel] at *
    rw [hid];obtain ⟨h1, h2, h3, h4, h5⟩ := h;refine ⟨h1, h2, h3, h4, ?_⟩;rcases h5 with h5 | ⟨b, vs, sp, fz, k1, k2, k3, k4, k5⟩
    · exact .inl h5
    · exact .inr ⟨b, vs, sp, fz, k1, k2, RelL.mono hρ (fun _ k => k) (fun _ _ => rfl) _ vs hu k3, k4, k5⟩
  | map es =>
    simp only [HRel] at *
    obtain ⟨b, vs, ck, h1, h2, h3, h4, h5⟩ := h;exact ⟨b, vs, ck, by rw [hid]; exact h1, h2, h3, RelL.mono hρ (fun _ k => k) (fun _ _ => rfl) _ _ hu h4, h5⟩
  | lent n l =>
    simp only [HRel] at *
    rw [hid]; exact h
theorem step_app (H : HSat B U ρ S w h) (E : ESat N U ρ S w f a) {nid id : Nat} (hn : ¬ U nid) (hn0 : ¬ B.U0 nid) (hid0 : ¬ B.U0 id) {s : Sem Next} {v : Value} {q : Prop} {w' : World} {old hv : HV} {g : Hd} {mb : Nat}
    (ho : h id = some old) (hr : s.run P w = .ok (.value v) w')
    (hw : ∀ k, k < w.heap.size -> k ≠ mb -> w'.heap[k]? = w.heap[k]?) (hsz : w.heap.size <= w'.heap.size) (hos : w'.os = w.os) (ht : w'.tape = w.tape) (hout : w'.output = w.output)
    (hmb : hblk (ρ id) old = some mb ∨ w.heap.size <= mb) (hb : ∀ b, hblk g hv = some b -> b = mb)
    (hv' : HRel (upd (upd ρ nid (ρ id)) id g) S w' id hv) (hu : hv.uses fun i => U i /\ i ≠ id) (hval : v = .slice g.a g.len g.cap) :
    StepOk P B N U nid f h a w s { pre := q, fact := True, d := .gl id, e := .app id hv } := by
  have hid : U id := (H.heapU id old ho).1;have hne : id ≠ nid := fun e => hn (e ▸ hid)
  have H1 := H.ren id nid hn hn0 (fun _ _ k => hid0 k);have E1 := E.ren id nid hn;have H2 : HSat B (Uren U id nid) (upd ρ nid (ρ id)) S w (upd (hren id nid h) nid none) := H1.drop fun i x hx => by
    by_cases e : i = nid
    · subst e; simp at hx
    · rwa [upd_ne _ _ e] at hx
  have hidr : ¬ Uren U id nid id := fun k => k.elim (fun k => k.2 rfl) (fun k => hne k)
  have hρ : ∀ i, Uren U id nid i -> upd (upd ρ nid (ρ id)) id g i = upd ρ nid (ρ id) i := fun i hi => by
    have : i ≠ id := fun e => hidr (e ▸ hi)
    exact upd_ne _ _ this
  have hpers : ∀ b, S b -> w'.heap[b]? = w.heap[b]? := fun b hb' => hw b (H.sIn b hb') (fun e => by
    subst e;rcases hmb with k | k
    · exact H.sep id old b ho k hb'
    · have := H.sIn b hb'; omega)
  have hothers : ∀ j u, j ≠ id -> upd (hren id nid h) nid none j = some u -> hblk (upd ρ nid (ρ id) j) u ≠ some mb := by
    intro j u hj hju e;by_cases ejn : j = nid
    · subst ejn; simp at hju
    · rw [upd_ne _ _ ejn] at hju;rw [upd_ne _ _ ejn] at e;simp only [hren, if_neg ejn, if_neg hj, Option.map_eq_some_iff] at hju;obtain ⟨u', hu', rfl⟩ := hju;rw [hblk_ren] at e;rcases hmb with k | k
      · exact hj (H.disj j id u' old mb hu' ho e k)
      · have := hblk_lt (H.heap j u' hu') e; omega
  have hfin := H2.install id hv mb hρ (fun i hi => by
      have : i ≠ id := fun e => hid0 (e ▸ hi)
      exact upd_ne _ _ this) hw hsz hos ht hout
      (fun hS => by
        rcases hmb with k | k
        · exact H.sep id old mb ho k hS
        · have := H.sIn mb hS; omega)
      (by
        rcases hmb with k | k
        · rcases H.prov id old mb ho k with k' | k'
          · exact absurd (H.ownU _ _ k') hid0
          · exact .inr k'
        · exact .inr (.inr (Nat.le_trans H.size k)))
      hothers (by simpa using hb) hv' (HV.uses_mono (fun i k => .inl (.inl ⟨k.1, k.2⟩)) _ hu)
  have hUU : ∀ i, Uren U id nid i ∨ i = id -> U i ∨ i = nid := fun i k => by
    rcases k with (k | k) | k
    · exact .inl k.1
    · exact .inr k
    · exact .inl (k ▸ hid)
  refine ⟨.value v, v, w', _, S, hr, .inl rfl, hfin.used hUU, ?_, ?_, .inl hid, trivial, fun e => (by cases e), fun old2 hv2 e => ?_⟩
  rotate_right
  · simp only [Eff.app.injEq] at e;obtain ⟨rfl, rfl⟩ := e;have hρn : ∀ i, U i -> upd ρ nid g i = ρ i := fun i hi => upd_ne _ _ (fun e => hn (e ▸ hi))
    have hv2 : HRel (upd ρ nid g) S w' nid hv := HRel.at (id := id) (V := fun i => U i /\ i ≠ id) (by simp) (fun i hi => by
      have h2 : i ≠ nid := fun e => hn (e ▸ hi.1)
      rw [upd_ne _ _ h2, upd_ne _ _ hi.2, upd_ne _ _ h2]) hu hv'
    have H3 : HSat B U ρ S w (upd h id none) := H.drop fun i x hx => by
      by_cases e : i = id
      · subst e; simp at hx
      · rwa [upd_ne _ _ e] at hx
    refine ⟨upd ρ nid g, ?_, E.mono hρn (fun _ k => k) hpers fun i k => .inl k, by simp only [Rel, upd_same]; exact hval⟩;refine H3.install nid hv mb hρn (fun i hi => upd_ne _ _ (fun e => hn0 (e ▸ hi))) hw hsz hos ht hout
      (fun hS => by
        rcases hmb with k | k
        · exact H.sep id old mb ho k hS
        · have := H.sIn mb hS; omega)
      (by
        rcases hmb with k | k
        · rcases H.prov id old mb ho k with k' | k'
          · exact absurd (H.ownU _ _ k') hid0
          · exact .inr k'
        · exact .inr (.inr (Nat.le_trans H.size k)))
      ?_ (by simpa using hb) hv2 (HV.uses_mono (fun i k => .inl k.1) _ hu)
    intro j u _ hju e;by_cases ej : j = id
    · subst ej; simp at hju
    · rw [upd_ne _ _ ej] at hju;rcases hmb with k | k
      · exact ej (H.disj j id u old mb hju ho e k)
      · have := hblk_lt (H.heap j u hju) e; omega
  · exact (E1.mono hρ (fun _ k => k) hpers fun i k => hUU i (.inl k))
  · simp only [Rel, upd_same]; exact hval
theorem isNilD_spec {s : DV} (h : isNilD s = true) : s = .p (.lit (.slice none 0 0)) := by
  unfold isNilD at h;split at h
  · rfl
  · cases h
theorem glId_spec {s : DV} {id : Nat} (h : glId s = some id) : s = .gl id := by
  cases s <;> simp [glId] at h;rw [h]
theorem append_ok (H : HSat B U ρ S w h) (E : ESat N U ρ S w f a) {nid pin : Nat} (hn : ¬ U nid) (hn0 : ¬ B.U0 nid) (hpin : ∀ i, B.U0 i -> i < pin) {t u e ty : TypeId} {T V F : TD}
    (ht : td P t = some T) (hk : T.k = .slice e) (hu : td P u = some V) (hV : ∀ k, V.k ≠ .int k) (hF : td P e = some F) (hFz : F.zero.length = F.size) (hFb : F.bytes <= 2 ^ 38) {s x : DV} {sv xv : Value} (hs : Rel ρ S w s sv) (hx : Rel ρ S w x xv) {out : Out}
    (hd : dappend F e nid pin s x h = some out) (hp : out.pre) :
    StepOk P B N U nid f h a w (do pure (Next.value (<- Builtin.append_ #[t, u] ty #[sv, xv]))) out := by
  obtain ⟨i, d, z, hi, hud, hzz, e1, e2, e3, e4, _⟩ := td_spec ht;obtain ⟨i1, d1, z1, hi1, hud1, hzz1, _, _, _, e41, _⟩ := td_spec hu;obtain ⟨i2, d2, z2, hi2, hud2, hzz2, s1, s2, s3, s4, _⟩ := td_spec hF;have hd0 : d = .slice e := tk_slice (e4 ▸ hk);subst hd0;have hVd : ∀ k, d1 ≠ .int k := fun k e => hV k (by rw [e41, e]; rfl)
  have hzs : z2.cells.size = F.size := by rw [<- hFz, s3]; simp
  unfold dappend at hd;split at hd
  · cases hd
  · next xs hxs =>
    obtain ⟨hlen, hrow, hxu, us, hur, hcells⟩ := src_ok H hx hxs;have hul := RelL_length hur;have hxfl := flatten_len xs F.size hrow;by_cases hnil : isNilD s = true
    · rw [if_pos hnil] at hd;obtain rfl := isNilD_spec hnil;obtain rfl := Option.some.inj hd;obtain ⟨hp1, hp2, hp3⟩ := hp;obtain rfl := rel_lit hs;by_cases h0 : xs.length = 0
      · have hxs0 : xs = [] := List.eq_nil_of_length_eq_zero h0;subst hxs0;have hus0 : us = [] := List.eq_nil_of_length_eq_zero (by rw [<- hul]; rfl);subst hus0;have hrun := append_fits (P := P) (ty := ty) (base := none) (len := 0) (cap := 0) hud hud1 hVd hi2 hlen (by rw [<- s1]; exact hcells w (fun _ _ => rfl)) (by simp) (w' := w) (by simp);refine step_add H E hn hn0 (v := .slice none 0 0) (g := { a := none, len := 0, cap := 0 }) (w' := w) (by simp only [List.length_nil, Nat.zero_add] at hrun; simp [hrun]) (fun _ _ => rfl) (Nat.le_refl _) rfl rfl rfl (by simp [hblk]) ?_ trivial ?_ (.inr rfl)
        · simp only [HRel, upd_same]; exact ⟨rfl, by simp [BL], Nat.le_refl _, by simp, .inl trivial⟩
        · simp only [Rel, upd_same]
      · obtain ⟨newCap, sp, w', q1, q2, q3, q4, q5, q6, q7⟩ := append_grows (P := P) (w := w) (ty := ty) (base := none) (len := 0) (cap := 0) (vs := []) hud hud1 hVd hi2 hzz2 hlen (by rw [<- s1]; exact hcells)
          (fun w' _ => by simp [Builtin.firstCells]) (by omega) (by rw [Nat.zero_add, <- s2]; exact hp1) (by omega) (by rw [<- s2]; exact hFb)
        simp only [Nat.zero_add] at q1 q2 q4;refine newlst_ok H E hn hn0 (vs := us) (sp := sp) (cap := newCap) (fz := (0, 0)) q1 (by simpa using q3) q5 q6 q7 hur hxu (by unfold BL; omega) q2 hrow ?_ (by simp);rw [List.length_append, q4, hzs, <- hul, hxfl, <- Nat.add_mul]; congr 1; omega
    · rw [if_neg hnil] at hd;cases hgl : glId s with
      | none => rw [hgl] at hd; cases hd
      | some id =>
      rw [hgl] at hd;obtain rfl := glId_spec hgl;simp only [Rel] at hs;subst hs;cases hh : h id with
      | none => simp only [hh] at hd; cases hd
      | some hv0 =>
      cases hv0 with
      | blk t0 cs0 => simp only [hh] at hd; cases hd
      | map es0 => simp only [hh] at hd; cases hd
      | lent n0 l0 => simp only [hh] at hd; cases hd
      | lst e' m l =>
        simp only [hh] at hd;by_cases hc : m = F.size /\ e' = e /\ pin <= id
        · rw [if_pos hc] at hd;obtain ⟨rfl, rfl, hpid⟩ := hc;obtain rfl := Option.some.inj hd;obtain ⟨hp1, hp2, hp3, hp4, hp5⟩ := hp;have hid0 : ¬ B.U0 id := fun k => by have := hpin id k; omega
          have hidU : U id := (H.heapU id _ hh).1;have hne : id ≠ nid := fun e => hn (e ▸ hidU)
          have h1 := H.heap id _ hh;have h1u := (H.heapU id _ hh).2;have hself := src_ok (P := P) H (n := F.size) (x := .gl id) (v := .slice (ρ id).a (ρ id).len (ρ id).cap) (xs := l) (by simp only [Rel]) (by simp [srcD, hh]);obtain ⟨_, hlrow, hlu, vs0, hvr, hvcells⟩ := hself;have hlfl := flatten_len l F.size hlrow;have hvl := RelL_length hvr;simp only [HRel] at h1;obtain ⟨q1, q2, q3, q4, q5⟩ := h1;have hBL : l.length + xs.length <= BL := by unfold BL; omega
          have hρs : ∀ (g : Hd) (i : Nat), (U i /\ i ≠ id) -> upd (upd ρ nid (ρ id)) id g i = ρ i := fun g i hi => by
            have h2 : i ≠ nid := fun e => hn (e ▸ hi.1)
            rw [upd_ne _ _ hi.2, upd_ne _ _ h2]
          have hnew : DV.usesL (fun i => U i /\ i ≠ id) (l ++ xs).flatten := by
            rw [List.flatten_append];exact usesL_append (usesL_and _ hlu hp3) (usesL_and _ hxu hp4)
          by_cases hfit : l.length + xs.length <= (ρ id).cap
          · by_cases h0 : (ρ id).cap = 0
            · have hl0 : l = [] := List.eq_nil_of_length_eq_zero (by omega);have hxs0 : xs = [] := List.eq_nil_of_length_eq_zero (by omega);subst hxs0 hl0;have hus0 : us = [] := List.eq_nil_of_length_eq_zero (by rw [<- hul]; rfl);subst hus0;have hrun := append_fits (P := P) (ty := ty) (base := (ρ id).a) (len := (ρ id).len) (cap := (ρ id).cap) hud hud1 hVd hi2 hlen (by rw [<- s1]; exact hcells w (fun _ _ => rfl)) (by simp at q1; simp [q1]) (w' := w) (by cases (ρ id).a <;> simp [storeCells]);refine step_app H E hn hn0 hid0 (old := .lst e' F.size []) (w' := w) (g := ρ id) (mb := w.heap.size) hh (by simp only [List.length_nil, Nat.add_zero] at hrun; simp [hrun]) (fun _ _ _ => rfl) (Nat.le_refl _) rfl rfl rfl (.inr (Nat.le_refl _)) (by simp [hblk, h0]) ?_ trivial rfl;simp only [HRel, upd_same];exact ⟨q1, by simp [BL], by simp, by simp, .inl h0⟩
            · rcases q5 with q5 | ⟨b, vs, sp, fz, k1, k2, k3, k4, k5⟩
              · exact absurd q5 h0
              have hvl' := RelL_length k3;have hcapn : (l.length + xs.length) * F.size <= (ρ id).cap * F.size := Nat.mul_le_mul_right _ hfit;rw [Nat.add_mul] at hcapn;have hspl : xs.length * F.size <= sp.length := by rw [List.length_append] at k4; omega
              obtain ⟨w', r1, r2, r3, r4, r5, r6, r7⟩ := run_cells (P := P) b e' fz (l.length * F.size) us 0 (vs ++ sp) w k2 (by rw [List.length_append]; omega) k5 (RelL_cells hur hp5);have hrun := append_fits (P := P) (ty := ty) (base := (ρ id).a) (len := (ρ id).len) (cap := (ρ id).cap) hud hud1 hVd hi2 hlen (by rw [<- s1]; exact hcells w (fun _ _ => rfl)) (by omega) (w' := w') (by
                rw [k1, q1, <- s1]; simp only [addr_add, Nat.zero_add]; exact r1)
              have hput : putV (vs ++ sp) (l.length * F.size) us = (vs ++ us) ++ sp.drop us.length := by
                unfold putV;have e1 : l.length * F.size = vs.length := by omega
                rw [e1, List.take_left, List.drop_length_add_append]
              have hmono : ∀ (ds : List DV) (us : List Value), DV.usesL (fun i => U i /\ i ≠ id) ds -> RelL ρ S w ds us -> RelL (upd (upd ρ nid (ρ id)) id { a := (ρ id).a, len := l.length + xs.length, cap := (ρ id).cap }) S w' ds us :=
                fun ds us hu => RelL.mono (hρs _) (fun _ k => k) (fun c hc => r3 c (fun e => H.sep id _ b hh (by simp [hblk, h0, k1]) (e ▸ hc))) ds us hu
              refine step_app H E hn hn0 hid0 (old := .lst e' F.size l) (w' := w') (g := { a := (ρ id).a, len := l.length + xs.length, cap := (ρ id).cap }) (mb := b) (v := .slice (ρ id).a ((ρ id).len + xs.length) (ρ id).cap) hh (by simp [hrun]) (fun k _ hk => r3 k hk) (by omega) r5 r6 r7 (.inl (by simp [hblk, h0, k1])) (by simp [hblk, h0, k1]) ?_ hnew (by simp [q1]);simp only [HRel, upd_same];refine ⟨by simp, by simpa using hBL, by simpa using hfit, ?_, .inr ⟨b, vs ++ us, sp.drop us.length, fz, k1, by rw [<- hput]; simpa using r2, hmono _ _ hnew (RelL.flat_append k3 hur), ?_, ?_⟩⟩
              · intro r hr;rcases List.mem_append.1 hr with hr | hr
                · exact hlrow r hr
                · exact hrow r hr
              · rw [<- k4]; simp; omega
              · intro k hk;refine k5 k ?_;simp at hk ⊢; omega
          · obtain ⟨newCap, sp, w', r1, r2, r3, r4, r5, r6, r7⟩ := append_grows (P := P) (w := w) (ty := ty) (base := (ρ id).a) (len := (ρ id).len) (cap := (ρ id).cap) (vs := vs0) hud hud1 hVd hi2 hzz2 hlen (by rw [<- s1]; exact hcells)
              (by rw [<- s1, q1]; rw [q1] at hvcells; exact hvcells) (by omega) (by rw [q1, <- s2]; exact hp1) (by omega) (by rw [<- s2]; exact hFb)
            have hold : ∀ k, k < w.heap.size -> w'.heap[k]? = w.heap[k]? := fun k hk => by rw [r3]; exact push_old k hk
            have hmono : ∀ (ds : List DV) (us : List Value), DV.usesL (fun i => U i /\ i ≠ id) ds -> RelL ρ S w ds us -> RelL (upd (upd ρ nid (ρ id)) id { a := some ⟨w.heap.size, 0, none⟩, len := l.length + xs.length, cap := newCap }) S w' ds us :=
              fun ds us hu => RelL.mono (hρs _) (fun _ k => k) (fun c hc => hold c (H.sIn c hc)) ds us hu
            refine step_app H E hn hn0 hid0 (old := .lst e' F.size l) (w' := w') (g := { a := some ⟨w.heap.size, 0, none⟩, len := l.length + xs.length, cap := newCap }) (mb := w.heap.size) (v := .slice (some ⟨w.heap.size, 0, none⟩) ((ρ id).len + xs.length) newCap) hh (by simp [r1]) (fun k hk _ => hold k hk) (by rw [r3]; simp) r5 r6 r7 (.inr (Nat.le_refl _)) ?_ ?_ hnew (by simp [q1])
            · intro b hb; simp only [hblk] at hb; split at hb
              · cases hb
              · simpa using hb.symm
            · simp only [HRel, upd_same];refine ⟨by simp, by simpa using hBL, by simp; omega, ?_, .inr ⟨w.heap.size, vs0 ++ us, sp, (0, 0), rfl, by rw [r3]; simp, hmono _ _ hnew (RelL.flat_append hvr hur), ?_, by simp⟩⟩
              · intro r hr;rcases List.mem_append.1 hr with hr | hr
                · exact hlrow r hr
                · exact hrow r hr
              · rw [List.length_append, List.length_append, r4, hzs, <- hvl, <- hul, hlfl, hxfl, q1, <- Nat.add_mul, <- Nat.add_mul]; congr 1; omega
        · rw [if_neg hc] at hd; cases hd
end
end Go.Eng
