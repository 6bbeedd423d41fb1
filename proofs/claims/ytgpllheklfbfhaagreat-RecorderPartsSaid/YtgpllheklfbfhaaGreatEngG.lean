/-
  A part of the engine that reckons calls at the level of data.
  No condition.
-/

import Derived.Test.YtgpllheklfbfhaaGreatEngF
import Derived.Lib.LazyBuf
import Derived.Laws.IdiomStrings
import Derived.Laws.BytesString
namespace Go.Eng
set_option linter.all false
open Go.RowKit
section
variable [Dfr]
variable {P : Program} {B : Base} {N : Nat} {U : Nat -> Prop} {ρ : Nat -> Hd} {S : Nat -> Prop} {w : World} {f : Nat -> DV} {h : Nat -> Option HV} {a : Act}
theorem pure1_ok (H : HSat B U ρ S w h) (E : ESat N U ρ S w f a) {nid : Nat} {s : Sem Value} {d : DV} {v : Value} {out : Out} (ho : pure1 d = some out)
    (hr : s.run P w = .ok v w) (hd : Rel ρ S w d v) (hu : d.uses U) : StepOk P B N U nid f h a w (do pure (Next.value (<- s))) out := by
  have := pure1_spec ho; subst this;exact step_no H E (v := v) (by simp [hr]) hd hu trivial
theorem lit_rel {v : Value} (hv : vcell v = true) : Rel ρ S w (lv v) v := by simp only [lv, Rel]; exact .lit v hv
theorem eqIn_bool {t : TypeId} (hu : P.underlying t = some .bool) (n : Nat) (p q : Bool) : (Op.equalIn (n + 1) t (.bool p) (.bool q)).run P w = .ok (p == q) w := by
  rw [Op.equalIn]; simp [r_und hu]
theorem equal_bool {t : TypeId} (hu : P.underlying t = some .bool) (p q : Bool) : (Op.equal t (.bool p) (.bool q)).run P w = .ok (p == q) w := eqIn_bool hu 9999 p q
theorem binop_ok (H : HSat B U ρ S w h) (E : ESat N U ρ S w f a) {nid : Nat} {op : BinOp} {t : TypeId} {ox oy : Operand} {x y : DV} {u v : Value} {out : Out}
    (hx : Rel ρ S w x u) (hy : Rel ρ S w y v) (hd : dbinop P op t x y = some out) (hp : out.pre) (hagg : ∀ xs ys, x = .agg xs -> y = .agg ys -> ∀ T, td P t = some T -> T.k.isAgg = true -> (∀ r, deq P 20 t xs ys = some r -> (Op.equal t u v).run P w = .ok r w)) :
    StepOk P B N U nid f h a w (do pure (Next.value (<- (eqGuard op t ox oy u v >>= fun _ => binOp op t u v)))) out := by
  unfold dbinop at hd;split at hd
  · next p q =>
    obtain rfl := rel_lit hx;obtain rfl := rel_lit hy;have hpc : vcell u = true := by simp only [Rel] at hx; exact hx.cell
    split at hd
    · next q' v' hq =>
      obtain rfl := Option.some.inj hd;obtain ⟨h1, h2⟩ := dbin_run (P := P) (t := t) hq hp w;refine step_no H E (v := v') ?_ (by simp only [Rel]; exact .lit _ h2) trivial trivial;simp [guard_run hpc (dbin_ne hq).2, h1]
    · split at hd
      · next p q _ =>
        split at hd
        · next hk _ =>
          obtain ⟨T, hT, hTk⟩ := Option.map_eq_some_iff.1 hk;obtain ⟨i, d, z, hi, hu, hz, e1, e2, e3, e4, _⟩ := td_spec hT;have hdb : d = .bool := tk_bool (e4 ▸ hTk);subst hdb;refine pure1_ok H E hd (v := .bool (p == q)) ?_ (lit_rel rfl) trivial;have hb : (binOp .eql t (.bool p) (.bool q)).run P w = .ok (.bool (p == q)) w := by simp only [binOp, Sem.run_bind, equal_bool hu, Result.andThen_ok, Sem.run_pure]
          first | exact hb | (rw [Sem.run_bind, guard_run (u := .bool p) rfl (by simp)]; exact hb)
        · next hk _ =>
          obtain ⟨T, hT, hTk⟩ := Option.map_eq_some_iff.1 hk;obtain ⟨i, d, z, hi, hu, hz, e1, e2, e3, e4, _⟩ := td_spec hT;have hdb : d = .bool := tk_bool (e4 ▸ hTk);subst hdb;refine pure1_ok H E hd (v := .bool (!(p == q))) ?_ (lit_rel rfl) trivial;have hb : (binOp .neq t (.bool p) (.bool q)).run P w = .ok (.bool (!(p == q))) w := by simp only [binOp, Sem.run_bind, equal_bool hu, Result.andThen_ok, Sem.run_pure]
          first | exact hb | (rw [Sem.run_bind, guard_run (u := .bool p) rfl (by simp)]; exact hb)
        · cases hd
      · cases hd
  · next xs ys =>
    have hagg' := hagg xs ys rfl rfl;have hxu : ∃ c, u = .agg c := by simp only [Rel] at hx; obtain ⟨vs, rfl, _⟩ := hx; exact ⟨_, rfl⟩
    have hyv : ∃ c, v = .agg c := by simp only [Rel] at hy; obtain ⟨vs, rfl, _⟩ := hy; exact ⟨_, rfl⟩
    obtain ⟨c, rfl⟩ := hxu;obtain ⟨c', rfl⟩ := hyv;split at hd
    · next T hT =>
      obtain ⟨i, d, z, hi, hu, hz, e1, e2, e3, e4, _, e6, _⟩ := td_spec hT;by_cases hg : (T.eqg || !T.k.isAgg) = true
      · rw [if_pos hg] at hd; cases hd
      · rw [if_neg hg] at hd;simp only [Bool.or_eq_true, Bool.not_eq_true', not_or, Bool.not_eq_true, Bool.not_eq_false] at hg;have hg' : P.eqGuardType P.depth t = false := by rw [<- e6]; exact hg.1
        have hagg' := hagg' T hT hg.2;split at hd
        · next r hr =>
          refine pure1_ok (d := lb r) (v := .bool r) H E hd ?_ (lit_rel rfl) trivial;simp [eqGuard, hg', binOp, hagg' r hr]
        · next r hr =>
          refine pure1_ok (d := lb (!r)) (v := .bool (!r)) H E hd ?_ (lit_rel rfl) trivial;simp [eqGuard, hg', binOp, hagg' r hr]
        · cases hd
    · cases hd
  · next n l y =>
    split at hd
    · next hn =>
      have hyn : y = .lit (.slice none 0 0) := by
        unfold isNilP at hn;split at hn
        · rfl
        · cases hn
      subst hyn;obtain rfl := rel_lit hy;unfold dnilcmp at hd;have key : ∃ a len cap, u = .slice a len cap /\ (l ≠ [] -> a.isNone = false) := by
        simp only [Rel] at hx;generalize hz : PV.dat n l = z at hx;cases hx with
        | ub b => cases hz
        | map => cases hz
        | lit v' h => cases hz
        | ptr => cases hz
        | dat n' l' a b off cap c hl hcap ha hn hc hr =>
          cases hz;refine ⟨a, _, cap, rfl, fun hne => ?_⟩;have := (ha (List.length_pos_iff.2 hne)).1;rw [this]; rfl
      obtain ⟨a, len, cap, rfl, hne⟩ := key;have hg : (eqGuard op t ox oy (.slice a len cap) (.slice none 0 0)).run P w = .ok () w := guard_run (u := .slice a len cap) rfl (by simp) w;have fin : ∀ (b : Bool), Rel ρ S w (nilc l b) (.bool (if l = [] then (if b then !a.isNone else a.isNone) else b)) := fun b => by
        unfold nilc;by_cases h0 : l = []
        · subst h0; simp only [List.isEmpty_nil, if_true, Rel]; exact .ub _
        · have : l.isEmpty = false := by cases l <;> simp_all
          rw [this, if_neg h0]; exact lit_rel rfl
      split at hd
      · next e hk =>
        obtain ⟨T, hT, hTk⟩ := Option.map_eq_some_iff.1 hk;obtain ⟨i, d, z, hi, hu, hz, e1, e2, e3, e4, _⟩ := td_spec hT;have hds : d = .slice e := tk_slice (e4 ▸ hTk);subst hds;refine pure1_ok H E hd (v := .bool a.isNone) ?_ ?_ ?_
        · have hb := _root_.Go.run_eql_slice_nil (P := P) w t e a len cap hu;rw [Sem.run_bind, hg]; exact hb
        · have := fin false;by_cases h0 : l = []
          · simpa [h0] using this
          · simpa [h0, hne h0] using this
        · unfold nilc; split <;> trivial
      · next e hk =>
        obtain ⟨T, hT, hTk⟩ := Option.map_eq_some_iff.1 hk;obtain ⟨i, d, z, hi, hu, hz, e1, e2, e3, e4, _⟩ := td_spec hT;have hds : d = .slice e := tk_slice (e4 ▸ hTk);subst hds;refine pure1_ok H E hd (v := .bool (!a.isNone)) ?_ ?_ ?_
        · have hb := _root_.Go.run_neq_slice_nil (P := P) w t e a len cap hu;rw [Sem.run_bind, hg]; exact hb
        · have := fin true;by_cases h0 : l = []
          · simpa [h0] using this
          · simpa [h0, hne h0] using this
        · unfold nilc; split <;> trivial
      · cases hd
    · cases hd
  · cases hd
theorem len_ok (H : HSat B U ρ S w h) (E : ESat N U ρ S w f a) {nid : Nat} {t ty : TypeId} {T : TD} {x : DV} {v : Value} {out : Out} (ht : td P t = some T) (hk : (T.k = .str /\ ∃ s, x = .p (.lit (.string s))) ∨ ((∃ e, T.k = .slice e) /\ ∀ s, x ≠ .p (.lit (.string s))))
    (hx : Rel ρ S w x v) (hd : dlen x h = some out) : StepOk P B N U nid f h a w (do pure (Next.value (<- Builtin.len_ #[t] ty #[v]))) out := by
  obtain ⟨i, d, z, hi, hu, hz, e1, e2, e3, e4, _⟩ := td_spec ht;rcases hk with ⟨hk, s, rfl⟩ | ⟨⟨e, hk⟩, hns⟩
  · have hds : d = .string := tk_str (e4 ▸ hk);subst hds;obtain rfl := rel_lit hx;refine pure1_ok H E hd (v := goInt s.size) ?_ (lit_rel rfl) trivial;simp [Builtin.len_, r_und hu, goInt]
  · have hds : d = .slice e := tk_slice (e4 ▸ hk);subst hds;have key : ∀ a n c, v = .slice a n c -> (Builtin.len_ #[t] ty #[v]).run P w = .ok (goInt n) w := fun a n c e => by
      subst e; simp [Builtin.len_, r_und hu]
    unfold dlen at hd;split at hd
    · next m l =>
      obtain rfl := Option.some.inj hd;simp only [Rel] at hx;generalize hy : PV.dat m l = y at hx;cases hx with
      | ub b => cases hy
      | map => cases hy
      | lit => cases hy
      | ptr => cases hy
      | dat n' l' a b off cap c hl hcap ha hn hc hr =>
        cases hy;exact step_no H E (v := goInt l.length) (by simp [key _ _ _ rfl]) (lit_rel rfl) trivial hl
    · next s => exact absurd rfl (hns s)
    · obtain rfl := rel_lit hx;exact pure1_ok H E hd (v := goInt 0) (key _ _ _ rfl) (lit_rel rfl) trivial
    · next id =>
      simp only [Rel] at hx;subst hx;split at hd
      · next tt m l hh =>
        obtain rfl := Option.some.inj hd;have h1 := H.heap id _ hh;simp only [HRel] at h1;exact step_no H E (v := goInt l.length) (by rw [Sem.run_bind, key _ _ _ rfl]; simp [h1.1]) (lit_rel rfl) trivial h1.2.1
      · next m l hh =>
        obtain rfl := Option.some.inj hd;have h1 := H.heap id _ hh;simp only [HRel] at h1;exact step_no H E (v := goInt l.length) (by rw [Sem.run_bind, key _ _ _ rfl]; simp [h1.1]) (lit_rel rfl) trivial h1.2.1
      · cases hd
    · cases hd
theorem minmax_ok (H : HSat B U ρ S w h) (E : ESat N U ρ S w f a) {nid : Nat} {mx : Bool} {x y : DV} {u v : Value} {out : Out} {ts : Array TypeId} {ty : TypeId} (hx : Rel ρ S w x u) (hy : Rel ρ S w y v) (hd : dminmax mx x y = some out) :
    StepOk P B N U nid f h a w (do pure (Next.value (<- (if mx then Builtin.max_ ts ty #[u, v] else Builtin.min_ ts ty #[u, v])))) out := by
  unfold dminmax at hd;split at hd
  · split at hd
    · next hk =>
      subst hk;obtain rfl := rel_lit hx;obtain rfl := rel_lit hy;refine pure1_ok H E hd ?_ (lit_rel rfl) trivial;cases mx <;> simp [Builtin.max_, Builtin.min_, Builtin.max2, Builtin.min2]
    · cases hd
  · cases hd
theorem nil_ok (H : HSat B U ρ S w h) (E : ESat N U ρ S w f a) {nid : Nat} {x : DV} {v : Value} {out : Out} {o : Oper} {ox : Operand} (ho : o.op = .nilCheck ox) (hv : a.eval ox = v) (hx : Rel ρ S w x v) (hxu : x.uses U) (hd : dnil x = some out) :
    StepOk P B N U nid f h a w (execOp a.eval o) out := by
  have key : ∀ b, v = .pointer (some b) -> (execOp a.eval o).run P w = .ok (.value v) w := fun b e => by
    subst e; simp [execOp, ho, hv]
  unfold dnil at hd;split at hd
  · have := pure1_spec hd; subst this;have hx0 := hx;simp only [Rel] at hx; obtain ⟨b, hb, e⟩ := hx;exact step_no H E (key _ e) hx0 hxu trivial
  · have := pure1_spec hd; subst this;have hx0 := hx;simp only [Rel] at hx; obtain ⟨b, hb, e⟩ := hx;exact step_no H E (key _ e) hx0 hxu trivial
  · have := pure1_spec hd; subst this;have hx0 := hx;simp only [Rel] at hx;have : ∃ b, v = .pointer (some b) := by
      generalize hy : PV.ptr _ = y at hx;cases hx with
      | ub b => cases hy
      | map => cases hy
      | lit => cases hy
      | dat => cases hy
      | ptr => exact ⟨_, rfl⟩
    obtain ⟨b, e⟩ := this;exact step_no H E (key _ e) hx0 hxu trivial
  · have := pure1_spec hd; subst this;have hx0 := hx;simp only [Rel] at hx; obtain ⟨vs, e, _⟩ := hx;refine step_no H E (v := v) ?_ hx0 hxu trivial;subst e;simp only [execOp, ho, hv];rfl
  · cases hd
theorem conv_ok (H : HSat B U ρ S w h) (E : ESat N U ρ S w f a) {nid : Nat} {s t : TypeId} {T T' : TD} {x : DV} {v : Value} {out : Out} (hs : td P s = some T') (ht : td P t = some T) (hx : Rel ρ S w x v) (hd : dconv T.k x = some out) :
    StepOk P B N U nid f h a w (do pure (Next.value (<- convert s t v))) out := by
  obtain ⟨i, d, z, hi, hu, hz, e1, e2, e3, e4, _⟩ := td_spec ht;obtain ⟨i', d', z', hi', hu', _⟩ := td_spec hs;unfold dconv at hd;split at hd
  · next k _ n hk =>
    have hdk := tk_int (e4 ▸ hk);subst hdk;obtain rfl := rel_lit hx;refine pure1_ok H E hd (v := .int k (k.wrap n)) ?_ (lit_rel rfl) trivial;simp [convert, r_und hu, r_und hu', Conv.intToInt]
  · next s' hk =>
    have hdk := tk_str (e4 ▸ hk);subst hdk;obtain rfl := rel_lit hx;refine pure1_ok H E hd (v := .string s') ?_ (lit_rel rfl) trivial;simp [convert, r_und hu, r_und hu']
  · cases hd
theorem HSat.addS (H : HSat B U ρ S w h) {w' : World} {b0 : Nat} (hw : ∀ k, k < w.heap.size -> w'.heap[k]? = w.heap[k]?) (hsz : w.heap.size <= w'.heap.size) (hos : w'.os = w.os) (ht : w'.tape = w.tape) (ho : w'.output = w.output) (h1 : w.heap.size <= b0) (h2 : b0 < w'.heap.size) :
    HSat B U ρ (fun b => S b ∨ b = b0) w' h := by
  have G := H.grow hw hsz hos ht ho;exact {
    heap := fun i v hi => (G.heap i v hi).mono (U := U) (fun _ _ => rfl) (fun _ k => .inl k) (fun _ _ => rfl) (G.heapU i v hi).1 (G.heapU i v hi).2 (fun _ _ => rfl)
    heapU := G.heapU
    disj := G.disj
    sep := fun i v b hi hb hS => by
      rcases hS with k | k
      · exact G.sep i v b hi hb k
      · have := hblk_lt (H.heap i v hi) hb; omega
    prov := G.prov
    sIn := fun b hb => by
      rcases hb with k | k
      · exact G.sIn b k
      · omega
    sProv := fun b hb => by
      rcases hb with k | k
      · exact G.sProv b k
      · exact .inr (.inr (by have := H.size; omega))
    sOld := fun b hb => .inl (G.sOld b hb)
    pin := G.pin
    ownU := G.ownU
    os := G.os
    tape := G.tape
    output := G.output
    size := G.size
    keep := G.keep }
theorem convS_ok (H : HSat B U ρ S w h) (E : ESat N U ρ S w f a) {nid : Nat} {s t : TypeId} {T T' : TD} {x : DV} {v : Value} {out : Out} (hs : td P s = some T') (ht : td P t = some T) (hx : Rel ρ S w x v) (hk1 : tkStr T'.k = true) (hk2 : tkByte P T.k = true)
    (hd : dstrB x = some out) (hp : out.pre) : StepOk P B N U nid f h a w (do pure (Next.value (<- convert s t v))) out := by
  obtain ⟨i, d, z, hi, hu, hz, e1, e2, e3, e4, _⟩ := td_spec ht;obtain ⟨i', d', z', hi', hu', hz', e1', e2', e3', e4', _⟩ := td_spec hs;have hds : d' = .string := by
    refine tk_str (d := d') ?_;rw [<- e4'];unfold tkStr at hk1;split at hk1
    · next e => exact e
    · cases hk1
  subst hds;unfold tkByte at hk2;split at hk2
  · next e hke =>
    split at hk2
    · next F hF =>
      split at hk2
      · next hFk =>
        have hdd : d = .slice e := tk_slice (e4 ▸ hke);subst hdd;obtain ⟨i2, d2, z2, hi2, hu2, hz2, s1, s2, s3, s4, _⟩ := td_spec hF;have hd2 : d2 = .int .u8 := tk_int (s4 ▸ hFk);subst hd2;unfold dstrB at hd;split at hd
        · next str =>
          cases hd;dsimp only at hp;obtain rfl := rel_lit hx;have hrun := run_bytes_of_string (P := P) w s t e str hu' hu hu2;generalize hcap : grownCap w str.size 0 e = cap at hrun;have hle : str.size <= cap := by rw [<- hcap]; exact grownCap_ge _ _ _ _
          obtain ⟨w0, hw0, ho1, ho2, ho3, hrun⟩ : ∃ w0 : World, w0.heap = w.heap.push (.cells (bytesRow str cap) e ((bytesRow str cap).size, (bytesRow str cap).size + 1)) /\ w0.os = w.os /\ w0.tape = w.tape /\ w0.output = w.output /\
              (convert s t (.string str)).run P w = .ok (.slice (some ⟨w.heap.size, 0, none⟩) str.size cap) w0 := ⟨w.drew.alloc (.cells (bytesRow str cap) e ((bytesRow str cap).size, (bytesRow str cap).size + 1)), rfl, rfl, rfl, rfl, hrun⟩
          have hold : ∀ k, k < w.heap.size -> w0.heap[k]? = w.heap[k]? := fun k hk => by rw [hw0]; exact push_old k hk
          have hsz : w0.heap.size = w.heap.size + 1 := by rw [hw0]; simp
          have hb0 : w0.heap[w.heap.size]? = some (.cells (List.toArray (bytesRow str cap).toList) e ((bytesRow str cap).size, (bytesRow str cap).size + 1)) := by rw [hw0]; simp
          have hlen : (str.data.toList.map byRow).length = str.size := by simp
          have hrow : ∀ i, i < str.size -> (str.data.toList.map byRow).getD i [] = [.lit (.int .u8 ((str.data.toList.getD i 0).toNat : Int))] := fun i hi => by
            have h3 : i < str.data.toList.length := by simpa using hi
            simp only [List.getD_eq_getElem?_getD, List.getElem?_map, List.getElem?_eq_getElem h3];rfl
          refine ⟨.value (.slice (some ⟨w.heap.size, 0, none⟩) str.size cap), .slice (some ⟨w.heap.size, 0, none⟩) str.size cap, w0, ρ, fun b => S b ∨ b = w.heap.size, by simp [hrun], .inl rfl, ?_, ?_, ?_, trivial, trivial, fun _ => trivial, fun _ _ e => (by cases e)⟩
          · exact (H.addS hold (by omega) ho1 ho2 ho3 (Nat.le_refl _) (by omega)).used fun _ k => .inl k
          · exact E.mono (fun _ _ => rfl) (fun _ k => .inl k) (fun b hb => hold b (H.sIn b hb)) fun _ k => .inl k
          · simp only [Rel];have := PRel.dat (S := fun b => S b ∨ b = w.heap.size) (w := w0) 1 (str.data.toList.map byRow) (some ⟨w.heap.size, 0, none⟩) w.heap.size 0 cap (fun i _ => .int .u8 ((str.data.toList.getD i 0).toNat : Int))
              (by rw [hlen]; exact hp) (by rw [hlen]; exact hle) (fun _ => ⟨rfl, .inr rfl⟩) (fun i hi => by
                rw [hlen] at hi;rw [hrow i hi]; rfl) (fun i j hi hj => ?_) (fun i j hi hj => ?_)
            · rw [hlen] at this; exact this
            · rw [hlen] at hi;have hb := bytesRow_at str cap i hi;have hj0 : j = 0 := by omega
              subst hj0;have hil : i < (bytesRow str cap).toList.length := by
                rcases Nat.lt_or_ge i (bytesRow str cap).size with q | q
                · simpa using q
                · rw [Array.getElem?_eq_none q] at hb; cases hb
              have h3 : i < str.data.toList.length := by simpa using hi
              have hc := cell?_heap hb0 hil;simp only [Nat.mul_one, Nat.add_zero, Nat.zero_add];rw [hc];congr 1
              rw [List.getD_eq_getElem?_getD, Array.getElem?_toList, hb];simp only [Option.getD_some, List.getD_eq_getElem?_getD, List.getElem?_eq_getElem h3];simp
            · rw [hlen] at hi;have hj0 : j = 0 := by omega
              subst hj0;rw [hrow i hi]; exact .lit _ rfl
        · cases hd
      · cases hk2
    · cases hk2
  · cases hk2
theorem foldl_push : ∀ (ns : List Int) (s : ByteArray), ns.foldl (fun r n => r.push (UInt8.ofNat n.toNat)) s = ⟨s.data ++ (ns.map fun n => UInt8.ofNat n.toNat).toArray⟩
  | [], s => by simp
  | n :: ns, s => by
    simp only [List.foldl_cons, foldl_push ns, List.map_cons];refine congrArg ByteArray.mk ?_;simp [ByteArray.push]
theorem convB_ok (H : HSat B U ρ S w h) (E : ESat N U ρ S w f a) {nid : Nat} {s t : TypeId} {T T' : TD} {l : List (List PV)} {x : DV} {v : Value} (hs : td P s = some T') (ht : td P t = some T) (hx : Rel ρ S w x v) (hl : datRows x = some l)
    (hb : tkByte P T'.k = true) (hst : tkStr T.k = true) (hp : byteRows l) : StepOk P B N U nid f h a w (do pure (Next.value (<- convert s t v))) { pre := byteRows l, fact := True, d := ls (byteStr l), e := .no } := by
  obtain ⟨i, d, z, hi, hu, hz, e1, e2, e3, e4, _⟩ := td_spec ht;obtain ⟨i', d', z', hi', hu', _, _, _, _, e4', _⟩ := td_spec hs;have hd : T.k = .str := by
    cases hk : T.k <;> simp only [hk, tkStr] at hst <;> first | rfl | cases hst
  have hdk := tk_str (e4 ▸ hd);subst hdk;unfold tkByte at hb;split at hb
  · next e hk =>
    have hdk' := tk_slice (e4' ▸ hk);subst hdk';split at hb
    · next F hF =>
      split at hb
      · next hFk =>
        obtain ⟨i2, d2, z2, _, hu2, _, _, _, _, e42, _⟩ := td_spec hF;have hdk2 := tk_int (e42 ▸ hFk);subst hdk2;obtain rfl : x = .p (.dat 1 l) := by
          unfold datRows at hl;split at hl
          · obtain rfl := Option.some.inj hl; rfl
          · cases hl
        simp only [Rel] at hx;cases hx with
        | dat _ _ a b off cap c hlen hcap ha hn hc hr =>
          have hbyte : ∀ k, k < l.length -> ∃ n : Int, l.getD k [] = [.lit (.int .u8 n)] := fun k hk => by
            have hm : l.getD k [] ∈ l := by simp [List.getD_eq_getElem?_getD, List.getElem?_eq_getElem hk]
            have := hp _ hm;unfold isByteRow at this;split at this
            · next n e => exact ⟨n, e⟩
            · exact this.elim
          have hcv : ∀ k, k < l.length -> c k 0 = .int .u8 (rowInt (l.getD k [])) := fun k hk => by
            obtain ⟨n, e⟩ := hbyte k hk;have h1 := hr k 0 hk (by omega);rw [e] at h1 ⊢;exact rel_lit (ρ := ρ) (by simp only [Rel]; exact h1)
          refine step_no H E (v := .string (byteStr l)) ?_ (lit_rel rfl) trivial trivial;have key : (Conv.bytesToString (.slice a l.length cap)).run P w = .ok (.string (byteStr l)) w := by
            cases a with
            | none =>
              have : l = [] := List.eq_nil_of_length_eq_zero (by
                rcases Nat.eq_zero_or_pos l.length with k | k
                · exact k
                · exact absurd (ha k).1 (by simp))
              subst this;simp [Conv.bytesToString, byteStr, bytesOf, Sem.run_pure]; rfl
            | some ad =>
              have hload : (loadCells ad l.length).run P w = .ok ((l.map rowInt).map (Value.int .u8)).toArray w := by
                rcases Nat.eq_zero_or_pos l.length with k | k
                · have : l = [] := List.eq_nil_of_length_eq_zero k;subst this;simp [loadCells, loadCellsFrom]
                · obtain ⟨hae, _⟩ := ha k;obtain rfl := Option.some.inj hae;rw [run_loadCells (P := P) w ⟨b, off, none⟩ l.length (fun k => c k 0) (fun j hj => by rw [addr_add]; simpa using hc j 0 hj (by omega))];congr 2
                  refine List.ext_getElem (by simp) fun j h1 h2 => ?_
                  have hj : j < l.length := by simpa using h1
                  have := hcv j hj;simp only [List.getElem_map, List.getElem_range];rw [this];simp [List.getD_eq_getElem?_getD, List.getElem?_eq_getElem hj]
              rw [run_bytesToString w ad l.length cap _ hload];rw [foldl_push];congr 2
              simp only [byteStr, bytesOf, ByteArray.empty, List.map_map];refine congrArg ByteArray.mk ?_;rw [show (ByteArray.emptyWithCapacity 0).data = #[] from rfl, Array.empty_append];rfl
          rw [Sem.run_bind, run_convert_bytes_string w s t e a l.length cap hu' hu2 hu, key];rfl
      · cases hb
    · cases hb
  · cases hb
theorem unop_ok (H : HSat B U ρ S w h) (E : ESat N U ρ S w f a) {nid : Nat} {op : UnOp} {x : DV} {v : Value} {out : Out} (hx : Rel ρ S w x v) (hd : dunop op x = some out) :
    StepOk P B N U nid f h a w (do pure (Next.value (<- Op.unary op v))) out := by
  unfold dunop at hd;split at hd
  · split at hd
    · next r hr =>
      obtain rfl := rel_lit hx;obtain ⟨h1, h2⟩ := dun_run (P := P) hr w;exact pure1_ok H E hd h1 (lit_rel h2) trivial
    · cases hd
  · cases hd
theorem ext_ok (H : HSat B U ρ S w h) (E : ESat N U ρ S w f a) {nid : Nat} {x : DV} {v : Value} {i : Nat} {out : Out} (hx : Rel ρ S w x v) (hxu : x.uses U) (hd : dext x i = some out) :
    StepOk P B N U nid f h a w (do pure (Next.value (<- Instr.extract v i))) out := by
  unfold dext at hd;split at hd
  · next cs =>
    simp only [Rel] at hx;obtain ⟨vs, rfl, hr⟩ := hx;split at hd
    · next d hd' =>
      have hlt : i < cs.length := by
        rcases Nat.lt_or_ge i cs.length with k | k
        · exact k
        · simp [List.getElem?_eq_none k] at hd'
      have hlen := RelL_length hr;have h1 := RelL_get hr i hlt;have e : cs.getD i default = d := by rw [List.getD_eq_getElem?_getD, hd']; rfl
      rw [e] at h1;obtain ⟨x, hv⟩ : ∃ x, vs[i]? = some x := ⟨vs[i], by simp [hlen ▸ hlt]⟩;have hx : vs.getD i default = x := by rw [List.getD_eq_getElem?_getD, hv]; rfl
      rw [hx] at h1;refine pure1_ok H E hd (v := x) ?_ h1 (usesL_iff.1 hxu d (List.mem_of_getElem? hd'));simp [Instr.extract, hv]
    · cases hd
  · cases hd
theorem index_ok (H : HSat B U ρ S w h) (E : ESat N U ρ S w f a) {nid : Nat} {t : TypeId} {T : TD} {x : DV} {v : Value} {k : IntKind} {n : Int} {out : Out} (ht : td P t = some T) (hk : T.k = .str) (hx : Rel ρ S w x v) (hd : dindex x n = some out) (hp : out.pre) :
    StepOk P B N U nid f h a w (do pure (Next.value (<- Instr.index t v (.int k n)))) out := by
  obtain ⟨i, d, z, hi, hu, hz, e1, e2, e3, e4, _⟩ := td_spec ht;have hds : d = .string := tk_str (e4 ▸ hk);subst hds;unfold dindex at hd;split at hd
  · next s =>
    obtain rfl := rel_lit hx;obtain rfl := Option.some.inj hd;obtain ⟨p1, p2⟩ := hp;have hlt : n.toNat < s.size := by omega
    have hget : s[n.toNat]? = some s[n.toNat] := by simp [hlt]
    have hval : s.data.toList.getD n.toNat 0 = s[n.toNat] := by
      have : n.toNat < s.data.toList.length := by simpa using hlt
      rw [List.getD_eq_getElem?_getD, List.getElem?_eq_getElem this];simp; rfl
    refine step_no H E (v := .int .u8 ((s.data.toList.getD n.toNat 0).toNat : Int)) ?_ (lit_rel rfl) trivial trivial;rw [hval];simp [Instr.index, asIntOf, r_und hu, p1, hget]
  · cases hd
theorem fieldAt_ok (H : HSat B U ρ S w h) (E : ESat N U ρ S w f a) {nid : Nat} {t : TypeId} {T F : TD} {fs : List (Nat × TypeId)} {k off : Nat} {ft : TypeId} {x d : DV} {v : Value} {out : Out}
    (ht : td P t = some T) (hk : T.k = .struct fs) (hf : fs[k]? = some (off, ft)) (hF : td P ft = some F) (h0 : F.size ≠ 0) (hx : Rel ρ S w x v) (hxu : x.uses U) (hd : dfieldAddr off x = some d) (ho : pure1 d = some out) :
    StepOk P B N U nid f h a w (do pure (Next.value (<- Instr.fieldAt t v k))) out := by
  obtain ⟨i, dd, z, hi, hu, hz, e1, e2, e3, e4, _⟩ := td_spec ht;obtain ⟨i2, d2, z2, hi2, hu2, hz2, s1, _⟩ := td_spec hF;obtain ⟨g, rfl, rfl, _⟩ := tk_structInv (e4 ▸ hk);rw [List.getElem?_map] at hf;obtain ⟨fd, hfd, hfe⟩ := Option.map_eq_some_iff.1 hf;simp only [Prod.mk.injEq] at hfe;obtain ⟨rfl, rfl⟩ := hfe;have hgk : g[k]? = some fd := by simpa using hfd
  have key : ∀ b o, v = .pointer (some ⟨b, o, none⟩) -> (Instr.fieldAt t v k).run P w = .ok (.pointer (some ⟨b, o + fd.offset, none⟩)) w := fun b o e => by
    subst e;have hne : ¬ i2.size = 0 := by rw [<- s1]; exact h0
    simp [Instr.fieldAt, r_und hu, hgk, Instr.sureAddr, fieldPlace, r_size hi2, hne, addr_add]
  unfold dfieldAddr at hd;split at hd
  · obtain rfl := Option.some.inj hd;simp only [Rel] at hx; obtain ⟨b, hb, e⟩ := hx;exact pure1_ok H E ho (key _ _ e) (by simp only [Rel]; exact ⟨b, hb, rfl⟩) hxu
  · obtain rfl := Option.some.inj hd;simp only [Rel] at hx; obtain ⟨b, hb, e⟩ := hx;exact pure1_ok H E ho (key _ _ e) (by simp only [Rel]; exact ⟨b, hb, by rw [Nat.add_assoc]⟩) hxu
  · next cs =>
    obtain rfl := Option.some.inj hd;simp only [Rel] at hx;generalize hy : PV.ptr cs = y at hx;cases hx with
    | ub b => cases hy
    | map => cases hy
    | lit => cases hy
    | dat => cases hy
    | ptr cs' b o c hS hc hr =>
      cases hy;refine pure1_ok H E ho (key _ _ rfl) ?_ trivial;simp only [Rel];refine .ptr _ b _ (fun j => c (fd.offset + j)) hS (fun j hj => ?_) (fun j hj => ?_)
      · rw [List.length_drop] at hj;rw [Nat.add_assoc]; exact hc _ (by omega)
      · rw [List.length_drop] at hj;have := hr (fd.offset + j) (by omega);have e : (cs.drop fd.offset).getD j default = cs.getD (fd.offset + j) default := by simp
        rw [e]; exact this
  · cases hd
theorem field_ok (H : HSat B U ρ S w h) (E : ESat N U ρ S w f a) {nid : Nat} {t : TypeId} {T F : TD} {fs : List (Nat × TypeId)} {k off : Nat} {ft : TypeId} {x : DV} {v : Value} {out : Out}
    (ht : td P t = some T) (hk : T.k = .struct fs) (hf : fs[k]? = some (off, ft)) (hF : td P ft = some F) (hx : Rel ρ S w x v) (hxu : x.uses U) (hd : dfield F off x = some out) :
    StepOk P B N U nid f h a w (do pure (Next.value (<- Instr.field t v k))) out := by
  obtain ⟨i, dd, z, hi, hu, hz, e1, e2, e3, e4, _⟩ := td_spec ht;obtain ⟨i2, d2, z2, hi2, hu2, hz2, s1, _, _, s4, _⟩ := td_spec hF;obtain ⟨g, rfl, rfl, _⟩ := tk_structInv (e4 ▸ hk);rw [List.getElem?_map] at hf;obtain ⟨fd, hfd, hfe⟩ := Option.map_eq_some_iff.1 hf;simp only [Prod.mk.injEq] at hfe;obtain ⟨rfl, rfl⟩ := hfe;have hgk : g[k]? = some fd := by simpa using hfd
  unfold dfield at hd;split at hd
  · next cs =>
    simp only [Rel] at hx;obtain ⟨vs, rfl, hr⟩ := hx;have hlen := RelL_length hr;rw [s4, s1] at hd;split at hd
    · next hagg =>
      split at hd
      · next hle =>
        refine pure1_ok H E hd (v := .agg ((vs.drop fd.offset).take i2.size).toArray) ?_ ?_ ?_
        · simp [Instr.field, r_und hu, hgk, asAgg, part, r_isAgg hu2, hagg, r_size hi2]
        · simp only [Rel]; exact ⟨_, rfl, RelL_take _ (RelL_drop _ hr)⟩
        · exact usesL_sub (fun d hd => List.mem_of_mem_drop (List.mem_of_mem_take hd)) hxu
      · cases hd
    · next hagg =>
      split at hd
      · next d hd' =>
        have hlt : fd.offset < cs.length := by
          rcases Nat.lt_or_ge fd.offset cs.length with k | k
          · exact k
          · simp [List.getElem?_eq_none k] at hd'
        have h1 := RelL_get hr _ hlt;have e : cs.getD fd.offset default = d := by rw [List.getD_eq_getElem?_getD, hd']; rfl
        rw [e] at h1;obtain ⟨x, hv⟩ : ∃ x, vs[fd.offset]? = some x := ⟨vs[fd.offset], by simp [hlen ▸ hlt]⟩;have hx : vs.getD fd.offset default = x := by rw [List.getD_eq_getElem?_getD, hv]; rfl
        rw [hx] at h1;refine pure1_ok H E hd (v := x) ?_ h1 (usesL_iff.1 hxu d (List.mem_of_getElem? hd'));simp only [Instr.field, Sem.run_bind, r_und hu, Result.andThen_ok, hgk, asAgg, Sem.run_pure, part, r_isAgg hu2, hagg];simp [hv]
      · cases hd
  · cases hd
theorem indexAt_ok (H : HSat B U ρ S w h) (E : ESat N U ρ S w f a) {nid : Nat} {t e : TypeId} {T F : TD} {x : DV} {v : Value} {kk : IntKind} {k : Int} {out : Out}
    (ht : td P t = some T) (hk : T.k = .slice e) (hF : td P e = some F) (hx : Rel ρ S w x v) (hxu : x.uses U) (hd : dindexAddr F.size x k h = some out) (hp : out.pre) :
    StepOk P B N U nid f h a w (do pure (Next.value (<- Instr.indexAt t v (.int kk k)))) out := by
  obtain ⟨i, d, z, hi, hu, hz, e1, e2, e3, e4, _⟩ := td_spec ht;obtain ⟨i2, d2, z2, hi2, hu2, hz2, s1, _⟩ := td_spec hF;have hds : d = .slice e := tk_slice (e4 ▸ hk);subst hds;have key : ∀ b o n c, v = .slice (some ⟨b, o, none⟩) n c -> 0 <= k -> k < n -> (Instr.indexAt t v (.int kk k)).run P w = .ok (.pointer (some ⟨b, o + k.toNat * F.size, none⟩)) w := fun b o n c e p1 p2 => by
    subst e;simp [Instr.indexAt, asIntOf, r_und hu, p1, p2, r_size hi2, addr_add, s1]
  have dat : ∀ {l : List (List PV)}, PRel S w (.dat F.size l) v -> (some { pre := 0 <= k /\ k < l.length, fact := (idx l k).length = F.size, d := .p (.ptr (idx l k)), e := .no } : Option Out) = some out -> StepOk P B N U nid f h a w (do pure (Next.value (<- Instr.indexAt t v (.int kk k)))) out := by
    intro l hx hd;obtain rfl := Option.some.inj hd;obtain ⟨p1, p2⟩ := hp;generalize hy : PV.dat F.size l = y at hx;cases hx with
    | ub b => cases hy
    | map => cases hy
    | lit => cases hy
    | ptr => cases hy
    | dat n' l' a b off cap c hl hcap ha hn hc hr =>
      cases hy;obtain ⟨rfl, hS⟩ := ha (by omega);have hlt : k.toNat < l.length := by omega
      refine step_no H E (v := .pointer (some ⟨b, off + k.toNat * F.size, none⟩)) (by simp [key _ _ _ _ rfl p1 p2]) ?_ trivial (hn _ hlt);simp only [Rel];have hlen := hn _ hlt;refine .ptr _ b _ (fun j => c k.toNat j) hS (fun j hj => ?_) (fun j hj => ?_)
      · rw [idx, hlen] at hj;rw [Nat.add_assoc]; exact hc _ _ hlt hj
      · rw [idx, hlen] at hj;exact hr _ _ hlt hj
  unfold dindexAddr at hd;split at hd
  · next m l =>
    split at hd
    · next hm =>
      subst hm;exact dat (by simpa only [Rel] using hx) hd
    · cases hd
  · next id =>
    simp only [Rel] at hx;subst hx;split at hd
    · next tt m l hh =>
      split at hd
      · next hm =>
        subst hm;obtain rfl := Option.some.inj hd;obtain ⟨p1, p2⟩ := hp;have h1 := H.heap id _ hh;simp only [HRel] at h1;obtain ⟨q1, q2, q3, q4, q5⟩ := h1;rcases q5 with q5 | ⟨b, vs, sp, fz, k1, _⟩
        · omega
        refine step_no H E (v := .pointer (some ⟨b, k.toNat * F.size, none⟩)) ?_ (by simp only [Rel]; exact ⟨b, k1, rfl⟩) hxu trivial;have := key b 0 (ρ id).len (ρ id).cap (by rw [k1]) p1 (by omega);rw [Nat.zero_add] at this;simp [this]
      · cases hd
    · next m l hh =>
      split at hd
      · next hm =>
        subst hm;have h1 := H.heap id _ hh;simp only [HRel] at h1;exact dat h1.2.2 hd
      · cases hd
    · cases hd
  · cases hd
theorem bounds_run {P : Program} {w : World} {len cap : Nat} {isS : Bool} {lo hi : Option Value} {l r : Option Int} (hl : (lo = none /\ l = none) ∨ ∃ k n, lo = some (.int k n) /\ l = some n) (hr : (hi = none /\ r = none) ∨ ∃ k n, hi = some (.int k n) /\ r = some n)
    (h0 : 0 <= l.getD 0) (h1 : l.getD 0 <= r.getD len) (h2 : r.getD len <= len) (hc : len <= cap) :
    (Instr.sliceBounds isS len cap lo hi none).run P w = .ok ((l.getD 0).toNat, (r.getD len).toNat, cap) w := by
  unfold Instr.sliceBounds;rcases hl with ⟨rfl, rfl⟩ | ⟨k, n, rfl, rfl⟩ <;> rcases hr with ⟨rfl, rfl⟩ | ⟨k', n', rfl, rfl⟩
  · simp
  · simp only [Option.getD_some, Option.getD_none] at *
    have e : n' <= (cap : Int) := by omega
    simp [Instr.sliceBound, asIntOf, e, h1]
  · simp only [Option.getD_some, Option.getD_none] at *
    simp [Instr.sliceBound, asIntOf, h0, h1]
  · simp only [Option.getD_some] at *
    have e : n' <= (cap : Int) := by omega
    have e0 : 0 <= n' := by omega
    have e1 : n <= ((n'.toNat : Nat) : Int) := by omega
    have e2 : n <= max n' 0 := by omega
    simp [Instr.sliceBound, asIntOf, e, e0, h0, e2]
end
end Go.Eng
