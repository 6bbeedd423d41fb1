/-
  A part of the engine that reckons calls at the level of data.
  No condition.
-/

import Derived.Test.YtgpllheklfbfhaaGreatEngM
import Derived.ProofKit
import Derived.Carry
import Derived.SizedLaws
namespace Go.Eng
set_option linter.all false
open Go.RowKit Go.ChangeShapes Go.WideShapes
def PTf (P : Program) (g : TypeId -> List PV -> Prop) : List Field -> List PV -> Prop
  | [], xs => xs = []
  | f :: fs, xs => ∃ a b, xs = a ++ b /\ g f.type a /\ PTf P g fs b
def PT (P : Program) : Nat -> TypeId -> List PV -> Prop
  | 0, _, _ => False
  | n + 1, t, xs => match P.underlying t with
    | some .bool => ∃ b, xs = [.lit (.bool b)]
    | some (.int k) => ∃ z, xs = [.lit (.int k z)] /\ (Lit.int k z).wf = true
    | some .string => ∃ s : ByteArray, xs = [.lit (.string s)] /\ s.size <= reachBytes
    | some (.slice e) => ∃ l, xs = [.dat (P.cellsOf e) l] /\ l.length * P.bytesOf e <= reachBytes /\ ∀ r, r ∈ l -> PT P n e r
    | some (.struct fs) => PTf P (PT P n) fs.toList xs
    | _ => False
def plainF (P : Program) (g : TypeId -> Bool) : Nat -> List Field -> Option Nat
  | off, [] => some off
  | off, f :: fs => if f.offset = off /\ g f.type = true then plainF P g (off + P.cellsOf f.type) fs else none
def plainT (P : Program) : Nat -> TypeId -> Bool
  | 0, _ => false
  | n + 1, t => match P.underlying t with
    | some .bool => true
    | some (.int _) => true
    | some .string => true
    | some (.slice e) => plainT P n e && decide (1 <= P.cellsOf e /\ 1 <= P.bytesOf e)
    | some (.struct fs) => plainF P (plainT P n) 0 fs.toList == some (P.cellsOf t)
    | _ => false
def old (w : World) (b : Nat) : Prop := b < w.heap.size
section
variable {H : Type} {enc : TypeId × Value -> H} {P : Program} {w : World} {base : Nat} {sp : Nat -> Bool} {held : Bool}
theorem cell_old {a : Addr} {v : Value} (h : w.cell? a = some v) : old w a.block /\ a.spot = none := by
  unfold World.cell? at h;split at h
  · next hh =>
    refine ⟨by unfold old; rw [Array.getElem?_eq_some_iff] at hh; exact hh.1, ?_⟩;split at h
    · cases h
    · next k => cases e : a.spot with
      | none => rfl
      | some x => rw [e] at k; exact absurd rfl k
  · cases h
theorem one_rel {v : Value} (h : vcell v = true) : ∀ j, j < [v].length -> PRel (old w) w ([PV.lit v].getD j default) ([v].getD j default)
  | 0, _ => .lit v h
  | j + 1, hj => by simp at hj
theorem exList {α : Type} [Inhabited α] {p : Nat -> α -> Prop} : ∀ n, (∀ i, i < n -> ∃ x, p i x) -> ∃ l : List α, l.length = n /\ ∀ i, i < n -> p i (l.getD i default)
  | 0, _ => ⟨[], rfl, by omega⟩
  | n + 1, h => by
    obtain ⟨l, h1, h2⟩ := exList n fun i hi => h i (by omega)
    obtain ⟨x, hx⟩ := h n (by omega);refine ⟨l ++ [x], by simp [h1], fun i hi => ?_⟩;by_cases e : i < n
    · have : (l ++ [x]).getD i default = l.getD i default := by simp [List.getD_eq_getElem?_getD, List.getElem?_append_left (show i < l.length by omega)]
      rw [this]; exact h2 i e
    · obtain rfl : i = n := by omega
      have : (l ++ [x]).getD i default = x := by simp [List.getD_eq_getElem?_getD, h1]
      rw [this]; exact hx
theorem weightsAll_mem {e : TypeId} : ∀ {l : List (DataW H)} {d : DataW H} {k : Nat}, d ∈ l -> k ∈ d.weights P e -> k ∈ DataW.weightsAll P e l
  | x :: l, d, k, hd, hk => by
    simp only [DataW.weightsAll, List.mem_append];rcases List.mem_cons.1 hd with rfl | hd
    · exact .inl hk
    · exact .inr (weightsAll_mem hd hk)
theorem fields_PT {n : Nat} (ih : ∀ t fuel cs x, plainT P n t = true -> DataW.trod enc P w base sp held fuel t cs = some x -> (∀ k, k ∈ x.1.weights P t -> k <= reachBytes) -> ∃ xs : List PV, xs.length = cs.length /\ PT P n t xs /\ ∀ j, j < cs.length -> PRel (old w) w (xs.getD j default) (cs.getD j default))
    {m : Nat} {cs : List Value} {tot : Nat} : ∀ (fs : List Field) (off : Nat), (∀ f, f ∈ fs -> ∃ y, DataW.trod enc P w base sp held m f.type ((cs.drop f.offset).take (P.cellsOf f.type)) = some y /\ ∀ k, k ∈ y.1.weights P f.type -> k <= reachBytes) -> plainF P (plainT P n) off fs = some tot -> tot <= cs.length ->
      ∃ xs : List PV, off + xs.length = tot /\ PTf P (PT P n) fs xs /\ ∀ j, j < xs.length -> PRel (old w) w (xs.getD j default) (cs.getD (off + j) default)
  | [], off, _, h2, _ => by
    simp only [plainF, Option.some.injEq] at h2;exact ⟨[], by simpa using h2, rfl, by simp⟩
  | f :: fs, off, h1, h2, h3 => by
    simp only [plainF] at h2;split at h2
    · next hc =>
      obtain ⟨ho, hg⟩ := hc;obtain ⟨ys, k1, k2, k3⟩ := fields_PT ih fs (off + P.cellsOf f.type) (fun g hg => h1 g (List.mem_cons_of_mem _ hg)) h2 h3;obtain ⟨y, hy, hyw⟩ := h1 f (List.mem_cons_self ..);obtain ⟨xs, q1, q2, q3⟩ := ih _ _ _ _ hg hy hyw;have hl : ((cs.drop f.offset).take (P.cellsOf f.type)).length = P.cellsOf f.type := by simp; omega
      rw [hl] at q1 q3;refine ⟨xs ++ ys, by simp [q1]; omega, ⟨xs, ys, rfl, q2, k2⟩, fun j hj => ?_⟩;by_cases e : j < xs.length
      · have e1 : (xs ++ ys).getD j default = xs.getD j default := by simp [List.getD_eq_getElem?_getD, List.getElem?_append_left e]
        have e2 : ((cs.drop f.offset).take (P.cellsOf f.type)).getD j default = cs.getD (off + j) default := by
          simp only [List.getD_eq_getElem?_getD];rw [List.getElem?_take_of_lt (by omega), List.getElem?_drop, ho]
        rw [e1, <- e2]; exact q3 j (by omega)
      · have e1 : (xs ++ ys).getD j default = ys.getD (j - xs.length) default := by simp [List.getD_eq_getElem?_getD, List.getElem?_append_right (show xs.length <= j by omega)]
        have := k3 (j - xs.length) (by simp at hj; omega);rw [e1]
        rwa [show off + P.cellsOf f.type + (j - xs.length) = off + j by omega] at this
    · cases h2
theorem trod_PT : ∀ n t fuel cs x, plainT P n t = true -> DataW.trod enc P w base sp held fuel t cs = some x -> (∀ k, k ∈ x.1.weights P t -> k <= reachBytes) -> ∃ xs : List PV, xs.length = cs.length /\ PT P n t xs /\ ∀ j, j < cs.length -> PRel (old w) w (xs.getD j default) (cs.getD j default)
  | 0, _, _, _, _, h, _, _ => by simp [plainT] at h
  | n + 1, t, fuel, cs, x, hp, h, hwt => by
    have ih := trod_PT n;unfold plainT at hp;unfold PT;split at hp
    · next ht =>
      obtain ⟨b, rfl, _⟩ := DataW.trod_bool ht h;exact ⟨[.lit (.bool b)], rfl, ⟨b, rfl⟩, one_rel rfl⟩
    · next k ht =>
      obtain ⟨z, rfl, _, hw⟩ := DataW.trod_int ht h;exact ⟨[.lit (.int k z)], rfl, ⟨z, rfl, hw⟩, one_rel rfl⟩
    · next ht =>
      obtain ⟨s, rfl, rfl, _⟩ := DataW.trod_string ht h;have hw : s.size <= reachBytes := hwt _ (by simp [DataW.weights]);exact ⟨[.lit (.string s)], rfl, ⟨s, rfl, hw⟩, one_rel rfl⟩
    · next e ht =>
      simp only [Bool.and_eq_true, decide_eq_true_eq] at hp;obtain ⟨hpe, hce, hbe⟩ := hp;rcases DataW.trod_slice ht h with ⟨rfl, _⟩ | ⟨a, len, cap, elems, rest, m, _, rfl, rfl, _, hlc, hcm, hel, hcell, _, _⟩
      · refine ⟨[.dat (P.cellsOf e) []], rfl, ⟨[], rfl, by simp, by simp⟩, fun j hj => ?_⟩;obtain rfl : j = 0 := by simpa using hj
        exact .dat _ [] none 0 0 0 (fun _ _ => default) (by simp) (by simp) (by simp) (by simp) (by simp) (by simp)
      · have hwl : len * P.bytesOf e <= reachBytes := by
          have := hwt ((elems.length + rest.length) * P.bytesOf e) (by simp [DataW.weights, ht]);refine Nat.le_trans (Nat.mul_le_mul_right _ ?_) this;omega
        have hwe : ∀ y, y ∈ elems -> ∀ k, k ∈ y.1.weights P e -> k <= reachBytes := fun y hy k hk => by
          refine hwt k ?_;simp only [DataW.weights, ht];refine List.mem_cons_of_mem _ (List.mem_append_left _ ?_);exact weightsAll_mem (List.mem_map_of_mem hy) hk
        have each : ∀ i, i < len -> ∃ r : List PV, r.length = P.cellsOf e /\ PT P n e r /\ ∀ j, j < P.cellsOf e -> ∃ c, w.cell? ((a.add (i * P.cellsOf e)).add j) = some c /\ PRel (old w) w (r.getD j default) c := by
          intro i hi;have h1 := hcell i hi;rw [List.getElem?_eq_getElem (by omega)] at h1;rw [Option.bind_eq_some_iff] at h1;obtain ⟨cs', h2, h3⟩ := h1;obtain ⟨_, h4, h5⟩ := World.cells?_some h2;obtain ⟨xs, k1, k2, k3⟩ := ih _ _ _ _ hpe h3 (hwe _ (List.getElem_mem _));refine ⟨xs, by omega, k2, fun j hj => ⟨cs'.getD j default, ?_, k3 j (by omega)⟩⟩;rw [h5 j hj, List.getD_eq_getElem?_getD, List.getElem?_eq_getElem (by omega)]; rfl
        obtain ⟨l, hl1, hl2⟩ := exList len each;refine ⟨[.dat (P.cellsOf e) l], rfl, ⟨l, rfl, by rw [hl1]; exact hwl, fun r hr => ?_⟩, fun j hj => ?_⟩
        · obtain ⟨i, hi, rfl⟩ := List.getElem_of_mem hr;have := (hl2 i (by omega)).2.1
          rwa [List.getD_eq_getElem?_getD, List.getElem?_eq_getElem hi] at this
        · obtain rfl : j = 0 := by simpa using hj
          show PRel (old w) w (.dat (P.cellsOf e) l) (.slice (some a) len cap);have ha : 0 < len -> a.spot = none /\ old w a.block := fun h0 => by
            obtain ⟨c, hc, _⟩ := (hl2 0 h0).2.2 0 (by omega);have : (a.add (0 * P.cellsOf e)).add 0 = a := by simp [Addr.add]
            rw [this] at hc;have := cell_old hc;exact ⟨this.2, this.1⟩
          have hadd : 0 < len -> ∀ i j, (a.add (i * P.cellsOf e)).add j = ⟨a.block, a.off + (i * P.cellsOf e + j), none⟩ := fun h0 i j => by
            have hs := (ha h0).1;obtain ⟨b, o, s⟩ := a;simp only at hs; subst hs;unfold Addr.add;split
            · split
              · next e1 e2 => simp [*]
              · next e1 e2 => simp [*]
            · split
              · next e1 e2 => simp [*]
              · next e1 e2 => simp [Nat.add_assoc]
          rw [show PV.dat (P.cellsOf e) l = PV.dat (P.cellsOf e) l from rfl, <- hl1];have mlen : reachBytes <= BL := by decide
          have hlb : len <= len * P.bytesOf e := Nat.le_mul_of_pos_right _ hbe;refine .dat _ l (some a) a.block a.off cap (fun i j => (w.cell? ⟨a.block, a.off + (i * P.cellsOf e + j), none⟩).getD default) (by omega) (by omega) (fun h0 => ?_) (fun i hi => ?_) (fun i j hi hj => ?_) (fun i j hi hj => ?_)
          · obtain ⟨k1, k2⟩ := ha (by omega);refine ⟨?_, k2⟩;obtain ⟨b, o, s⟩ := a;simp only at k1; subst k1; rfl
          · exact (hl2 i (by omega)).1
          · obtain ⟨c, hc, _⟩ := (hl2 i (by omega)).2.2 j hj;rw [hadd (by omega)] at hc;rw [hc]; rfl
          · obtain ⟨c, hc, hr⟩ := (hl2 i (by omega)).2.2 j hj;rw [hadd (by omega)] at hc;rw [hc]; exact hr
    · next fs ht =>
      simp only [beq_iff_eq] at hp;obtain ⟨ys, m, _, rfl, hl, hly, hf⟩ := DataW.trod_struct ht h;obtain ⟨xs, k1, k2, k3⟩ := fields_PT ih (m := m) (cs := cs) fs.toList 0 (fun f hfm => by
        obtain ⟨i, hi, rfl⟩ := List.getElem_of_mem hfm;have hi' : i < fs.size := by simpa using hi
        have := hf i fs[i] (by simp);rw [List.getElem?_eq_getElem (by omega)] at this;refine ⟨_, by simpa using this, fun k hk => hwt k ?_⟩;simp only [DataW.weights, ht];exact DataW.weights_mem_each (j := i) (t := fs.toList[i].type) (d := ys[i].1) (by simp [hi']) (by rw [List.getElem?_map, List.getElem?_eq_getElem (by omega)]; rfl) k hk) hp (by omega)
      refine ⟨xs, by omega, k2, fun j hj => ?_⟩;have := k3 j (by omega)
      rwa [Nat.zero_add] at this
    · cases hp
def dvT (P : Program) (t : TypeId) (xs : List PV) : DV :=
  match P.underlying t with
  | some (.struct _) => .agg (xs.map .p)
  | _ => .p (xs.getD 0 default)
theorem RelL_p {ρ : Nat -> Hd} {S : Nat -> Prop} : ∀ {xs : List PV} {vs : List Value}, xs.length = vs.length -> (∀ j, j < vs.length -> PRel S w (xs.getD j default) (vs.getD j default)) -> RelL ρ S w (xs.map .p) vs
  | [], [], _, _ => trivial
  | x :: xs, v :: vs, hl, h => ⟨by simp only [Rel]; exact h 0 (by simp), RelL_p (by simpa using hl) fun j hj => by simpa using h (j + 1) (by simpa using hj)⟩
  | [], _ :: _, hl, _ => by simp at hl
  | _ :: _, [], hl, _ => by simp at hl
theorem Trod_rel {r : Reach} {b0 : Nat} {n : Nat} {t : TypeId} {v : Value} {d : DataW H} {ps : List MemPlace} {ρ : Nat -> Hd} (hp : plainT P n t = true) (hval : Value.okWide P w r b0 t v) (hd : DataW.Trod enc P w base sp held t v d ps) (hw : ∀ k, k ∈ d.weights P t -> k <= reachBytes) :
    ∃ xs, PT P n t xs /\ Rel ρ (old w) w (dvT P t xs) v := by
  obtain ⟨fuel, hf⟩ := hd;obtain ⟨xs, h1, h2, h3⟩ := trod_PT n t fuel _ _ hp hf hw;refine ⟨xs, h2, ?_⟩;cases n with
  | zero => simp [plainT] at hp
  | succ n =>
    unfold plainT at hp;unfold dvT;have one : ∀ u : Value, v = u -> u.cells.toList = [u] -> Rel ρ (old w) w (.p (xs.getD 0 default)) v := fun u e hc => by
      subst e;rw [hc] at h3;simp only [Rel]; exact h3 0 (by simp)
    split at hp
    · next ht => obtain ⟨b, rfl⟩ := okWide_bool ht hval; rw [ht]; exact one _ rfl rfl
    · next ht => obtain ⟨b, rfl⟩ := okWide_int ht hval; rw [ht]; exact one _ rfl rfl
    · next ht => obtain ⟨b, rfl⟩ := okWide_string ht hval; rw [ht]; exact one _ rfl rfl
    · next ht => obtain ⟨a, l, c, rfl⟩ := okWide_slice ht hval; rw [ht]; exact one _ rfl rfl
    · next ht =>
      obtain ⟨cs, rfl, hcs⟩ := okWide_struct ht hval;rw [ht];exact ⟨cs.toList, by simp, RelL_p h1 h3⟩
    · cases hp
def PTs (P : Program) (n : Nat) : List TypeId -> List (List PV) -> Prop
  | [], xss => xss = []
  | t :: ts, xss => ∃ a b, xss = a :: b /\ PT P n t a /\ PTs P n ts b
def dvTs (P : Program) : List TypeId -> List (List PV) -> List DV
  | t :: ts, xs :: xss => dvT P t xs :: dvTs P ts xss
  | _, _ => []
theorem dvT_uses {U : Nat -> Prop} (t : TypeId) (xs : List PV) : (dvT P t xs).uses U := by
  unfold dvT;split
  · exact usesL_iff.2 fun d hd => by obtain ⟨x, _, rfl⟩ := List.mem_map.1 hd; exact trivial
  · exact trivial
theorem dvTs_uses {U : Nat -> Prop} : ∀ (ts : List TypeId) (xss : List (List PV)), DV.usesL U (dvTs P ts xss)
  | [], _ => trivial
  | _ :: _, [] => trivial
  | t :: ts, xs :: xss => ⟨dvT_uses t xs, dvTs_uses ts xss⟩
theorem TrodAll_rel {r : Reach} {b0 : Nat} {n : Nat} {ρ : Nat -> Hd} : ∀ (ts : List TypeId) (vs : List Value) (ds : List (DataW H)) (ps : List MemPlace), (∀ t, t ∈ ts -> plainT P n t = true) -> (∀ (j : Nat) t v, ts[j]? = some t -> vs[j]? = some v -> Value.okWide P w r b0 t v) ->
    DataW.TrodAll enc P w base sp held ts vs ds ps -> (∀ k, k ∈ DataW.weightsEach P ts ds -> k <= reachBytes) -> ∃ xss, PTs P n ts xss /\ RelL ρ (old w) w (dvTs P ts xss) vs
  | [], [], [], _, _, _, _, _ => ⟨[], rfl, trivial⟩
  | t :: ts, v :: vs, d :: ds, ps, hp, hv, h, hw => by
    simp only [DataW.weightsEach, List.mem_append] at hw;obtain ⟨p, q, h1, h2, _⟩ := h;obtain ⟨xs, k1, k2⟩ := Trod_rel (ρ := ρ) (hp t (by simp)) (hv 0 t v rfl rfl) h1 (fun k hk => hw k (.inl hk));obtain ⟨xss, k3, k4⟩ := TrodAll_rel ts vs ds q (fun t ht => hp t (by simp [ht])) (fun j t v h1 h2 => hv (j + 1) t v (by simpa using h1) (by simpa using h2)) h2 (fun k hk => hw k (.inr hk));exact ⟨xs :: xss, ⟨xs, xss, rfl, k1, k3⟩, k2, k4⟩
  | [], _ :: _, _, _, _, _, h, _ => h.elim
  | [], [], _ :: _, _, _, _, h, _ => h.elim
  | _ :: _, [], _, _, _, _, h, _ => h.elim
  | _ :: _, _ :: _, [], _, _, _, h, _ => h.elim
theorem TrodAll_stays (hl : laidOutB P = true) {W' : World} {sp' : Nat -> Bool} : ∀ (ts : List TypeId) (vs : List Value) (ds : List (DataW H)) (ps : List MemPlace), (∀ t, t ∈ ts -> P.readableRec t = true /\ t < P.types.size) ->
    DataW.TrodAll enc P w base (fun _ => true) true ts vs ds ps -> (∀ p ∈ ps, w.sameAt W' p) -> (∀ p ∈ ps, sp' p.block = true) -> DataW.TrodAll enc P W' base sp' true ts vs ds ps
  | [], [], [], _, _, h, _, _ => h
  | t :: ts, v :: vs, d :: ds, ps, hp, h, hs, hb => by
    obtain ⟨p, q, h1, h2, rfl⟩ := h;exact ⟨p, q, WideElems.Trod_stays hl (hp t (by simp)).1 (hp t (by simp)).2 h1 (fun x hx => hs x (by simp [hx])) (fun x hx => hb x (by simp [hx])),
      TrodAll_stays hl ts vs ds q (fun t ht => hp t (by simp [ht])) h2 (fun x hx => hs x (by simp [hx])) (fun x hx => hb x (by simp [hx])), rfl⟩
  | [], _ :: _, _, _, _, h, _, _ => h.elim
  | [], [], _ :: _, _, _, h, _, _ => h.elim
  | _ :: _, [], _, _, _, h, _, _ => h.elim
  | _ :: _, _ :: _, [], _, _, h, _, _ => h.elim
end
theorem TrodAll_len {H : Type} {enc : TypeId × Value -> H} {P : Program} {w : World} {base : Nat} {sp : Nat -> Bool} {held : Bool} : ∀ (ts : List TypeId) (vs : List Value) (ds : List (DataW H)) (ps : List MemPlace), DataW.TrodAll enc P w base sp held ts vs ds ps -> ds.length = ts.length
  | [], [], [], _, _ => rfl
  | _ :: ts, _ :: vs, _ :: ds, _, h => by
    obtain ⟨_, q, _, h2, _⟩ := h;simp [TrodAll_len ts vs ds q h2]
  | [], _ :: _, _, _, h => h.elim
  | [], [], _ :: _, _, h => h.elim
  | _ :: _, [], _, _, h => h.elim
  | _ :: _, _ :: _, [], _, h => h.elim
theorem calls_law {P : Program} {g : FuncId} {ds : List DV} {b : Bool} {W : World} {args : Array Value} (hc : DCalls P g ds (hget []) 0 (lb b) (hget [])) (hr : RelL (fun _ => ⟨none, 0, 0⟩) (old W) W ds args.toList) (hu : DV.usesL (fun _ => False) ds) (hcb : callable P g) :
    Calls P g args W fun e W' => e = .returned (.bool b) /\ Below W.heap.size W W' := by
  have h0 : HSat0 (fun _ => False) (fun _ => ⟨none, 0, 0⟩) (old W) W (hget []) :=
    ⟨fun _ _ h => (by cases h), fun _ _ h => (by cases h), fun _ _ _ _ _ h => (by cases h), fun _ _ _ h => (by cases h), fun _ h => h⟩
  have := hc.2 (fun _ => False) (fun _ => ⟨none, 0, 0⟩) (old W) W args.toList h0 (fun _ _ h => h) hr hu;refine Calls.mono (this.1 hcb) ?_;rintro e W' ⟨v, ρ', S', rfl, H1, hv, _⟩;refine ⟨by rw [rel_lit hv], H1.os, H1.tape, H1.output, H1.size, fun k hk => H1.keep k hk (fun i ⟨_, h, _⟩ => h) (fun ⟨_, _, h, _⟩ => (by cases h))⟩
section
variable {H : Type} {enc : TypeId × Value -> H} {P : Program}
theorem law_post {f : Func} {s : ChangeSpec} {apart fresh handsOn again : Bool} {W W' : World} {args : Array Value} {tb : TypeId} {ds gs : List (DataW H)} {before : List MemPlace} (hl : laidOutB P = true)
    (hrt : f.resultTypes = #[tb]) (htb : P.underlying tb = some .bool) (hv : s.vars = [])
    (hp : ∀ t, t ∈ f.params.toList -> P.readableRec t = true /\ t < P.types.size)
    (hs : (s.fn H (ds ++ gs)).results = [.lit (.bool true)] /\ (s.fn H (ds ++ gs)).args = ds /\ (s.fn H (ds ++ gs)).vars = [])
    (hW : DataW.Whole enc P f.params.toList s.vars apart W args.toList ds gs before) (hB : Below W.heap.size W W') : s.post enc P f apart fresh handsOn again W args (.bool true) W' := by
  have hlt : ∀ x ∈ before, x.block < W.heap.size := fun x hx => hW.lt x hx
  have hW' := hW;obtain ⟨p, q, hA, hV, rfl, hz, hn⟩ := hW';rw [hv] at hV;obtain ⟨rfl, rfl⟩ := trodVars_none hV;simp only [List.append_nil] at *
  have hres : ∀ (b : Nat) (sp : Nat -> Bool) (hd : Bool), DataW.TrodAll enc P W' b sp hd f.resultTypes.toList ((Value.bool true).resultList f.resultTypes.size) (s.fn H ds).results [] := fun b sp hd => by
    rw [hrt, hs.1]; exact trodAll_mk1 (shut_bool htb _)
  have hargs : ∀ sp : Nat -> Bool, (∀ x ∈ p, sp x.block = true) -> DataW.TrodAll enc P W' 0 sp true f.params.toList args.toList (s.fn H ds).args p := fun sp hsp => by
    rw [hs.2.1];exact TrodAll_stays hl _ _ _ _ hp hA (fun x hx => hB.same (hlt x hx)) hsp
  have hvars : ∀ sp : Nat -> Bool, DataW.TrodVars enc P W' sp s.vars (s.fn H ds).vars [] := fun sp => by rw [hv, hs.2.2]; rfl
  have hgs : ds ++ [] = ds := List.append_nil ds;refine ⟨ds, [], p, [], p, [], by simpa using hW, by rw [hgs]; exact hres _ _ _, by rw [hgs]; exact hargs _ (fun x hx => by simpa using hlt x hx), by rw [hgs]; exact hvars _, hB.frame _, fun _ => ⟨?_, [.lit (.bool true)] ++ ds, [], [] ++ p, ⟨[] ++ p, [], ?_, ?_, by simp, ?_, ?_⟩, ?_⟩⟩
  · exact ok_one hrt rfl (okWide_bool_mk htb _)
  · have := hargs (fun _ => true) (fun _ _ => rfl);have h2 := hres 0 (fun _ => true) true;rw [hs.1] at h2;rw [hs.2.1] at this;exact trodAll_append this h2
  · have := hvars (fun _ => true);rw [hs.2.2] at this;exact this
  · intro b off hb;have h1 : MemPlace.cell b off ∈ p := by simpa using hb
    have h2 := hz b off h1;have h3 : b < W.heap.size := hlt _ h1;rw [hB.frozen (p := ⟨b, off, none⟩) h3];exact h2
  · intro ha; simpa using hn ha
  · intro x hx _; simpa using hx
theorem law_returns {C : Checked} {os : Os} {f : FuncId} {fn : Func} {s : ChangeSpec} {conds : List PathCond} {apart fresh handsOn again : Bool} {n : Nat} {tb : TypeId} (own : ownKnob C.prog.godebug = none) (started : os.Started) (noInit : C.prog.inits.idxOf? f = none) (hfn : C.prog.funcs[f]? = some fn)
    (hl : laidOutB C.prog = true) (hrt : fn.resultTypes = #[tb]) (htb : C.prog.underlying tb = some .bool) (hv : s.vars = [])
    (hp : (fn.params.toList.all fun t => C.prog.readableRec t && decide (t < C.prog.types.size) && plainT C.prog n t) = true)
    (hs : ∀ ds : List (DataW H), ds.length = fn.params.size -> (s.fn H ds).results = [.lit (.bool true)] /\ (s.fn H ds).args = ds /\ (s.fn H ds).vars = [])
    (hlaw : ∀ xss, PTs C.prog n fn.params.toList xss -> DCalls C.prog f (dvTs C.prog fn.params.toList xss) (hget []) 0 (lb true) (hget []))
    (witness : ∃ (w : World) (tape : Tape) (i : Input), w.os = os /\ (w.forCall tape i).Shaped C.prog /\ i.vars = [] /\ Input.okWide C.prog (w.forCall tape i) .any w.heap.size f i /\
      s.pre6 enc C.prog fn conds apart (w.forCall tape i).memory i.args /\ ({} : Assume).holds C.prog (lone (Frame.enter C.prog f i.args .normal) [] (w.forCall tape i)))
    (hbody : (fn.body.isSome && fn.name != "runtime.NumGoroutine") = true := by kernel_rfl) :
    ReturnsInHanded {} C os f .any (s.pre6 enc C.prog fn conds apart) (s.post enc C.prog fn apart fresh handsOn again) := by
  have hp1 : ∀ t, t ∈ fn.params.toList -> (C.prog.readableRec t = true /\ t < C.prog.types.size) /\ plainT C.prog n t = true := fun t ht => by
    have := List.all_eq_true.1 hp t ht;simpa only [Bool.and_eq_true, decide_eq_true_eq] using this
  refine returnsInHanded_of_change_sized own started noInit hfn witness ?_;intro W base args ds gs before hval hW _ hsz _;have hW' := hW;obtain ⟨p, q, hA, hV, rfl, hz, hn⟩ := hW';rw [hv] at hV;obtain ⟨rfl, rfl⟩ := trodVars_none hV;have hlen : ds.length = fn.params.size := by
    have := TrodAll_len _ _ _ _ hA;simpa using this
  have hw : ∀ k, k ∈ DataW.weightsEach C.prog fn.params.toList ds -> k <= reachBytes := fun k hk => by
    have h0 : s.plain.varTypes C.prog = [] := by simp [ChangeSpec.plain, hv, DataSpec.varTypes]
    rw [h0, List.append_nil, List.append_nil] at hsz;simpa using List.all_eq_true.1 hsz k hk
  obtain ⟨xss, h1, h2⟩ := TrodAll_rel (ρ := fun _ => ⟨none, 0, 0⟩) fn.params.toList args.toList ds p (fun t ht => (hp1 t ht).2) (fun j t v k1 k2 => hval j t v (by simpa using k1) (by simpa using k2)) hA hw;refine Calls.mono (calls_law (hlaw xss h1) h2 (dvTs_uses _ _) ⟨fn, hfn, by simp only [Bool.and_eq_true, bne_iff_ne] at hbody; exact hbody.1, by simp only [Bool.and_eq_true, bne_iff_ne] at hbody; exact hbody.2⟩) ?_;rintro e W' ⟨rfl, hB⟩;refine ⟨_, rfl, law_post hl hrt htb hv (fun t ht => (hp1 t ht).1) ?_ hW hB⟩;simpa using hs ds hlen
end
end Go.Eng
