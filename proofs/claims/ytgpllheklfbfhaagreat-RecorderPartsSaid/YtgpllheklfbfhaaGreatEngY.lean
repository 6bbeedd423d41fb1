/-
  A part of the engine that reckons calls at the level of data.
  No condition.
-/

import Derived.Test.YtgpllheklfbfhaaGreatPl0
namespace Go.Eng
set_option linter.all false
open Go.RowKit
section
variable {α : Type} (g : α -> List PV) (e : TypeId) (n : Nat)
def famH : Nat -> List (List α) -> LH
  | _, [] => []
  | f, L :: r => (f, .lst e n (rows g L)) :: famH (f + 1) r
def famR : Nat -> Nat -> List (List DV)
  | _, 0 => []
  | f, k + 1 => [.gl f] :: famR (f + 1) k
theorem famR_len : ∀ (k f : Nat), (famR f k).length = k
  | 0, _ => rfl
  | k + 1, f => by simp [famR, famR_len k (f + 1)]
theorem famR_at : ∀ (k f i : Nat), i < k -> (famR f k)[i]? = some [.gl (f + i)]
  | 0, _, _, h => by omega
  | k + 1, f, 0, _ => by simp [famR]
  | k + 1, f, i + 1, h => by
    have := famR_at k (f + 1) i (by omega);simp only [famR, List.getElem?_cons_succ, this];congr 3; omega
theorem famR_get {k f i : Nat} (h : i < k) : (famR f k).getD i [] = [.gl (f + i)] := by
  simp [List.getD_eq_getElem?_getD, famR_at k f i h]
theorem famR_ext {k f : Nat} {l : List (List DV)} (hl : l.length = k) (h : ∀ i, i < k -> l[i]? = some [.gl (f + i)]) : l = famR f k := by
  refine List.ext_getElem? fun i => ?_
  by_cases hi : i < k
  · rw [h i hi, famR_at k f i hi]
  · rw [List.getElem?_eq_none (by omega), List.getElem?_eq_none (by rw [famR_len]; omega)]
theorem renL_gl (o m j : Nat) : DV.renL o m [.gl j] = [.gl (if j = o then m else j)] := rfl
theorem famR_set_ren {k f c nid o : Nat} (h : c < k /\ o = f + c /\ f + k <= nid) : ((famR f k).set c [.gl nid]).map (DV.renL nid o) = famR f k := by
  obtain ⟨h1, rfl, h3⟩ := h;refine famR_ext (by simp [famR_len]) fun j hj => ?_
  rw [List.getElem?_map, List.getElem?_set];split
  · next e =>
    subst e;rw [if_pos (by rw [famR_len]; exact h1)];simp [renL_gl]
  · rw [famR_at k f j hj];simp only [Option.map_some, renL_gl];rw [if_neg (by omega)]
theorem famR_set_mem {k f c nid : Nat} (hc : c < k) {r : List DV} (h : r ∈ (famR f k).set c [.gl nid]) : r = [.gl nid] ∨ ∃ j, j < k /\ j ≠ c /\ r = [.gl (f + j)] := by
  obtain ⟨j, hj⟩ := List.mem_iff_getElem?.1 h;rw [List.getElem?_set] at hj;split at hj
  · next e =>
    rw [if_pos (by rw [famR_len]; omega)] at hj;exact .inl (Option.some.inj hj).symm
  · next e =>
    by_cases hjk : j < k
    · rw [famR_at k f j hjk] at hj;exact .inr ⟨j, hjk, fun q => e q.symm, (Option.some.inj hj).symm⟩
    · rw [List.getElem?_eq_none (by rw [famR_len]; omega)] at hj; cases hj
theorem famR_set_uses {U : Nat -> Prop} {k f c nid : Nat} (hc : c < k) (h1 : U nid) (h2 : ∀ j, j < k -> j ≠ c -> U (f + j)) : DV.usesL U ((famR f k).set c [.gl nid]).flatten :=
  usesL_iff.2 fun d hd => by
    obtain ⟨r, hr, hd⟩ := List.mem_flatten.1 hd;rcases famR_set_mem hc hr with rfl | ⟨j, hj, hne, rfl⟩
    · simp at hd; subst hd; exact h1
    · simp at hd; subst hd; exact h2 j hj hne
theorem hget_fam_lt : ∀ (Ls : List (List α)) (f j : Nat), j < f -> hget (famH g e n f Ls) j = none
  | [], _, _, _ => rfl
  | _ :: r, f, j, h => by simp only [famH, hget, if_neg (show ¬ j = f by omega)]; exact hget_fam_lt r (f + 1) j (by omega)
theorem hget_fam_ge : ∀ (Ls : List (List α)) (f j : Nat), f + Ls.length <= j -> hget (famH g e n f Ls) j = none
  | [], _, _, _ => rfl
  | _ :: r, f, j, h => by
    simp only [List.length_cons] at h;simp only [famH, hget, if_neg (show ¬ j = f by omega)]; exact hget_fam_ge r (f + 1) j (by omega)
theorem hget_fam : ∀ (Ls : List (List α)) (f i : Nat), i < Ls.length -> hget (famH g e n f Ls) (f + i) = some (.lst e n (rows g (Ls.getD i [])))
  | [], _, _, h => by simp at h
  | L :: r, f, 0, _ => by simp [famH, hget]
  | L :: r, f, i + 1, h => by
    have := hget_fam r (f + 1) i (by simpa using h);simp only [famH, hget, if_neg (show ¬ f + (i + 1) = f by omega)];rw [show f + (i + 1) = f + 1 + i by omega, this]; simp
theorem uses_rows (U : Nat -> Prop) (L : List α) : DV.usesL U (rows g L).flatten :=
  usesL_iff.2 fun d hd => by
    obtain ⟨r, hr, hd⟩ := List.mem_flatten.1 hd;obtain ⟨x, _, rfl⟩ := List.mem_map.1 hr;obtain ⟨y, _, rfl⟩ := List.mem_map.1 hd;trivial
theorem uses_famR (U : Nat -> Prop) : ∀ (k f : Nat), (∀ i, i < k -> U (f + i)) -> DV.usesL U (famR f k).flatten
  | 0, _, _ => trivial
  | k + 1, f, h => by
    simp only [famR, List.flatten_cons, List.cons_append, List.nil_append];exact ⟨h 0 (by omega), uses_famR U k (f + 1) fun i hi => by have := h (i + 1) (by omega); rwa [show f + (i + 1) = f + 1 + i by omega] at this⟩
theorem HSat.seen {B : Base} {U U' : Nat -> Prop} {ρ ρ' : Nat -> Hd} {S : Nat -> Prop} {w : World} {h h' : Nat -> Option HV} (H : HSat B U ρ S w h) (hρ : ∀ i, B.U0 i -> ρ' i = ρ i)
    (hh : ∀ i v, h' i = some v -> HRel ρ' S w i v /\ U' i /\ v.uses U' /\ ∀ b, hblk (ρ' i) v = some b -> ∃ u, h i = some u /\ hblk (ρ i) u = some b) : HSat B U' ρ' S w h' where
  heap i v k := (hh i v k).1
  heapU i v k := ⟨(hh i v k).2.1, (hh i v k).2.2.1⟩
  disj i j v u b hi hj h1 h2 := by
    obtain ⟨v', k1, k2⟩ := (hh i v hi).2.2.2 b h1;obtain ⟨u', k3, k4⟩ := (hh j u hj).2.2.2 b h2;exact H.disj i j v' u' b k1 k3 k2 k4
  sep i v b hi hb := by
    obtain ⟨v', k1, k2⟩ := (hh i v hi).2.2.2 b hb;exact H.sep i v' b k1 k2
  prov i v b hi hb := by
    obtain ⟨v', k1, k2⟩ := (hh i v hi).2.2.2 b hb;exact H.prov i v' b k1 k2
  sIn := H.sIn
  sProv := H.sProv
  sOld := H.sOld
  pin i hi := (hρ i hi).trans (H.pin i hi)
  ownU := H.ownU
  os := H.os
  tape := H.tape
  output := H.output
  size := H.size
  keep := H.keep
def nilRow : List DV := [.p (.lit (.slice none 0 0))]
theorem nils_flat (k : Nat) : (List.replicate k nilRow).flatten = List.replicate k (.p (.lit (.slice none 0 0))) := by
  induction k with
  | zero => rfl
  | succ k ih => simp [List.replicate_succ, nilRow, ih]
theorem famR_flat : ∀ (k f : Nat), (famR f k).flatten = (List.range' f k).map DV.gl
  | 0, _ => rfl
  | k + 1, f => by simp [famR, List.range'_succ, famR_flat k (f + 1)]
end
section
variable [Dfr]
variable {P : Program}
theorem swp_fam {α : Type} (g : α -> List PV) {N pin nx nx' : Nat} {A : LE} {Q : Exit -> LE -> LH -> Nat -> Prop} {c : Code} (o k K n : Nat) (t e : TypeId) (ho : o < nx) (hkK : k <= K) (hn : nx + K <= nx')
    (h : SWp P N pin c Q A ((o, .lst t 1 (famR nx k)) :: famH g e n nx (List.replicate K [])) nx') : SWp P N pin c Q A [(o, .lst t 1 (List.replicate k nilRow))] nx := fun hp B hB a w hS => by
  obtain ⟨ρ, S, HS, ES⟩ := hS
  let ρ' : Nat -> Hd := fun i => if nx <= i then { a := none, len := 0, cap := 0 } else ρ i
  have hlt : ∀ i, i < nx -> ρ' i = ρ i := fun i hi => if_neg (by omega)
  have hge : ∀ i, nx <= i -> ρ' i = { a := none, len := 0, cap := 0 } := fun i hi => if_pos hi
  have h0 : hget [(o, HV.lst t 1 (List.replicate k nilRow))] o = some (.lst t 1 (List.replicate k nilRow)) := by simp [hget]
  have hO := HS.heap o _ h0;refine h (by omega) B hB a w ⟨ρ', S, ?_, ?_⟩
  · refine HS.seen (fun i hi => hlt i (by have := hB i hi; omega)) fun i v hi => ?_
    simp only [hget] at hi;split at hi
    · next e1 =>
      subst e1;obtain rfl := Option.some.inj hi;refine ⟨?_, by omega, uses_famR _ _ _ fun i hi => by omega, fun b hb => ⟨_, h0, ?_⟩⟩
      · simp only [HRel] at hO ⊢;rw [hlt i ho];obtain ⟨h1, h2, h3, h4, h5⟩ := hO;simp only [List.length_replicate] at h1 h2 h3;refine ⟨by rw [famR_len]; exact h1, by rw [famR_len]; exact h2, by rw [famR_len]; exact h3, fun r hr => ?_, ?_⟩
        · obtain ⟨j, hj⟩ := List.mem_iff_getElem?.1 hr;by_cases hjk : j < k
          · rw [famR_at k nx j hjk] at hj; obtain rfl := Option.some.inj hj; rfl
          · rw [List.getElem?_eq_none (by rw [famR_len]; omega)] at hj; cases hj
        · rcases h5 with h5 | ⟨b, vs, sp, fz, k1, k2, k3, k4, k5⟩
          · exact .inl h5
          · refine .inr ⟨b, vs, sp, fz, k1, k2, ?_, k4, k5⟩;rw [nils_flat] at k3;have hl := RelL_length k3;rw [List.length_replicate] at hl;rw [famR_flat];refine RelL_mk (by simp [hl]) fun j hj => ?_
            simp only [List.length_map, List.length_range'] at hj;have hv := RelL_get k3 j (by simpa using hj);have e2 : (List.replicate k (DV.p (.lit (.slice none 0 0)))).getD j default = .p (.lit (.slice none 0 0)) := by simp [List.getD_eq_getElem?_getD, hj]
            rw [e2] at hv;have e3 : ((List.range' nx k).map DV.gl).getD j default = .gl (nx + j) := by simp [List.getD_eq_getElem?_getD, hj]
            rw [e3];simp only [Rel];rw [hge _ (by omega)];exact rel_lit hv
      · rw [hlt i ho] at hb; exact hb
    · next e1 =>
      by_cases hlo : i < nx
      · rw [hget_fam_lt g e n _ _ _ hlo] at hi; cases hi
      · by_cases hhi : nx + K <= i
        · rw [hget_fam_ge g e n _ _ _ (by simpa using hhi)] at hi; cases hi
        · have hk : i - nx < K := by omega
          have := hget_fam g e n (List.replicate K []) nx (i - nx) (by simpa using hk);rw [show nx + (i - nx) = i by omega] at this;rw [this] at hi;have e4 : (List.replicate K ([] : List α)).getD (i - nx) [] = [] := by simp [List.getD_eq_getElem?_getD, hk]
          rw [e4] at hi;obtain rfl := Option.some.inj hi;refine ⟨?_, by omega, trivial, fun b hb => ?_⟩
          · simp only [HRel, hge i (by omega)];exact ⟨rfl, by simp [rows, BL], by simp [rows], by simp [rows], .inl trivial⟩
          · simp only [hblk, hge i (by omega)] at hb; simp at hb
  · exact ES.mono (fun i hi => hlt i hi) (fun _ k => k) (fun _ _ => rfl) fun i k => by omega
def datRow {α : Type} (g : α -> List PV) (n : Nat) (L : List α) : List DV := [.p (.dat n (L.map g))]
theorem frz_dat {α : Type} (g : α -> List PV) (n o : Nat) (x : FV) (D : List (List α)) : (D.map (datRow g n)).map (DV.frzL o x) = D.map (datRow g n) := by
  rw [List.map_map]; exact List.map_congr_left fun L _ => rfl
theorem frz_famR : ∀ (k f o : Nat) (x : FV), o < f -> (famR f k).map (DV.frzL o x) = famR f k
  | 0, _, _, _, _ => rfl
  | k + 1, f, o, x, h => by
    simp only [famR, List.map_cons, DV.frzL, DV.frz];rw [if_neg (by omega), frz_famR k (f + 1) o x (by omega)]
theorem frz_rows {α : Type} (g : α -> List PV) (o : Nat) (x : FV) (L : List α) : (rows g L).map (DV.frzL o x) = rows g L := by
  simp only [rows, List.map_map];refine List.map_congr_left fun y _ => ?_
  simp only [Function.comp, frzL_p]
theorem hfrz_fam {α : Type} (g : α -> List PV) (e : TypeId) (n o : Nat) (x : FV) : ∀ (Ls : List (List α)) (f : Nat), o < f -> hfrzL o x (famH g e n f Ls) = famH g e n f Ls
  | [], _, _ => rfl
  | L :: r, f, h => by
    simp only [famH, hfrzL, HV.frz, frz_rows];rw [if_neg (by omega), hfrz_fam g e n o x r (f + 1) (by omega)]
theorem fv_rows {α : Type} (g : α -> List PV) (e : TypeId) (n : Nat) (L : List α) : (HV.lst e n (rows g L)).fv = some (.elems n (L.map g)) := by
  simp only [HV.fv];rw [rows_pv]; rfl
theorem swp_famfrz {α : Type} (g : α -> List PV) {N pin nx : Nat} {A : LE} {Q : Exit -> LE -> LH -> Nat -> Prop} {c : Code} (o n : Nat) (t e : TypeId) : ∀ (Ls D : List (List α)) (f : Nat), pin <= f -> o < f -> (∀ i x, f <= i -> i < f + Ls.length -> efrz i x A = A) ->
    SWp P N pin c Q A [(o, .lst t 1 ((D ++ Ls).map (datRow g n)))] nx -> SWp P N pin c Q A ((o, .lst t 1 (D.map (datRow g n) ++ famR f Ls.length)) :: famH g e n f Ls) nx
  | [], D, f, _, _, _, h => by simpa [famR, famH] using h
  | L :: r, D, f, hp, ho, hA, h => by
    refine swp_frz f hp (v := .lst e n (rows g L)) (x := .elems n (L.map g)) ?_ (fv_rows g e n L) (hA f _ (Nat.le_refl _) (by simp)) rfl ?_
    · simp [hget, famH, show ¬ f = o by omega]
    · have e1 : hfrzL f (.elems n (L.map g)) ((o, HV.lst t 1 (D.map (datRow g n) ++ famR f (L :: r).length)) :: famH g e n f (L :: r)) = (o, .lst t 1 ((D ++ [L]).map (datRow g n) ++ famR (f + 1) r.length)) :: famH g e n (f + 1) r := by
        simp only [famH, hfrzL, if_neg (show ¬ o = f by omega), if_true, HV.frz, List.map_append, frz_dat, List.length_cons, famR, List.map_cons, DV.frzL, DV.frz, frz_famR r.length (f + 1) f _ (by omega), hfrz_fam g e n f _ r (f + 1) (by omega), List.map_nil, List.append_assoc];rfl
      rw [e1];exact swp_famfrz g o n t e r (D ++ [L]) (f + 1) (by omega) (by omega) (fun i x h1 h2 => hA i x (by omega) (by simp only [List.length_cons]; omega)) (by simpa using h)
end
theorem nz_t {p : Prop} [Decidable p] [h : Nonempty p] : decide p = true := decide_eq_true (h.elim id)
theorem nz_f {p : Prop} [Decidable p] [h : Nonempty (¬ p)] : decide p = false := decide_eq_false (h.elim id)
theorem nzb_t {a b : Int} [h : Nonempty (a = b)] : (a == b) = true := beq_iff_eq.2 (h.elim id)
theorem nzb_f {a b : Int} [h : Nonempty (¬ a = b)] : (a == b) = false := beq_eq_false_iff_ne.2 (h.elim id)
theorem lapp_cons {α : Type} (a : α) (l m : List α) : List.append (a :: l) m = a :: List.append l m := rfl
theorem lapp_nil {α : Type} (m : List α) : List.append [] m = m := rfl
theorem nzn_t {a b : Int} [h : Nonempty (a = b)] : (a != b) = false := by rw [bne_eq_false_iff_eq]; exact h.elim id
theorem nzn_f {a b : Int} [h : Nonempty (¬ a = b)] : (a != b) = true := by rw [bne_iff_ne]; exact h.elim id
attribute [push_cast] nzn_t nzn_f
theorem idx_nz {α : Type} [Inhabited α] (f : α -> List PV) (l : List α) (i : Nat) [h : Nonempty (i < l.length)] : idx (l.map f) (i : Int) = f (l.getD i default) := idx_nat f l i (h.elim id)
theorem rows_nz {α : Type} [Inhabited α] (f : α -> List PV) (l : List α) (i : Nat) [h : Nonempty (i < l.length)] : (rows f l).getD i [] = (f (l.getD i default)).map DV.p := rows_get f l i (h.elim id)
theorem famR_nz (f k i : Nat) [h : Nonempty (i < k)] : (famR f k).getD i [] = [.gl (f + i)] := famR_get (h.elim id)
attribute [push_cast] idx_nz rows_nz famR_nz famR_len
theorem set_in (l : List Int) (i : Nat) (v : Int) : (rows inRow l).set i [.p (.lit (.int .i64 v))] = rows inRow (l.set i v) := rows_set inRow l i v
theorem app_in (l : List Int) (v : Int) : rows inRow l ++ [[.p (.lit (.int .i64 v))]] = rows inRow (l ++ [v]) := by simp [rows, inRow]
attribute [push_cast] set_in app_in List.set_set
theorem dpick_t (x y : DV) : dpick true x y = x := by
  unfold dpick; split <;> rfl
theorem dpick_f (x y : DV) : dpick false x y = y := by
  unfold dpick; split <;> rfl
attribute [push_cast high] dpick_t dpick_f
attribute [push_cast] nz_t nz_f nzb_t nzb_f lapp_cons lapp_nil
end Go.Eng
