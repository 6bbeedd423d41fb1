/-
  A part of the engine that reckons calls at the level of data.
  No condition.
-/

import Derived.Test.YtgpllheklfbfhaaGreatEngL
namespace Go.Eng
set_option linter.all false
open Go.RowKit
section
variable {P : Program} {pin : Nat}
def dom (h : LH) (i : Nat) : Prop := (hget h i).isSome = true
mutual
def DV.mp (r : Nat -> Nat) : DV -> DV
  | .p x => .p x
  | .ptr id off => .ptr (r id) off
  | .eptr id m i j => .eptr (r id) m i j
  | .gl id => .gl (r id)
  | .mref id => .mref (r id)
  | .clo f caps => .clo f (DV.mpL r caps)
  | .agg cs => .agg (DV.mpL r cs)
  | .tup cs => .tup (DV.mpL r cs)
  | .opt b d => .opt b (DV.mp r d)
  | .junk => .junk
def DV.mpL (r : Nat -> Nat) : List DV -> List DV
  | [] => []
  | d :: ds => DV.mp r d :: DV.mpL r ds
end
def HV.mp (r : Nat -> Nat) : HV -> HV
  | .blk t cs => .blk t (DV.mpL r cs)
  | .lst t m l => .lst t m (l.map (DV.mpL r))
  | .map es => .map (es.map fun e => (e.1, e.2.mp r))
  | .lent k l => .lent k l
def hmp (r : Nat -> Nat) : LH -> LH
  | [] => []
  | (i, v) :: H => (r i, v.mp r) :: hmp r H
theorem mpL_eq (r : Nat -> Nat) : ∀ l : List DV, DV.mpL r l = l.map (DV.mp r)
  | [] => rfl
  | d :: l => by simp [DV.mpL, mpL_eq r l]
theorem map_mp (r : Nat -> Nat) (es : List (Value × DV)) : (es.map fun e => (e.1, e.2.mp r)).map (·.2) = DV.mpL r (es.map (·.2)) := by simp [mpL_eq, Function.comp]
theorem mpL_flatten (r : Nat -> Nat) (l : List (List DV)) : (l.map (DV.mpL r)).flatten = DV.mpL r l.flatten := by
  induction l with
  | nil => rfl
  | cons x l ih => simp [ih, mpL_eq]
mutual
theorem Rel.mp {ρ ρ' : Nat -> Hd} {S V : Nat -> Prop} {w : World} {r : Nat -> Nat} (hρ : ∀ i, V i -> ρ' (r i) = ρ i) :
    ∀ (d : DV) (v : Value), d.uses V -> Rel ρ S w d v -> Rel ρ' S w (d.mp r) v
  | .p x, v, _, h => by simpa only [Rel, DV.mp] using h
  | .ptr id off, v, hu, h => by simp only [Rel, DV.mp, DV.uses] at *; rw [hρ _ hu]; exact h
  | .eptr id m i j, v, hu, h => by simp only [Rel, DV.mp, DV.uses] at *; rw [hρ _ hu]; exact h
  | .gl id, v, hu, h => by simp only [Rel, DV.mp, DV.uses] at *; rw [hρ _ hu]; exact h
  | .mref id, v, hu, h => by simp only [Rel, DV.mp, DV.uses] at *; rw [hρ _ hu]; exact h
  | .clo f cs, v, hu, h => by
    simp only [Rel, DV.mp, DV.uses] at *
    obtain ⟨vs, rfl, h⟩ := h;exact ⟨vs, rfl, RelL.mp hρ cs vs hu h⟩
  | .agg cs, v, hu, h => by
    simp only [Rel, DV.mp, DV.uses] at *
    obtain ⟨vs, rfl, h⟩ := h;exact ⟨vs, rfl, RelL.mp hρ cs vs hu h⟩
  | .tup cs, v, hu, h => by
    simp only [Rel, DV.mp, DV.uses] at *
    obtain ⟨vs, rfl, h⟩ := h;exact ⟨vs, rfl, RelL.mp hρ cs vs hu h⟩
  | .opt b d, v, hu, h => by
    simp only [Rel, DV.mp, DV.uses] at *
    exact ⟨fun e => Rel.mp hρ d v (hu e) (h.1 e), h.2⟩
  | .junk, v, _, _ => by simp only [Rel, DV.mp]
theorem RelL.mp {ρ ρ' : Nat -> Hd} {S V : Nat -> Prop} {w : World} {r : Nat -> Nat} (hρ : ∀ i, V i -> ρ' (r i) = ρ i) :
    ∀ (ds : List DV) (vs : List Value), DV.usesL V ds -> RelL ρ S w ds vs -> RelL ρ' S w (DV.mpL r ds) vs
  | [], [], _, _ => trivial
  | d :: ds, v :: vs, hu, h => ⟨Rel.mp hρ d v hu.1 h.1, RelL.mp hρ ds vs hu.2 h.2⟩
  | [], _ :: _, _, h => h.elim
  | _ :: _, [], _, h => h.elim
end
mutual
theorem uses_mp {U V : Nat -> Prop} {r : Nat -> Nat} (k : ∀ i, V i -> U (r i)) : ∀ d : DV, d.uses V -> (d.mp r).uses U
  | .p _, _ => trivial
  | .ptr _ _, h => k _ h
  | .eptr .., h => k _ h
  | .gl _, h => k _ h
  | .mref _, h => k _ h
  | .clo _ cs, h => usesL_mp k cs h
  | .agg cs, h => usesL_mp k cs h
  | .tup cs, h => usesL_mp k cs h
  | .opt _ d, h => fun e => uses_mp k d (h e)
  | .junk, _ => trivial
theorem usesL_mp {U V : Nat -> Prop} {r : Nat -> Nat} (k : ∀ i, V i -> U (r i)) : ∀ l : List DV, DV.usesL V l -> DV.usesL U (DV.mpL r l)
  | [], _ => trivial
  | d :: l, h => ⟨uses_mp k d h.1, usesL_mp k l h.2⟩
end
theorem HV.uses_mp {U V : Nat -> Prop} {r : Nat -> Nat} (k : ∀ i, V i -> U (r i)) : ∀ v : HV, v.uses V -> (v.mp r).uses U
  | .blk _ cs, h => usesL_mp k cs h
  | .lst _ _ l, h => by simp only [HV.uses, HV.mp, mpL_flatten] at *; exact usesL_mp k _ h
  | .map es, h => by simp only [HV.uses, HV.mp, map_mp] at *; exact usesL_mp k _ h
  | .lent _ _, _ => trivial
theorem hblk_mp {g : Hd} {r : Nat -> Nat} (v : HV) : hblk g (v.mp r) = hblk g v := by cases v <;> rfl
theorem HRel.mp {ρ ρ' : Nat -> Hd} {S V : Nat -> Prop} {w : World} {r : Nat -> Nat} {id : Nat} {v : HV} (hρ : ∀ i, V i -> ρ' (r i) = ρ i) (hid : V id) (hu : v.uses V) (h : HRel ρ S w id v) : HRel ρ' S w (r id) (v.mp r) := by
  cases v with
  | blk t cs =>
    simp only [HRel, HV.mp] at *
    obtain ⟨b, vs, fz, h1, h2, h3, h4⟩ := h;exact ⟨b, vs, fz, by rw [hρ _ hid]; exact h1, h2, RelL.mp hρ cs vs hu h3, h4⟩
  | lst t m l =>
    simp only [HRel, HV.mp] at *
    rw [hρ _ hid];obtain ⟨h1, h2, h3, h4, h5⟩ := h;refine ⟨by simpa using h1, by simpa using h2, by simpa using h3, ?_, ?_⟩
    · intro q hq;obtain ⟨q', hq', rfl⟩ := List.mem_map.1 hq;rw [mpL_eq, List.length_map]; exact h4 _ hq'
    · rcases h5 with h5 | ⟨b, vs, sp, fz, k1, k2, k3, k4, k5⟩
      · exact .inl h5
      · refine .inr ⟨b, vs, sp, fz, k1, k2, ?_, k4, k5⟩;rw [mpL_flatten]; exact RelL.mp hρ _ vs hu k3
  | map es =>
    simp only [HRel, HV.mp] at *
    rw [hρ _ hid];obtain ⟨b, vs, ck, h1, h2, h3, h4, h5⟩ := h;refine ⟨b, vs, ck, h1, h2, by rw [h3]; simp [Function.comp], ?_, h5⟩;rw [map_mp]; exact RelL.mp hρ _ _ hu h4
  | lent k l =>
    simp only [HRel, HV.mp] at *
    rw [hρ _ hid]; exact h
mutual
def DV.clean : DV -> Prop
  | .p _ => True
  | .ptr .. => False
  | .eptr .. => False
  | .gl _ => False
  | .mref _ => False
  | .clo _ cs => DV.cleanL cs
  | .agg cs => DV.cleanL cs
  | .tup cs => DV.cleanL cs
  | .opt _ d => DV.clean d
  | .junk => True
def DV.cleanL : List DV -> Prop
  | [] => True
  | d :: ds => DV.clean d /\ DV.cleanL ds
end
mutual
theorem mp_id (r : Nat -> Nat) : ∀ d : DV, d.clean -> d.mp r = d
  | .p _, _ => rfl
  | .ptr _ _, h => h.elim
  | .eptr .., h => h.elim
  | .gl _, h => h.elim
  | .mref _, h => h.elim
  | .clo f cs, h => by simp only [DV.mp]; rw [mpL_id r cs h]
  | .agg cs, h => by simp only [DV.mp]; rw [mpL_id r cs h]
  | .tup cs, h => by simp only [DV.mp]; rw [mpL_id r cs h]
  | .opt b d, h => by simp only [DV.mp]; rw [mp_id r d h]
  | .junk, _ => rfl
theorem mpL_id (r : Nat -> Nat) : ∀ l : List DV, DV.cleanL l -> DV.mpL r l = l
  | [], _ => rfl
  | d :: l, h => by simp only [DV.mpL]; rw [mp_id r d h.1, mpL_id r l h.2]
end
mutual
theorem clean_uses (U : Nat -> Prop) : ∀ d : DV, d.clean -> d.uses U
  | .p _, _ => trivial
  | .ptr _ _, h => h.elim
  | .eptr .., h => h.elim
  | .gl _, h => h.elim
  | .mref _, h => h.elim
  | .clo f cs, h => cleanL_uses U cs h
  | .agg cs, h => cleanL_uses U cs h
  | .tup cs, h => cleanL_uses U cs h
  | .opt b d, h => fun _ => clean_uses U d h
  | .junk, _ => trivial
theorem cleanL_uses (U : Nat -> Prop) : ∀ l : List DV, DV.cleanL l -> DV.usesL U l
  | [], _ => trivial
  | d :: l, h => ⟨clean_uses U d h.1, cleanL_uses U l h.2⟩
end
theorem hget_mp {r : Nat -> Nat} : ∀ {H : LH} {i : Nat} {v : HV}, hget (hmp r H) i = some v -> ∃ j u, hget H j = some u /\ i = r j /\ v = u.mp r
  | [], i, v, h => by cases h
  | (s, x) :: H, i, v, h => by
    simp only [hmp, hget] at h;split at h
    · next e => cases h; exact ⟨s, x, by simp [hget], e, rfl⟩
    · next hn =>
      obtain ⟨j, u, k1, k2, k3⟩ := hget_mp h;refine ⟨j, u, ?_, k2, k3⟩;have : j ≠ s := fun e => hn (by rw [k2, e])
      simp only [hget, if_neg this]; exact k1
def rf : List Nat -> Nat -> Nat -> Nat
  | [], _, i => i
  | x :: M, m, i => if i = x then m else rf M (m + 1) i
theorem rf_not : ∀ {M : List Nat} {m i : Nat}, i ∉ M -> rf M m i = i
  | [], _, _, _ => rfl
  | x :: M, m, i, h => by
    simp only [List.mem_cons, not_or] at h;simp only [rf, if_neg h.1]; exact rf_not h.2
theorem rf_mem : ∀ {M : List Nat} {m i : Nat}, i ∈ M -> ∃ k, k < M.length /\ rf M m i = m + k /\ M.getD k 0 = i
  | [], _, _, h => by cases h
  | x :: M, m, i, h => by
    by_cases e : i = x
    · subst e; exact ⟨0, by simp, by simp [rf], by simp⟩
    · obtain ⟨k, k1, k2, k3⟩ := rf_mem (m := m + 1) ((List.mem_cons.1 h).resolve_left e);exact ⟨k + 1, by simpa using k1, by simp only [rf, if_neg e, k2]; omega, by simpa using k3⟩
def okid (h : LH) (pin : Nat) (M : List Nat) (i : Nat) : Prop := i ∈ M ∨ (i < pin /\ dom h i)
def usesM (h : LH) (pin : Nat) (M : List Nat) : LH -> Prop
  | [] => True
  | (i, v) :: r => okid h pin M i /\ v.uses (okid h pin M) /\ usesM h pin M r
theorem usesM_get {h : LH} {pin : Nat} {M : List Nat} : ∀ {H : LH}, usesM h pin M H -> ∀ i v, hget H i = some v -> okid h pin M i /\ v.uses (okid h pin M)
  | [], _, _, _, e => by cases e
  | (s, d) :: H, hu, i, v, e => by
    simp only [hget] at e; split at e
    · next k => subst k; cases e; exact ⟨hu.1, hu.2.1⟩
    · exact usesM_get hu.2.2 i v e
theorem HSat.leave {C M : List Nat} {m : Nat} {ρ ρ' : Nat -> Hd} {S S' U U' : Nat -> Prop} {w w' : World} {h H1 : LH} (H0 : HSat0 U ρ S w (hget h)) (hm : ∀ i, W8 m i -> ¬ U i)
    (hMp : ∀ i, i ∈ M -> pin <= i) (hMl : M.length <= 8) (HS : HSat (Base.of (fun i => i ∈ C) (fun i => i < pin) ρ S w (hget h)) U' ρ' S' w' (hget H1)) (hH1 : usesM h pin M H1)
    {d : DV} {v : Value} (hr : Rel ρ' S' w' d v) (hu : d.uses (okid h pin M)) :
    ∃ ρ2, HSat (Base.of (fun i => i ∈ C) U ρ S w (hget h)) (fun i => U i ∨ W8 m i) ρ2 S' w' (hget (hmp (rf M m) H1)) /\ Rel ρ2 S' w' (d.mp (rf M m)) v /\ (d.mp (rf M m)).uses (fun i => U i ∨ W8 m i) := by
  classical
  have hpin : ∀ i, i < pin -> ρ' i = ρ i := fun i hi => HS.pin i hi
  have hdomU : ∀ i, dom h i -> U i := fun i hi => by
    obtain ⟨v0, hv0⟩ := Option.isSome_iff_exists.1 hi;exact (H0.heapU i v0 hv0).1
  have hold : ∀ i, i < pin -> rf M m i = i := fun i hi => rf_not fun k => by have := hMp i k; omega
  obtain ⟨ρ2, hρ2⟩ : ∃ ρ2 : Nat -> Hd, ∀ i, ρ2 i = if W8 m i then ρ' (M.getD (i - m) 0) else ρ i := ⟨_, fun _ => rfl⟩
  refine ⟨ρ2, ?_⟩;have hρ : ∀ i, okid h pin M i -> ρ2 (rf M m i) = ρ' i := fun i hi => by
    rw [hρ2];rcases hi with hi | ⟨hi, hd⟩
    · obtain ⟨k, k1, k2, k3⟩ := rf_mem (m := m) hi;rw [k2, if_pos (by unfold W8; omega), show m + k - m = k by omega, k3]
    · rw [hold i hi, if_neg (fun k => hm i k (hdomU i hd)), hpin i hi]
  have hUU : ∀ i, okid h pin M i -> (U (rf M m i) ∨ W8 m (rf M m i)) := fun i hi => by
    rcases hi with hi | ⟨hi, hd⟩
    · obtain ⟨k, k1, k2, k3⟩ := rf_mem (m := m) hi;rw [k2]; exact .inr (by unfold W8; omega)
    · rw [hold i hi]; exact .inl (hdomU i hd)
  refine ⟨?_, Rel.mp hρ d v hu hr, uses_mp hUU d hu⟩;have hfr : ∀ b, (Base.of (fun i => i ∈ C) (fun i => i < pin) ρ S w (hget h)).fresh b -> (Base.of (fun i => i ∈ C) U ρ S w (hget h)).fresh b := fun b hb => hb
  exact {
      heap := fun i v hi => by
        obtain ⟨j, u, k1, rfl, rfl⟩ := hget_mp hi;have h1 := usesM_get hH1 j u k1;exact HRel.mp hρ h1.1 h1.2 (HS.heap j u k1)
      heapU := fun i v hi => by
        obtain ⟨j, u, k1, rfl, rfl⟩ := hget_mp hi;have h1 := usesM_get hH1 j u k1;exact ⟨hUU j h1.1, HV.uses_mp hUU u h1.2⟩
      disj := fun i j v u b hi hj hbi hbj => by
        obtain ⟨i', v', k1, rfl, rfl⟩ := hget_mp hi;obtain ⟨j', u', q1, rfl, rfl⟩ := hget_mp hj;rw [hρ i' (usesM_get hH1 i' v' k1).1, hblk_mp] at hbi;rw [hρ j' (usesM_get hH1 j' u' q1).1, hblk_mp] at hbj;rw [HS.disj i' j' v' u' b k1 q1 hbi hbj]
      sep := fun i v b hi hbi => by
        obtain ⟨j, u, k1, rfl, rfl⟩ := hget_mp hi;rw [hρ j (usesM_get hH1 j u k1).1, hblk_mp] at hbi;exact HS.sep j u b k1 hbi
      prov := fun i v b hi hbi => by
        obtain ⟨j, u, k1, rfl, rfl⟩ := hget_mp hi;rw [hρ j (usesM_get hH1 j u k1).1, hblk_mp] at hbi;rcases HS.prov j u b k1 hbi with ⟨q1, q2, v0, q3, q4⟩ | k
        · have q2' : j < pin := q2;rw [hold j q2'];exact .inl ⟨q1, (H0.heapU j v0 q3).1, v0, q3, q4⟩
        · exact .inr (hfr b k)
      sIn := HS.sIn
      sProv := fun b hb => (HS.sProv b hb).imp id (hfr b)
      sOld := HS.sOld
      pin := fun i hi => by
        have hi' : U i := hi;rw [hρ2]; exact if_neg (fun k => hm i k hi')
      ownU := fun i b hb => hb.2.1
      os := HS.os
      tape := HS.tape
      output := HS.output
      size := HS.size
      keep := fun b hb ho hf => HS.keep b hb (fun i ⟨q1, _, v, q3, q4⟩ => ho i ⟨q1, (H0.heapU i v q3).1, v, q3, q4⟩) hf }
theorem DCallsG.intro {g : FuncId} {fn : Func} {c : Code} {n : Nat} {rs : List ResultVar} {ts : List TypeId} (hf : P.funcs[g]? = some fn) (hb : (fn.body, fn.ntmps, fn.results.toList, fn.resultTypes.toList) = (some c, n, rs, ts)) (hname : fn.name ≠ "runtime.NumGoroutine") (pin n0 : Nat) (F C M : List Nat) {args : List DV} {h h0 h' : LH} {d d0 : DV} {m : Nat}
    (hp : pin <= n0) (hN : args.length <= n) (hu : DV.usesL (fun i => i < n0) args) (hh : usesH n0 h) (hC : ∀ i v, hget h i = some v -> i ∈ C ∨ i < pin) (hMp : ∀ i, i ∈ M -> pin <= i) (hMl : M.length <= 8) (hdu : d0.uses (okid h pin M)) (hh' : usesM h pin M h0)
    (hd : SWp P n pin c (endP P pin rs ts F fun d1 H1 => d1 = d0 /\ ∀ i v, hget h0 i = some v -> hget H1 i = some v) (enum 0 args) h n0)
    (ed : d0.mp (rf M m) = d) (eh : hmp (rf M m) h0 = h') : DCallsG P g C args (hget h) m d (hget h') := by
  subst ed eh;simp only [Prod.mk.injEq] at hb;obtain ⟨hb, rfl, rfl, rfl⟩ := hb;refine ⟨trivial, fun U ρ S w vs H0 hmU hr huU => CallsX.of ⟨fn, hf, by simp [hb], hname⟩ ?_⟩;refine (body_sound hf hb hp hN hu hh hd H0 hC hr).mono ?_;rintro e w' ⟨v, ρ', S', d', H', nx, rfl, HS, hr', hu', rfl, hH⟩;obtain ⟨ρ2, k1, k2, k3⟩ := HSat.leave H0 hmU hMp hMl (HS.drop hH) hh' hr' hdu;exact ⟨v, ρ2, S', rfl, k1, k2, k3⟩
theorem endP_mono {pin : Nat} {rs : List ResultVar} {ts : List TypeId} {F : List Nat} {R R' : DV -> LH -> Prop} (k : ∀ d H, R d H -> R' d H) : ∀ e A H n, endP P pin rs ts F R e A H n -> endP P pin rs ts F R' e A H n := fun e A H n h => by
  have key : (match dresL P A H rs with
    | some l => match frzAll pin F H (resD (normA P ts l)) with
      | some (H', d) => R d H'
      | none => False
    | none => False) -> (match dresL P A H rs with
    | some l => match frzAll pin F H (resD (normA P ts l)) with
      | some (H', d) => R' d H'
      | none => False
    | none => False) := fun h => by
    split at h
    · split at h
      · exact k _ _ h
      · exact h.elim
    · exact h.elim
  cases e with
  | normal => simp only [endP] at h ⊢; exact key h
  | ret => simp only [endP] at h ⊢; exact key h
  | _ => simp only [endP] at h
theorem DCalls.pure {g : FuncId} {fn : Func} {c : Code} {n : Nat} {rs : List ResultVar} {ts : List TypeId} (hf : P.funcs[g]? = some fn) (hb : (fn.body, fn.ntmps, fn.results.toList, fn.resultTypes.toList) = (some c, n, rs, ts)) (hname : fn.name ≠ "runtime.NumGoroutine") (F : List Nat) {args : List DV} {d : DV} {m : Nat}
    (hN : args.length <= n) (hu : DV.cleanL args) (hdu : d.clean)
    (hd : SWp P n 0 c (endP P 0 rs ts F fun d1 _ => d1 = d) (enum 0 args) [] 0) : DCalls P g args (hget []) m d (hget []) := by
  refine DCallsG.intro (h0 := []) (d0 := d) hf hb hname 0 0 F [] [] (Nat.le_refl _) hN (cleanL_uses _ _ hu) trivial (fun _ _ k => by cases k) (fun _ k => by cases k) (by simp) (clean_uses _ _ hdu) trivial
    (hd.mono (endP_mono fun _ _ k => ⟨k, fun i v e => by cases e⟩)) (mp_id _ d hdu) rfl
theorem DCallsG.frame {g : FuncId} {C : List Nat} {args : List DV} {h h' hf : Nat -> Option HV} {m : Nat} {d : DV} (hc : DCallsG P g C args h m d h') (hs : ∀ i v, h i = some v -> hf i = some v) (hC : ∀ i, i ∈ C -> (h i).isSome = true)
    {h2 : Nat -> Option HV} (h2a : ∀ i, ((h i).isSome = true ∨ W8 m i) -> h2 i = h' i ∨ h2 i = none) (h2b : ∀ i, ¬ ((h i).isSome = true ∨ W8 m i) -> h2 i = hf i ∨ h2 i = none) :
    DCallsG P g C args hf m d h2 := by
  refine ⟨hc.1, fun U ρ S w vs H0 hmU hr huU => ?_⟩;have H1 : HSat0 U ρ S w h := ⟨fun i v k => H0.heap i v (hs i v k), fun i v k => H0.heapU i v (hs i v k), fun i j v u b hi hj => H0.disj i j v u b (hs i v hi) (hs j u hj), fun i v b k => H0.sep i v b (hs i v k), H0.sIn⟩;refine (hc.2 U ρ S w vs H1 hmU hr huU).mono ?_;rintro e w' ⟨v, ρ', S', rfl, HS, hr', hu'⟩;refine ⟨v, ρ', S', rfl, ?_, hr', hu'⟩;have hρ : ∀ i, U i -> ρ' i = ρ i := fun i hi => HS.pin i hi
  have hfr : ∀ b, (Base.of (fun i => i ∈ C) U ρ S w h).fresh b -> (Base.of (fun i => i ∈ C) U ρ S w hf).fresh b := fun b hb => by
    rcases hb with ⟨i, v, k1, k2, k3⟩ | k
    · exact .inl ⟨i, v, k1, hs i v k2, k3⟩
    · exact .inr k
  have hstay : ∀ i v b, hf i = some v -> ¬ (h i).isSome = true -> hblk (ρ i) v = some b -> w'.heap[b]? = w.heap[b]? := fun i v b hi hn hb => by
    have key : ∀ j u, h j = some u -> hblk (ρ j) u = some b -> False := fun j u k1 k2 => by
      have := H0.disj i j v u b hi (hs j u k1) hb k2;subst this;exact hn (by simp [k1])
    exact HS.keep b (hblk_lt (H0.heap i v hi) hb) (fun j ⟨_, _, u, k1, k2⟩ => key j u k1 k2) (fun ⟨j, u, _, k1, k2⟩ => key j u k1 k2)
  have hside : ∀ i v, h2 i = some v -> (h' i = some v /\ ((h i).isSome = true ∨ W8 m i)) ∨ (hf i = some v /\ ¬ (h i).isSome = true /\ ¬ W8 m i) := fun i v hi => by
    by_cases k : (h i).isSome = true ∨ W8 m i
    · rcases h2a i k with q | q
      · exact .inl ⟨q ▸ hi, k⟩
      · rw [q] at hi; cases hi
    · rcases h2b i k with q | q
      · exact .inr ⟨q ▸ hi, fun e => k (.inl e), fun e => k (.inr e)⟩
      · rw [q] at hi; cases hi
  have cross : ∀ i j v u b, h' i = some v -> hf j = some u -> ¬ (h j).isSome = true -> hblk (ρ' i) v = some b -> hblk (ρ' j) u = some b -> False := fun i j v u b hi hj hnj hbi hbj => by
    rw [hρ j (H0.heapU j u hj).1] at hbj;rcases HS.prov i v b hi hbi with ⟨_, _, v0, k1, k2⟩ | ⟨j0, v0, _, k1, k2⟩ | k
    · have := H0.disj i j v0 u b (hs i v0 k1) hj k2 hbj;subst this;exact hnj (by simp [k1])
    · have := H0.disj j0 j v0 u b (hs j0 v0 k1) hj k2 hbj;subst this;exact hnj (by simp [k1])
    · have := hblk_lt (H0.heap j u hj) hbj;have k' : w.heap.size <= b := k;omega
  exact {
    heap := fun i v hi => by
      rcases hside i v hi with ⟨k, _⟩ | ⟨k, kn, _⟩
      · exact HS.heap i v k
      · have h1 := H0.heap i v k;exact h1.mono (U := U) hρ (fun b hb => HS.sOld b hb) (fun b hb => HS.keep b (H0.sIn b hb) (fun j ⟨_, _, u, k1, k2⟩ => H0.sep j u b (hs j u k1) k2 hb) (fun ⟨j, u, _, k1, k2⟩ => H0.sep j u b (hs j u k1) k2 hb)) (H0.heapU i v k).1 (H0.heapU i v k).2 (fun b hb => hstay i v b k kn hb)
    heapU := fun i v hi => by
      rcases hside i v hi with ⟨k, _⟩ | ⟨k, _⟩
      · exact HS.heapU i v k
      · exact ⟨.inl (H0.heapU i v k).1, HV.uses_mono (fun _ k => .inl k) v (H0.heapU i v k).2⟩
    disj := fun i j v u b hi hj hbi hbj => by
      rcases hside i v hi with ⟨k, _⟩ | ⟨k, kn, _⟩ <;> rcases hside j u hj with ⟨l, _⟩ | ⟨l, ln, _⟩
      · exact HS.disj i j v u b k l hbi hbj
      · exact (cross i j v u b k l ln hbi hbj).elim
      · exact (cross j i u v b l k kn hbj hbi).elim
      · rw [hρ i (H0.heapU i v k).1] at hbi;rw [hρ j (H0.heapU j u l).1] at hbj;exact H0.disj i j v u b k l hbi hbj
    sep := fun i v b hi hbi => by
      rcases hside i v hi with ⟨k, _⟩ | ⟨k, kn, _⟩
      · exact HS.sep i v b k hbi
      · rw [hρ i (H0.heapU i v k).1] at hbi;intro hS;rcases HS.sProv b hS with q | ⟨j0, v0, _, k1, k2⟩ | q
        · exact H0.sep i v b k hbi q
        · have := H0.disj j0 i v0 v b (hs j0 v0 k1) k k2 hbi;subst this;exact kn (by simp [k1])
        · have := hblk_lt (H0.heap i v k) hbi;have q' : w.heap.size <= b := q;omega
    prov := fun i v b hi hbi => by
      rcases hside i v hi with ⟨k, _⟩ | ⟨k, kn, _⟩
      · rcases HS.prov i v b k hbi with ⟨q1, q2, v0, k1, k2⟩ | q
        · exact .inl ⟨q1, q2, v0, hs i v0 k1, k2⟩
        · exact .inr (hfr b q)
      · rw [hρ i (H0.heapU i v k).1] at hbi;exact .inl ⟨fun hc => kn (hC i hc), (H0.heapU i v k).1, v, k, hbi⟩
    sIn := HS.sIn
    sProv := fun b hb => (HS.sProv b hb).imp id (hfr b)
    sOld := HS.sOld
    pin := HS.pin
    ownU := fun i b hb => hb.2.1
    os := HS.os
    tape := HS.tape
    output := HS.output
    size := HS.size
    keep := fun b hb ho hf => HS.keep b hb (fun i ⟨q1, q2, v, k1, k2⟩ => ho i ⟨q1, q2, v, hs i v k1, k2⟩) (fun ⟨i, v, q1, k1, k2⟩ => hf ⟨i, v, q1, hs i v k1, k2⟩) }
def hupd (hs hs' : LH) : LH -> LH
  | [] => []
  | (i, v) :: r => if (hget hs i).isSome = true then (match hget hs' i with
    | some u => (i, u) :: hupd hs hs' r
    | none => hupd hs hs' r) else (i, v) :: hupd hs hs' r
def hnew (hs : LH) : LH -> LH
  | [] => []
  | (i, v) :: r => if (hget hs i).isSome = true then hnew hs r else (i, v) :: hnew hs r
def happ : LH -> LH -> LH
  | [], b => b
  | x :: a, b => x :: happ a b
def hpat (H hs hs' : LH) : LH := happ (hnew hs hs') (hupd hs hs' H)
def keysIn (hs : LH) (m : Nat) : LH -> Prop
  | [] => True
  | (i, _) :: r => ((hget hs i).isSome = true ∨ W8 m i) /\ keysIn hs m r
def subH (H : LH) : LH -> Prop
  | [] => True
  | (i, v) :: r => hget H i = some v /\ subH H r
theorem keysIn_get {hs : LH} {m : Nat} : ∀ {H : LH}, keysIn hs m H -> ∀ i v, hget H i = some v -> (hget hs i).isSome = true ∨ W8 m i
  | [], _, _, _, e => by cases e
  | (s, d) :: H, hu, i, v, e => by
    simp only [hget] at e; split at e
    · next k => subst k; exact hu.1
    · exact keysIn_get hu.2 i v e
theorem subH_get {H : LH} : ∀ {hs : LH}, subH H hs -> ∀ i v, hget hs i = some v -> hget H i = some v
  | [], _, _, _, e => by cases e
  | (s, d) :: hs, hu, i, v, e => by
    simp only [hget] at e; split at e
    · next k => subst k; cases e; exact hu.1
    · exact subH_get hu.2 i v e
theorem hget_happ : ∀ (a b : LH) (i : Nat), hget (happ a b) i = (hget a i).or (hget b i)
  | [], _, _ => rfl
  | (s, d) :: a, b, i => by
    simp only [happ, hget, hget_happ a b i];split <;> rfl
theorem hget_hnew (hs : LH) : ∀ (H : LH) (i : Nat), hget (hnew hs H) i = if (hget hs i).isSome = true then none else hget H i
  | [], i => by simp [hnew, hget]
  | (s, d) :: H, i => by
    simp only [hnew];split
    · next k =>
      rw [hget_hnew hs H i];split
      · rfl
      · next k2 =>
        have : i ≠ s := fun e => k2 (e ▸ k)
        simp only [hget, if_neg this]
    · next k =>
      simp only [hget, hget_hnew hs H i];split
      · next e => subst e; rw [if_neg k]
      · rfl
theorem hget_hupd (hs hs' : LH) : ∀ (H : LH) (i : Nat), hget (hupd hs hs' H) i = if (hget hs i).isSome = true then (if (hget H i).isSome = true then hget hs' i else none) else hget H i
  | [], i => by simp [hupd, hget]
  | (s, d) :: H, i => by
    have ih := hget_hupd hs hs' H i;simp only [hupd];split
    · next k =>
      cases hu : hget hs' s with
      | some u =>
        simp only [hget, ih];by_cases e : i = s
        · subst e; simp [k, hu]
        · simp [if_neg e]
      | none =>
        simp only [hget, ih];by_cases e : i = s
        · subst e; simp [k, hu]
        · simp [if_neg e]
    · next k =>
      simp only [hget, ih];by_cases e : i = s
      · subst e; simp [k]
      · simp [if_neg e]
theorem hpat_eq {H hs hs' : LH} {m : Nat} (hsub : subH H hs) (hk : keysIn hs m hs') (i : Nat) :
    (((hget hs i).isSome = true ∨ W8 m i) -> (W8 m i -> hget H i = none) -> hget (hpat H hs hs') i = hget hs' i) /\ (¬ ((hget hs i).isSome = true ∨ W8 m i) -> hget (hpat H hs hs') i = hget H i) := by
  unfold hpat
  rw [hget_happ, hget_hnew, hget_hupd];by_cases k : (hget hs i).isSome = true
  · obtain ⟨v, hv⟩ := Option.isSome_iff_exists.1 k;have := subH_get hsub i v hv;simp [k, this]
  · rw [if_neg k, if_neg k];refine ⟨fun hw hf => ?_, fun hw => ?_⟩
    · rw [hf (hw.resolve_left k)]; cases hget hs' i <;> rfl
    · cases e : hget hs' i with
      | none => rfl
      | some u => exact absurd (keysIn_get hk i u e) hw
theorem DCallsG.on {g : FuncId} {C : List Nat} {args : List DV} {hs hs' : LH} {m : Nat} {d : DV} (hc : DCallsG P g C args (hget hs) m d (hget hs')) (H : LH) (hsub : subH H hs) (hC : ∀ i, i ∈ C -> (hget hs i).isSome = true) (hk : keysIn hs m hs') :
    DCallsG P g C args (hget H) m d (hget (hpat H hs hs')) := by
  refine ⟨hc.1, fun U ρ S w vs H0 hmU hr huU => ?_⟩;have hfr : ∀ i, W8 m i -> hget H i = none := fun i hi => by
    cases e : hget H i with
    | none => rfl
    | some x => exact absurd (H0.heapU i x e).1 (hmU i hi)
  exact (hc.frame (hf := hget H) (subH_get hsub) hC (h2 := hget (hpat H hs hs')) (fun i hi => .inl ((hpat_eq hsub hk i).1 hi (hfr i))) (fun i hi => .inl ((hpat_eq hsub hk i).2 hi))).2 U ρ S w vs H0 hmU hr huU
theorem DCalls.quiet {g : FuncId} {args : List DV} {m : Nat} {d : DV} (hc : ∀ m, DCalls P g args (hget []) m d (hget [])) (H : LH) : DCalls P g args (hget H) m d (hget H) := by
  have h1 := (hc m).on H trivial (fun _ k => by cases k) trivial;have key : ∀ H : LH, hupd [] [] H = H := fun H => by
    induction H with
    | nil => rfl
    | cons x r ih => simp [hupd, hget, ih]
  have e : hpat H [] [] = H := by
    unfold hpat
    simp only [hnew, happ, key]
  rwa [e] at h1
end
end Go.Eng
