/-
  A part of the engine that reckons calls at the level of data.
  No condition.
-/

import Derived.Test.YtgpllheklfbfhaaGreatEngS
namespace Go.Eng
set_option linter.all false
open Go.RowKit
mutual
theorem Rel.mpI {ρ ρ0 : Nat -> Hd} {S V : Nat -> Prop} {w : World} {r : Nat -> Nat} (hρ : ∀ i, V i -> ρ0 i = ρ (r i)) :
    ∀ (d : DV) (v : Value), d.uses V -> Rel ρ S w (d.mp r) v -> Rel ρ0 S w d v
  | .p x, v, _, h => by simpa only [Rel, DV.mp] using h
  | .ptr id off, v, hu, h => by simp only [Rel, DV.mp, DV.uses] at *; rw [hρ _ hu]; exact h
  | .eptr id m i j, v, hu, h => by simp only [Rel, DV.mp, DV.uses] at *; rw [hρ _ hu]; exact h
  | .gl id, v, hu, h => by simp only [Rel, DV.mp, DV.uses] at *; rw [hρ _ hu]; exact h
  | .mref id, v, hu, h => by simp only [Rel, DV.mp, DV.uses] at *; rw [hρ _ hu]; exact h
  | .clo f cs, v, hu, h => by
    simp only [Rel, DV.mp, DV.uses] at *
    obtain ⟨vs, rfl, h⟩ := h;exact ⟨vs, rfl, RelL.mpI hρ cs vs hu h⟩
  | .agg cs, v, hu, h => by
    simp only [Rel, DV.mp, DV.uses] at *
    obtain ⟨vs, rfl, h⟩ := h;exact ⟨vs, rfl, RelL.mpI hρ cs vs hu h⟩
  | .tup cs, v, hu, h => by
    simp only [Rel, DV.mp, DV.uses] at *
    obtain ⟨vs, rfl, h⟩ := h;exact ⟨vs, rfl, RelL.mpI hρ cs vs hu h⟩
  | .opt b d, v, hu, h => by
    simp only [Rel, DV.mp, DV.uses] at *
    exact ⟨fun e => Rel.mpI hρ d v (hu e) (h.1 e), h.2⟩
  | .junk, v, _, _ => by simp only [Rel]
theorem RelL.mpI {ρ ρ0 : Nat -> Hd} {S V : Nat -> Prop} {w : World} {r : Nat -> Nat} (hρ : ∀ i, V i -> ρ0 i = ρ (r i)) :
    ∀ (ds : List DV) (vs : List Value), DV.usesL V ds -> RelL ρ S w (DV.mpL r ds) vs -> RelL ρ0 S w ds vs
  | [], [], _, _ => trivial
  | d :: ds, v :: vs, hu, h => ⟨Rel.mpI hρ d v hu.1 h.1, RelL.mpI hρ ds vs hu.2 h.2⟩
  | [], _ :: _, _, h => h.elim
  | _ :: _, [], _, h => h.elim
end
theorem HRel.mpI {ρ ρ0 : Nat -> Hd} {S V : Nat -> Prop} {w : World} {r : Nat -> Nat} {id : Nat} {v : HV} (hρ : ∀ i, V i -> ρ0 i = ρ (r i)) (hid : V id) (hu : v.uses V) (h : HRel ρ S w (r id) (v.mp r)) : HRel ρ0 S w id v := by
  cases v with
  | blk t cs =>
    simp only [HRel, HV.mp] at *
    rw [hρ _ hid];obtain ⟨b, vs, fz, h1, h2, h3, h4⟩ := h;exact ⟨b, vs, fz, h1, h2, RelL.mpI hρ cs vs hu h3, h4⟩
  | lst t m l =>
    simp only [HRel, HV.mp] at *
    rw [hρ _ hid];obtain ⟨h1, h2, h3, h4, h5⟩ := h;refine ⟨by simpa using h1, by simpa using h2, by simpa using h3, ?_, ?_⟩
    · intro q hq;have := h4 (DV.mpL r q) (List.mem_map.2 ⟨q, hq, rfl⟩);rw [mpL_eq, List.length_map] at this; exact this
    · rcases h5 with h5 | ⟨b, vs, sp, fz, k1, k2, k3, k4, k5⟩
      · exact .inl h5
      · refine .inr ⟨b, vs, sp, fz, k1, k2, ?_, k4, k5⟩;rw [mpL_flatten] at k3; exact RelL.mpI hρ _ vs hu k3
  | map es =>
    simp only [HRel, HV.mp] at *
    rw [hρ _ hid];obtain ⟨b, vs, ck, h1, h2, h3, h4, h5⟩ := h;refine ⟨b, vs, ck, h1, h2, by rw [h3]; simp [Function.comp], ?_, h5⟩;rw [map_mp] at h4; exact RelL.mpI hρ _ _ hu h4
  | lent k l =>
    simp only [HRel, HV.mp] at *
    rw [hρ _ hid]; exact h
mutual
theorem uses_mpI {U : Nat -> Prop} {r : Nat -> Nat} : ∀ d : DV, (d.mp r).uses U -> d.uses fun i => U (r i)
  | .p _, _ => trivial
  | .ptr _ _, h => h
  | .eptr .., h => h
  | .gl _, h => h
  | .mref _, h => h
  | .clo _ cs, h => usesL_mpI cs h
  | .agg cs, h => usesL_mpI cs h
  | .tup cs, h => usesL_mpI cs h
  | .opt _ d, h => fun e => uses_mpI d (h e)
  | .junk, _ => trivial
theorem usesL_mpI {U : Nat -> Prop} {r : Nat -> Nat} : ∀ l : List DV, DV.usesL U (DV.mpL r l) -> DV.usesL (fun i => U (r i)) l
  | [], _ => trivial
  | d :: l, h => ⟨uses_mpI d h.1, usesL_mpI l h.2⟩
end
theorem HVuses_mpI {U V : Nat -> Prop} {r : Nat -> Nat} : ∀ v : HV, v.uses V -> (v.mp r).uses U -> v.uses fun i => V i /\ U (r i)
  | .blk _ cs, a, h => usesL_and _ a (usesL_mpI cs h)
  | .lst _ _ l, a, h => by simp only [HV.uses, HV.mp, mpL_flatten] at *; exact usesL_and _ a (usesL_mpI _ h)
  | .map es, a, h => by simp only [HV.uses, HV.mp, map_mp] at *; exact usesL_and _ a (usesL_mpI _ h)
  | .lent _ _, _, _ => trivial
def rr : List Nat -> Nat -> Nat -> Nat -> Nat
  | [], k, m, i => m + (i - k)
  | x :: R, k, m, i => if i = k then x else rr R (k + 1) m i
def apartL (m : Nat) : List Nat -> Prop
  | [] => True
  | x :: R => (x < m ∨ m + 8 <= x) /\ (∀ y, y ∈ R -> y ≠ x) /\ apartL m R
theorem rr_lo : ∀ {R : List Nat} {k m i : Nat}, k <= i -> i < k + R.length -> rr R k m i ∈ R
  | [], _, _, _, h1, h2 => by simp at h2; omega
  | x :: R, k, m, i, h1, h2 => by
    simp only [rr];by_cases e : i = k
    · simp [e]
    · rw [if_neg e]; exact List.mem_cons_of_mem _ (rr_lo (by omega) (by simp at h2; omega))
theorem rr_hi : ∀ {R : List Nat} {k m i : Nat}, k + R.length <= i -> rr R k m i = m + (i - (k + R.length))
  | [], _, _, _, _ => by simp [rr]
  | x :: R, k, m, i, h => by
    simp only [List.length_cons] at h;simp only [rr, if_neg (by omega : ¬ i = k), List.length_cons];rw [rr_hi (by omega)]; omega
theorem apartL_mem {m : Nat} : ∀ {R : List Nat}, apartL m R -> ∀ x, x ∈ R -> ¬ W8 m x
  | [], _, _, h => by cases h
  | y :: R, h, x, hx => by
    rcases List.mem_cons.1 hx with e | e
    · subst e; unfold W8; have := h.1; omega
    · exact apartL_mem h.2.2 x e
theorem rr_inj : ∀ {R : List Nat} {k m : Nat}, apartL m R -> ∀ i j, k <= i -> k <= j -> i < k + R.length + 8 -> j < k + R.length + 8 -> rr R k m i = rr R k m j -> i = j
  | [], k, m, _, i, j, h1, h2, _, _, h => by simp [rr] at h; omega
  | x :: R, k, m, hR, i, j, h1, h2, h3, h4, h => by
    simp only [List.length_cons] at h3 h4;have side : ∀ l, k + 1 <= l -> l < k + 1 + R.length + 8 -> rr R (k + 1) m l ≠ x := fun l hl hl2 e => by
      by_cases q : l < k + 1 + R.length
      · exact hR.2.1 _ (rr_lo (m := m) hl q) e
      · rw [rr_hi (by omega)] at e; have := hR.1; omega
    simp only [rr] at h;by_cases e1 : i = k
    · by_cases e2 : j = k
      · rw [e1, e2]
      · rw [if_pos e1, if_neg e2] at h; exact absurd h.symm (side j (by omega) (by omega))
    · by_cases e2 : j = k
      · rw [if_neg e1, if_pos e2] at h; exact absurd h (side i (by omega) (by omega))
      · rw [if_neg e1, if_neg e2] at h;exact rr_inj hR.2.2 i j (by omega) (by omega) (by omega) (by omega) h
theorem hmp_get {r : Nat -> Nat} : ∀ {H : LH} {j : Nat} {u : HV}, (∀ i, i ∈ keysL H -> r i = r j -> i = j) -> hget H j = some u -> hget (hmp r H) (r j) = some (u.mp r)
  | [], _, _, _, h => by cases h
  | (s, x) :: H, j, u, hi, h => by
    simp only [hmp, hget] at h ⊢;by_cases e : j = s
    · subst e; simp at h ⊢; rw [h]
    · rw [if_neg e] at h;have : ¬ r j = r s := fun k => e (hi s (by simp [keysL]) k.symm).symm
      rw [if_neg this];exact hmp_get (fun i hm => hi i (by simp [keysL, hm])) h
section
variable {P : Program}
theorem DCallsG.at {g : FuncId} {C : List Nat} {args : List DV} {h h' : LH} {d : DV} (R : List Nat) (m : Nat) (hc : DCallsG P g C args (hget h) R.length d (hget h')) (hR : apartL m R)
    (hh : usesH R.length h) (hu : DV.usesL (fun i => i < R.length) args) (hC : ∀ i, i ∈ C -> i < R.length) :
    DCallsG P g (C.map (rr R 0 m)) (DV.mpL (rr R 0 m) args) (hget (hmp (rr R 0 m) h)) m (d.mp (rr R 0 m)) (hget (hmp (rr R 0 m) h')) := by
  classical
  refine ⟨hc.1, fun U ρ S w vs H0 hmU hr huU => ?_⟩;have hinj := rr_inj (k := 0) hR;have hlo : ∀ i, i < R.length -> ¬ W8 m (rr R 0 m i) := fun i hi => apartL_mem hR _ (rr_lo (Nat.zero_le _) (by omega))
  have hhi : ∀ i, W8 R.length i -> W8 m (rr R 0 m i) := fun i hi => by
    rw [rr_hi (by unfold W8 at hi; omega)]; unfold W8 at *; omega
  have hkeys : ∀ i, i ∈ keysL h -> i < R.length := fun i hi => by
    have : ∀ (H : LH), usesH R.length H -> i ∈ keysL H -> i < R.length := fun H => by
      induction H with
      | nil => intro _ k; cases k
      | cons x r ih =>
        obtain ⟨s, v⟩ := x;intro hu k;simp only [keysL, List.mem_cons] at k;rcases k with rfl | k
        · exact hu.1
        · exact ih hu.2.2 k
    exact this h hh hi
  have hget1 : ∀ i v, hget h i = some v -> hget (hmp (rr R 0 m) h) (rr R 0 m i) = some (v.mp (rr R 0 m)) := fun i v hi =>
    hmp_get (fun j hj e => hinj j i (Nat.zero_le _) (Nat.zero_le _) (by have := hkeys j hj; omega) (by have := (usesH_get hh i v hi).1; omega) e) hi
  have H1 : HSat0 (fun i => i < R.length /\ U (rr R 0 m i)) (fun i => ρ (rr R 0 m i)) S w (hget h) := by
    refine ⟨fun i v hi => ?_, fun i v hi => ?_, fun i j v u b hi hj hbi hbj => ?_, fun i v b hi hb => ?_, H0.sIn⟩
    · have h1 := usesH_get hh i v hi;exact HRel.mpI (V := fun i => i < R.length) (fun _ _ => rfl) h1.1 h1.2 (H0.heap _ _ (hget1 i v hi))
    · have h1 := usesH_get hh i v hi;have h2 := H0.heapU _ _ (hget1 i v hi);refine ⟨⟨h1.1, h2.1⟩, ?_⟩;exact HVuses_mpI v h1.2 h2.2
    · have h1 := H0.disj _ _ _ _ b (hget1 i v hi) (hget1 j u hj) (by rw [hblk_mp]; exact hbi) (by rw [hblk_mp]; exact hbj);exact hinj i j (Nat.zero_le _) (Nat.zero_le _) (by have := (usesH_get hh i v hi).1; omega) (by have := (usesH_get hh j u hj).1; omega) h1
    · exact H0.sep _ _ b (hget1 i v hi) (by rw [hblk_mp]; exact hb)
  have hr1 : RelL (fun i => ρ (rr R 0 m i)) S w args vs := RelL.mpI (r := rr R 0 m) (V := fun i => i < R.length) (fun _ _ => rfl) args vs hu hr;have hu1 : DV.usesL (fun i => i < R.length /\ U (rr R 0 m i)) args := usesL_and args hu (usesL_mpI args huU);refine (hc.2 _ _ S w vs H1 (fun i hi k => by have := k.1; unfold W8 at hi; omega) hr1 hu1).mono ?_;rintro e w' ⟨v, ρ', S', rfl, HS, hr', hu'⟩;obtain ⟨ρ2, hρ2⟩ : ∃ ρ2 : Nat -> Hd, ∀ i, ρ2 i = if W8 m i then ρ' (R.length + (i - m)) else ρ i := ⟨_, fun _ => rfl⟩
  have hV : ∀ i, (i < R.length /\ U (rr R 0 m i)) ∨ W8 R.length i -> ρ2 (rr R 0 m i) = ρ' i := fun i hi => by
    rw [hρ2];rcases hi with hi | hi
    · rw [if_neg (hlo i hi.1)]; exact (HS.pin i hi).symm
    · rw [if_pos (hhi i hi), rr_hi (by unfold W8 at hi; omega)];have : R.length + (m + (i - (0 + R.length)) - m) = i := by unfold W8 at hi; omega
      rw [this]
  have hVU : ∀ i, (i < R.length /\ U (rr R 0 m i)) ∨ W8 R.length i -> U (rr R 0 m i) ∨ W8 m (rr R 0 m i) := fun i hi => hi.imp (fun k => k.2) (hhi i)
  have hfr : ∀ b, (Base.of (fun i => i ∈ C) (fun i => i < R.length /\ U (rr R 0 m i)) (fun i => ρ (rr R 0 m i)) S w (hget h)).fresh b -> (Base.of (fun i => i ∈ C.map (rr R 0 m)) U ρ S w (hget (hmp (rr R 0 m) h))).fresh b := fun b hb => by
    rcases hb with ⟨i, v, k1, k2, k3⟩ | k
    · exact .inl ⟨_, _, List.mem_map.2 ⟨i, k1, rfl⟩, hget1 i v k2, by rw [hblk_mp]; exact k3⟩
    · exact .inr k
  have hmem : ∀ i, i < R.length -> rr R 0 m i ∈ C.map (rr R 0 m) -> i ∈ C := fun i hi hm => by
    obtain ⟨j, hj, e⟩ := List.mem_map.1 hm;have := hinj j i (Nat.zero_le _) (Nat.zero_le _) (by have := hC j hj; omega) (by omega) e;rw [<- this]; exact hj
  refine ⟨v, ρ2, S', rfl, ?_, Rel.mp hV d v hu' hr', uses_mp hVU d hu'⟩;exact {
    heap := fun i v hi => by
      obtain ⟨j, u, k1, rfl, rfl⟩ := hget_mp hi;have h1 := HS.heapU j u k1;exact HRel.mp hV h1.1 h1.2 (HS.heap j u k1)
    heapU := fun i v hi => by
      obtain ⟨j, u, k1, rfl, rfl⟩ := hget_mp hi;have h1 := HS.heapU j u k1;exact ⟨hVU j h1.1, HV.uses_mp hVU u h1.2⟩
    disj := fun i j v u b hi hj hbi hbj => by
      obtain ⟨i', v', k1, rfl, rfl⟩ := hget_mp hi;obtain ⟨j', u', q1, rfl, rfl⟩ := hget_mp hj;rw [hV i' (HS.heapU i' v' k1).1, hblk_mp] at hbi;rw [hV j' (HS.heapU j' u' q1).1, hblk_mp] at hbj;rw [HS.disj i' j' v' u' b k1 q1 hbi hbj]
    sep := fun i v b hi hbi => by
      obtain ⟨j, u, k1, rfl, rfl⟩ := hget_mp hi;rw [hV j (HS.heapU j u k1).1, hblk_mp] at hbi;exact HS.sep j u b k1 hbi
    prov := fun i v b hi hbi => by
      obtain ⟨j, u, k1, rfl, rfl⟩ := hget_mp hi;rw [hV j (HS.heapU j u k1).1, hblk_mp] at hbi;rcases HS.prov j u b k1 hbi with ⟨q1, q2, v0, q3, q4⟩ | k
      · exact .inl ⟨fun k => q1 (hmem j q2.1 k), q2.2, _, hget1 j v0 q3, by rw [hblk_mp]; exact q4⟩
      · exact .inr (hfr b k)
    sIn := HS.sIn
    sProv := fun b hb => (HS.sProv b hb).imp id (hfr b)
    sOld := HS.sOld
    pin := fun i hi => by
      have hi' : U i := hi;rw [hρ2]; exact if_neg (fun k => hmU i k hi')
    ownU := fun i b hb => hb.2.1
    os := HS.os
    tape := HS.tape
    output := HS.output
    size := HS.size
    keep := fun b hb ho hf => HS.keep b hb (fun i ⟨q1, q2, v, q3, q4⟩ => ho _ ⟨fun k => q1 (hmem i q2.1 k), q2.2, _, hget1 i v q3, by rw [hblk_mp]; exact q4⟩) (fun ⟨i, v, k1, k2, k3⟩ => hf ⟨_, _, List.mem_map.2 ⟨i, k1, rfl⟩, hget1 i v k2, by rw [hblk_mp]; exact k3⟩) }
end
end Go.Eng
