/-
  Contracts of functions of the program, over the engine.
  No condition.
-/
import Derived.Test.YtlailhdmgehniaaGreatCR4R5P1
import Derived.Shelf.SortM.Plain
import Derived.Test.YtlailhdmgehniaaGreatCP2
import Derived.Shelf.SortM.SortNone
namespace Go.Proofs.YtlailhdmgehniaaGreat
open Go.Eng
set_option linter.all false
attribute [local irreducible] DCallsG SWp Fct CallQ XCallQ LCallQ XLCallQ drun xrun

open Go.RowKit Go.Sort Go.Shelf
def sort5_ren : Go.Shelf.Ren := ⟨fun | 5 => 71 | 8 => 83 | 7 => 82 | 19 => 102 | 20 => 103 | 10 => 93 | 11 => 94 | 12 => 95 | 13 => 96 | 14 => 97 | 15 => 98 | 16 => 99 | 17 => 100 | 18 => 101 | 30 => 112 | 31 => 113 | 32 => 114 | 33 => 115 | 34 => 116 | 35 => 117 | 40 => 123 | n => n, fun | 23 => 22 | 25 => 3 | 3 => 3 | 32 => 119 | 22 => 22 | 0 => 0 | 44 => 139 | 46 => 120 | 4 => 4 | 36 => 133 | 35 => 132 | 41 => 63 | 5 => 5 | 9 => 9 | 53 => 147 | 57 => 151 | 63 => 163 | 64 => 37 | n => n, fun n => n⟩
theorem sort5 : SlLaysM.n5 Tryz.prog sort5_ren where
  mixed := by kernel_rfl
  f5 := ⟨Tryz.f71.name, by decide, (Tryz.func71).trans (congrArg some (by kernel_rfl))⟩
  f7 := ⟨Tryz.f82.name, by decide, (Tryz.func82).trans (congrArg some (by kernel_rfl))⟩
  f8 := (Tryz.func83).trans (congrArg some (by kernel_rfl))
  f10 := ⟨Tryz.f93.name, by decide, (Tryz.func93).trans (congrArg some (by kernel_rfl))⟩
  f11 := ⟨Tryz.f94.name, by decide, (Tryz.func94).trans (congrArg some (by kernel_rfl))⟩
  f12 := ⟨Tryz.f95.name, by decide, (Tryz.func95).trans (congrArg some (by kernel_rfl))⟩
  f13 := ⟨Tryz.f96.name, by decide, (Tryz.func96).trans (congrArg some (by kernel_rfl))⟩
  f14 := ⟨Tryz.f97.name, by decide, (Tryz.func97).trans (congrArg some (by kernel_rfl))⟩
  f15 := ⟨Tryz.f98.name, by decide, (Tryz.func98).trans (congrArg some (by kernel_rfl))⟩
  f16 := ⟨Tryz.f99.name, by decide, (Tryz.func99).trans (congrArg some (by kernel_rfl))⟩
  f17 := ⟨Tryz.f100.name, by decide, (Tryz.func100).trans (congrArg some (by kernel_rfl))⟩
  f18 := ⟨Tryz.f101.name, by decide, (Tryz.func101).trans (congrArg some (by kernel_rfl))⟩
  f19 := (Tryz.func102).trans (congrArg some (by kernel_rfl))
  f20 := (Tryz.func103).trans (congrArg some (by kernel_rfl))
  f30 := ⟨Tryz.f112.name, by decide, (Tryz.func112).trans (congrArg some (by kernel_rfl))⟩
  f31 := (Tryz.func113).trans (congrArg some (by kernel_rfl))
  f32 := (Tryz.func114).trans (congrArg some (by kernel_rfl))
  f33 := ⟨Tryz.f115.name, by decide, (Tryz.func115).trans (congrArg some (by kernel_rfl))⟩
  f34 := ⟨Tryz.f116.name, by decide, (Tryz.func116).trans (congrArg some (by kernel_rfl))⟩
  f35 := ⟨Tryz.f117.name, by decide, (Tryz.func117).trans (congrArg some (by kernel_rfl))⟩
  f40 := ⟨Tryz.f123.name, by decide, (Tryz.func123).trans (congrArg some (by kernel_rfl))⟩
  t0 := Tryz.underlying0
  a0 := Tryz.isAgg0
  z0 := Tryz.sizeOf0
  v0 := Tryz.zeroValue0
  t3 := Tryz.underlying3
  a3 := Tryz.isAgg3
  z3 := Tryz.sizeOf3
  v3 := Tryz.zeroValue3
  t4 := Tryz.underlying4
  a4 := Tryz.isAgg4
  z4 := Tryz.sizeOf4
  v4 := Tryz.zeroValue4
  t5 := Tryz.underlying5
  a5 := Tryz.isAgg5
  z5 := Tryz.sizeOf5
  v5 := Tryz.zeroValue5
  t9 := Tryz.underlying9
  a9 := Tryz.isAgg9
  z9 := Tryz.sizeOf9
  v9 := Tryz.zeroValue9
  t22 := Tryz.underlying22
  a22 := Tryz.isAgg22
  z22 := Tryz.sizeOf22
  v22 := Tryz.zeroValue22
  t23 := Tryz.underlying22
  a23 := Tryz.isAgg22
  z23 := Tryz.sizeOf22
  v23 := Tryz.zeroValue22
  t25 := Tryz.underlying3
  a25 := Tryz.isAgg3
  z25 := Tryz.sizeOf3
  v25 := Tryz.zeroValue3
  t32 := Tryz.underlying119
  a32 := Tryz.isAgg119
  z32 := Tryz.sizeOf119
  v32 := Tryz.zeroValue119
  t35 := Tryz.underlying132
  a35 := Tryz.isAgg132
  z35 := Tryz.sizeOf132
  v35 := Tryz.zeroValue132
  t36 := Tryz.underlying133
  a36 := Tryz.isAgg133
  z36 := Tryz.sizeOf133
  v36 := Tryz.zeroValue133
  t41 := Tryz.underlying63
  a41 := Tryz.isAgg63
  z41 := Tryz.sizeOf63
  v41 := Tryz.zeroValue63
  t44 := Tryz.underlying139
  a44 := Tryz.isAgg139
  z44 := Tryz.sizeOf139
  v44 := Tryz.zeroValue139
  t46 := Tryz.underlying120
  a46 := Tryz.isAgg120
  z46 := Tryz.sizeOf120
  v46 := Tryz.zeroValue120
  t53 := Tryz.underlying147
  a53 := Tryz.isAgg147
  z53 := Tryz.sizeOf147
  v53 := Tryz.zeroValue147
  t57 := Tryz.underlying151
  a57 := Tryz.isAgg151
  z57 := Tryz.sizeOf151
  v57 := Tryz.zeroValue151
  t63 := Tryz.underlying163
  a63 := Tryz.isAgg163
  z63 := Tryz.sizeOf163
  v63 := Tryz.zeroValue163
  t64 := Tryz.underlying37
  a64 := Tryz.isAgg37
  z64 := Tryz.sizeOf37
  v64 := Tryz.zeroValue37
theorem sortInts (blk off cap : Nat) (zs : List Int) (w : World) (hH : Holds (Value.int .i64) w blk off zs.toArray) (hblk : blk < w.heap.size) (hsz : zs.length < 4611686018427387904) :
    Calls Tryz.prog 71 #[.slice (some ⟨blk, off, none⟩) zs.length cap] w fun e w' => e = .returned (.tuple #[]) ∧ ∃ n os, w' = grow (putRow (Value.int .i64) (Sort.ahead w n) blk off (zs.mergeSort fun x y => decide (x ≤ y)).toArray) os :=
  AnyM.slices_Sort_int sort5 blk off cap zs w hH hblk hsz
open Go.RowKit Go.Maps Go.Sort Go.Shelf
def setE (ks : List Int) : List (Value × DV) := ks.map fun z => (.int .i64 z, lb true)
theorem setE_uses (U : Nat → Prop) (ks : List Int) : DV.usesL U ((setE ks).map (·.2)) = True :=
  propext ⟨fun _ => trivial, fun _ => usesL_iff.2 fun d hd => by
    obtain ⟨e, he, rfl⟩ := List.mem_map.1 hd
    obtain ⟨z, _, rfl⟩ := List.mem_map.1 he
    trivial⟩
theorem setE_mp (r : Nat → Nat) (ks : List Int) : (setE ks).map (fun e => (e.1, e.2.mp r)) = setE ks := by
  unfold setE; rw [List.map_map]; exact List.map_congr_left fun z _ => rfl
theorem setE_ren (o n : Nat) (ks : List Int) : (setE ks).map (fun e => (e.1, e.2.ren o n)) = setE ks := by
  unfold setE; rw [List.map_map]; exact List.map_congr_left fun z _ => rfl
theorem setE_frz (o : Nat) (x : FV) (ks : List Int) : (setE ks).map (fun e => (e.1, e.2.frz o x)) = setE ks := by
  unfold setE; rw [List.map_map]; exact List.map_congr_left fun z _ => rfl
theorem setE_len (ks : List Int) : (setE ks).length = ks.length := List.length_map _
theorem setE_ok (ks : List Int) : keysOk (.int .i64) (setE ks) = True :=
  propext ⟨fun _ => trivial, fun _ e he => by
    obtain ⟨z, _, rfl⟩ := List.mem_map.1 he
    rfl⟩
def insI (ks : List Int) (w : Int) : List Int := if w ∈ ks then ks else ks ++ [w]
theorem setE_set (w : Int) : ∀ ks : List Int, mset (setE ks) (.int .i64 w) (.p (.lit (.bool true))) = setE (insI ks w)
  | [] => rfl
  | z :: ks => by
    have ih := setE_set w ks
    unfold insI at ih ⊢
    have e0 : setE (z :: ks) = (.int .i64 z, lb true) :: setE ks := rfl
    rw [e0, mset]
    by_cases h : w = z
    · subst h
      rw [if_pos (show vkey (.int .i64 w) (.int .i64 w) = true by simp [vkey]), if_pos List.mem_cons_self]; rfl
    · rw [if_neg (show ¬ vkey (.int .i64 w) (.int .i64 z) = true by simp [vkey, h]), ih]
      by_cases hm : w ∈ ks
      · rw [if_pos hm, if_pos (List.mem_cons_of_mem _ hm)]; rfl
      · rw [if_neg hm, if_neg (by simp [h, hm])]; rfl
attribute [push_cast] setE_uses setE_mp setE_ren setE_frz setE_len setE_ok setE_set
attribute [irreducible] setE
theorem setE_nil : setE [] = [] := by unfold setE; rfl
theorem keys_f (ks : List Int) (m : Nat) : DCallsG Tryz.prog 52 [] [.mref 0] (hget [(0, .map (setE ks))]) m (.clo 72 [.ptr m 0]) (hget [(0, .map (setE ks)), (m, .blk 87 [.mref 0])]) := by
  refine contract (n := 4) (rs := [.tmp 2]) (ts := [90]) Tryz.func52 rfl (by decide) 1 1 [] [] [1] (.clo 72 [.ptr 1 0]) [(0, .map (setE ks)), (1, .blk 87 [.mref 0])] (by (exact SD)) (by (exact SD)) ?_
  (repeat' (first | refine swp_seq [0, 1, 2] ?_ | refine st2 ?_ | (show Fct ..; refine fctI (fun hf => ?_)) | (show SWp _ _ _ (.cond _ _ _) _ _ _ _; first | refine cB (fun hc => ?_) (fun hc => ?_) | refine cU ?_ ?_)))
  exact DVR
theorem sortsWide (m : Nat) : kxSortsIn Fence.wide m :=
  ⟨fun blk off cap ss W hH hblk hsz => callsIn_wide.2 (AnyM.slices_Sort_int sort5 blk off cap ss W hH hblk hsz),
   fun p cap W => callsIn_wide.2 (AnyM.slices_Sort_int_none sort5 p cap W)⟩
theorem ms_perm {l l' : List Int} (h : l.Perm l') : l.mergeSort (fun x y => decide (x ≤ y)) = l'.mergeSort (fun x y => decide (x ≤ y)) := by
  have tr : ∀ a b c : Int, decide (a ≤ b) = true → decide (b ≤ c) = true → decide (a ≤ c) = true := fun a b c h1 h2 => by simp only [decide_eq_true_eq] at *; omega
  have to : ∀ a b : Int, (decide (a ≤ b) || decide (b ≤ a)) = true := fun a b => by simp only [Bool.or_eq_true, decide_eq_true_eq]; omega
  refine List.Perm.eq_of_pairwise (le := fun a b => decide (a ≤ b) = true) (fun a b _ _ h1 h2 => ?_) (List.pairwise_mergeSort tr to l) (List.pairwise_mergeSort tr to l') (((List.mergeSort_perm l _).trans h).trans (List.mergeSort_perm l' _).symm)
  simp only [decide_eq_true_eq] at h1 h2
  omega
def srtI (l : List Int) : List Int := l.mergeSort fun x y => decide (x ≤ y)
abbrev RU : Value → Option (DataW Unit × List MemPlace) := fun _ => some (.lit (.bool true), [])
theorem set_fit {vs : List MapEntry} {ck : Nat} {ks : List Int} (hk : vs.map (·.key) = (setE ks).map (·.1)) (hs : MapKept.Stamped (List.toArray vs) ck) (hw : ∀ z, z ∈ ks → -9223372036854775808 ≤ z ∧ z ≤ 9223372036854775807) (hl : ks.length ≤ 1048576) :
    WideElems.Fit Tryz.prog 3 RU (List.toArray vs) ck ∧ ∀ x : Int, Maps.has (.map (((List.toArray vs).toList.map (WideElems.rg Tryz.prog 3 RU)).foldr DataW.insert [])) (.int .i64 x) = true ↔ x ∈ ks := by
  have hlen : vs.length = ks.length := by
    have := congrArg List.length hk
    rw [List.length_map, List.length_map, setE_len] at this; exact this
  have hkeys : vs.map (·.key) = ks.map (fun z => (.int .i64 z : Value)) := by rw [hk]; unfold setE; rw [List.map_map]; rfl
  have hof : ∀ e, e ∈ vs → ∃ z, z ∈ ks ∧ e.key = .int .i64 z ∧ WideElems.rd Tryz.prog 3 RU e = some (.int .i64 z, .lit (.bool true)) := fun e he => by
    have : e.key ∈ ks.map (fun z => (.int .i64 z : Value)) := by rw [← hkeys]; exact List.mem_map_of_mem he
    obtain ⟨z, hz, hez⟩ := List.mem_map.1 this
    refine ⟨z, hz, hez.symm, ?_⟩
    have hw1 := hw z hz
    have hko := keyOf_int_mk (P := Tryz.prog) (k := 3) (q := .i64) Tryz.underlying3 (a := z) (by simp [Lit.wf, IntKind.min, IntKind.max, IntKind.signed, IntKind.bits]; omega)
    unfold WideElems.rd
    rw [← hez, hko]; rfl
  refine ⟨⟨by simp [maxLen]; omega, hs, fun x hx => ?_⟩, fun x => ?_⟩
  · obtain ⟨z, _, _, h⟩ := hof x (by simpa using hx)
    exact ⟨_, h⟩
  · rw [Maps.has_eq, List.any_eq_true]
    constructor
    · rintro ⟨p, hp, hsame⟩
      rw [mem_sorted] at hp
      obtain ⟨e, he, rfl⟩ := List.mem_map.1 hp
      obtain ⟨z, hz, _, h⟩ := hof e (by simpa using he)
      rw [WideElems.rg, h] at hsame
      have : z = x := by simpa [Lit.sameKey] using hsame
      exact this ▸ hz
    · intro hx
      have : (.int .i64 x : Value) ∈ vs.map (·.key) := by rw [hkeys]; exact List.mem_map.2 ⟨x, hx, rfl⟩
      obtain ⟨e, he, hex⟩ := List.mem_map.1 this
      obtain ⟨z, hz, hez, h⟩ := hof e he
      refine ⟨(.int .i64 z, .lit (.bool true)), mem_sorted.2 (List.mem_map.2 ⟨e, by simpa using he, by rw [WideElems.rg, h]; rfl⟩), ?_⟩
      have : z = x := by rw [hez] at hex; simpa using hex
      simp [Lit.sameKey, this]
theorem rows_in_flat : ∀ l : List Int, (rows inRow l).flatten = l.map li
  | [] => rfl
  | z :: l => by
    have ih := rows_in_flat l
    unfold rows at ih ⊢
    rw [List.map_cons, List.flatten_cons, ih]; rfl
theorem relL_ints {ρ : Nat → Hd} {S : Nat → Prop} {w : World} : ∀ l : List Int, RelL ρ S w (l.map li) (l.map vI)
  | [] => trivial
  | z :: l => ⟨by show Rel ρ S w (.p (.lit (.int .i64 z))) (.int .i64 z); simp only [Rel]; exact .lit _ rfl, relL_ints l⟩
theorem new_ints {U : Nat → Prop} {ρ : Nat → Hd} {S : Nat → Prop} {w w' : World} {h : Nat → Option HV} {m mb : Nat} {hd : Hd} {v : HV} (H0 : HSat0 U ρ S w h) (hm : ∀ i, W8 m i → ¬ U i) (hB : Below w.heap.size w w') (hmb : w.heap.size ≤ mb)
    (hb' : ∀ b, hblk hd v = some b → b = mb) (hv : HRel (upd ρ m hd) S w' m v) (hu : ∀ V : Nat → Prop, v.uses V) :
    HSat (Base.of (fun i => i ∈ ([] : List Nat)) U ρ S w h) (fun i => U i ∨ W8 m i) (upd ρ m hd) S w' (upd h m (some v)) := by
  have hm0 : ¬ U m := hm m ⟨Nat.le_refl _, by omega⟩
  have hne : ∀ i, U i → i ≠ m := fun i hi e => hm0 (e ▸ hi)
  have G : HSat (Base.of (fun i => i ∈ ([] : List Nat)) U ρ S w h) U ρ S w h := HSat0.to H0 (fun i v hi => .inr (H0.heapU i v hi).1)
  have G2 := G.grow (fun k hk => hB.block k hk) hB.size hB.os hB.tape hB.output
  have G3 := G2.install (ρ' := upd ρ m hd) (w' := w') m v mb (fun i hi => upd_ne _ _ (hne i hi)) (fun i hi => upd_ne _ _ (hne i hi)) (fun _ _ _ => rfl) (Nat.le_refl _) rfl rfl rfl
    (fun hS => by have := H0.sIn _ hS; omega) (.inr (.inr hmb)) (fun j u _ hj e => by have := hblk_lt (H0.heap j u hj) e; omega) (fun b hb => hb' b (by rw [upd_same] at hb; exact hb)) hv (hu _)
  exact G3.used fun i k => k.elim .inl fun e => .inr (e ▸ ⟨Nat.le_refl _, by omega⟩)
set_option maxHeartbeats 1000000 in
theorem sorted_f (ks : List Int) (m : Nat) (hw : ∀ z, z ∈ ks → -9223372036854775808 ≤ z ∧ z ≤ 9223372036854775807) (hl : ks.length ≤ 1048576) :
    DCallsG Tryz.prog 51 [] [.clo 72 [.ptr 1 0]] (hget [(0, .map (setE ks)), (1, .blk 87 [.mref 0])]) m (.gl m) (hget [(0, .map (setE ks)), (1, .blk 87 [.mref 0]), (m, inLt (srtI ks))]) := by
  unfold DCallsG
  refine ⟨trivial, fun U ρ S w vs H0 hmU hr huU => ?_⟩
  have g0 : hget [(0, HV.map (setE ks)), (1, .blk 87 [.mref 0])] 0 = some (.map (setE ks)) := by simp [hget]
  have g1 : hget [(0, HV.map (setE ks)), (1, .blk 87 [.mref 0])] 1 = some (.blk 87 [.mref 0]) := by simp [hget]
  have h0 := H0.heap 0 _ g0
  have h1 := H0.heap 1 _ g1
  have u0 := (H0.heapU 0 _ g0).1
  have u1 := (H0.heapU 1 _ g1).1
  have hm0 : ¬ U m := hmU m ⟨Nat.le_refl _, by omega⟩
  have hm1 : m ≠ 0 := fun e => hm0 (e ▸ u0)
  have hm2 : m ≠ 1 := fun e => hm0 (e ▸ u1)
  simp only [HRel] at h0 h1
  obtain ⟨b, es, ck, hb, hh, hk, _, hst⟩ := h0
  obtain ⟨b1, us, fz, hb1, hh1, hus, _⟩ := h1
  match us, hus with
  | [u], ⟨hu, _⟩ =>
  simp only [Rel] at hu
  obtain ⟨b', hb', rfl⟩ := hu
  rw [hb] at hb'
  obtain rfl : b = b' := by simpa using hb'
  match vs, hr with
  | [v], ⟨hv, _⟩ =>
  simp only [Rel] at hv
  obtain ⟨cs, rfl, hcs⟩ := hv
  match cs, hcs with
  | [c], ⟨hc, _⟩ =>
  simp only [Rel] at hc
  obtain ⟨b1', hb1', rfl⟩ := hc
  rw [hb1] at hb1'
  obtain rfl : b1 = b1' := by simpa using hb1'
  have hcell : w.cell? ⟨b1, 0, none⟩ = some (.map (some b)) := by simp [World.cell?, hh1]
  obtain ⟨Ft, hhas⟩ := set_fit hk hst hw hl
  have hlen : es.length = ks.length := by
    have := congrArg List.length hk
    rw [List.length_map, List.length_map, setE_len] at this; exact this
  have hnd : ks.Nodup := by
    have := hst.2.2
    change (es.map (·.key)).Nodup at this
    rw [hk] at this
    have e : (setE ks).map (·.1) = ks.map (fun z => (.int .i64 z : Value)) := by unfold setE; rw [List.map_map]; rfl
    rw [e] at this
    exact List.Pairwise.of_map _ (fun a b h e => h (by rw [e])) this
  obtain ⟨D0, hD0⟩ : ∃ D0 : DataW Unit, .map (((List.toArray es).toList.map (WideElems.rg Tryz.prog 3 RU)).foldr DataW.insert []) = D0 := ⟨_, rfl⟩
  have hown : w.ownsMap Tryz.prog 3 RU b ks.length D0 := ⟨_, _, hh, Ft, by simp [hlen], hD0.symm⟩
  have hsz : Maps.size D0 = ks.length := by
    rw [← hD0, Maps.size_eq, (Go.WideShapes.sorted_perm _).length_eq, List.length_map]; simpa using hlen
  rw [hD0] at hhas
  clear hD0
  have hbl := hown.lt
  have hb1l : b1 < w.heap.size := by
    rcases Nat.lt_or_ge b1 w.heap.size with q | q
    · exact q
    · rw [Array.getElem?_eq_none q] at hh1; cases hh1
  have hseq : SeqGives Fence.wide 2 Tryz.prog 72 #[.pointer (some ⟨b1, 0, none⟩)] vI (fun ss => CollI D0 (fun _ => false) ss) (Maps.size D0) w := fun l J W hW hJ hY h0 => by
    have hown' : W.ownsMap Tryz.prog 3 RU b ks.length D0 := by
      obtain ⟨es, clock, hb, Ft, hs, hD⟩ := hown
      exact ⟨es, clock, (hW.block b hbl).trans hb, Ft, hs, hD⟩
    exact keys1_in Fence.wide 2 trivial rfl (by omega) l b1 b ks.length D0 J hY W hJ ((hW.cell (p := ⟨b1, 0, none⟩) hb1l).trans hcell) hown' h0
  have hS := kxsorted_in Fence.wide 5 trivial trivial trivial trivial rfl (by omega) (sortsWide _) (enters_of Tryz.func71 (by kernel_rfl) rfl) 72 #[.pointer (some ⟨b1, 0, none⟩)] trivial (enters_of Tryz.func72 (by kernel_rfl) rfl) _ (Maps.size D0) (by rw [hsz]; simp [maxLen]; omega) (by rw [hsz]; omega) w hseq
  refine CallsX.of ⟨_, Tryz.func51, by kernel_rfl, by decide⟩ ((callsIn_wide.1 hS).mono ?_)
  rintro e w' ⟨v, ss, rfl, hC, hrow, hnil, hB⟩
  have hp : ss.Perm ks := (List.perm_ext_iff_of_nodup hC.1 hnd).2 fun x => by rw [hC.2 x]; simp [hhas x]
  have hsl := hp.length_eq
  rw [show (ss.mergeSort fun x y => decide (x ≤ y)) = srtI ks from ms_perm hp] at hrow
  have hsrt : (srtI ks).length = ks.length := (List.mergeSort_perm ks _).length_eq
  have hupd : hget [(0, HV.map (setE ks)), (1, .blk 87 [.mref 0]), (m, inLt (srtI ks))] = upd (hget [(0, HV.map (setE ks)), (1, .blk 87 [.mref 0])]) m (some (inLt (srtI ks))) := by
    funext t
    by_cases q : t = m
    · subst q; simp [hget, upd, hm1, hm2]
    · simp only [hget, upd, if_neg q]
  obtain ⟨_, hrow⟩ := hrow
  rcases hrow with ⟨rfl, hz⟩ | ⟨g, cap, cur, rfl, hbase, hgb, r1, r2, r3, r4⟩
  · have hks : ks = [] := List.eq_nil_of_length_eq_zero (by omega)
    refine ⟨_, upd ρ m { a := none, len := 0, cap := 0 }, S, rfl, ?_, ?_, .inr ⟨Nat.le_refl _, by omega⟩⟩
    · rw [hupd]
      refine new_ints H0 hmU hB (Nat.le_refl _) (fun b hb => by simp [hblk] at hb) ?_ (fun V => by simp only [HV.uses]; exact uses_rows inRow V _)
      simp only [HRel, upd_same, hks]
      exact ⟨by simp [srtI, rows], by simp [srtI, rows, BL], by simp [srtI, rows], by simp [srtI, rows], .inl trivial⟩
    · simp only [Rel, upd_same]
  · refine ⟨_, upd ρ m { a := some ⟨g, 0, none⟩, len := ss.length, cap := cap }, S, rfl, ?_, ?_, .inr ⟨Nat.le_refl _, by omega⟩⟩
    · rw [hupd]
      refine new_ints H0 hmU hB hbase (fun b hb => by
        simp only [hblk] at hb
        split at hb
        · cases hb
        · simpa using hb.symm) ?_ (fun V => by simp only [HV.uses]; exact uses_rows inRow V _)
      simp only [HRel, upd_same]
      have hrl : (rows inRow (srtI ks)).length = ks.length := by simp [rows, hsrt]
      refine ⟨by rw [hrl, hsl], by rw [hrl]; unfold BL; omega, by rw [hrl]; omega, fun r hr => ?_, .inr ⟨g, (srtI ks).map vI, cur.toList.drop ss.length, (0, 0), rfl, ?_, by rw [rows_in_flat]; exact relL_ints _, ?_, by simp⟩⟩
      · obtain ⟨z, _, rfl⟩ := List.mem_map.1 hr; rfl
      · rw [hgb, ← r4, Nat.mul_one, List.take_append_drop]
      · rw [← r4, Nat.mul_one, List.take_append_drop, Array.length_toList, r3]
    · simp only [Rel, upd_same]

end Go.Proofs.YtlailhdmgehniaaGreat
