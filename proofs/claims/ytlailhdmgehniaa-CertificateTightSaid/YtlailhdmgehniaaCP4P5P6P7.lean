/-
  Contracts of functions of the program, over the engine.
  No condition.
-/
import Derived.Test.YtlailhdmgehniaaCP1P2P3
import Derived.Shelf.SortM.SortNone
import Derived.Test.YtlailhdmgehniaaCS5S6S7S8S9S10
namespace Go.Proofs.Ytlailhdmgehniaa
open Go.Eng
set_option linter.all false
attribute [local irreducible] DCallsG SWp Fct CallQ XCallQ LCallQ XLCallQ drun xrun

open Go.RowKit Go.Maps Go.Sort Go.Shelf
def setE (ks : List Int) : List (Value × DV) := ks.map fun z => (.int .i64 z, lb true)
theorem setE_uses (U : Nat → Prop) (ks : List Int) : DV.usesL U ((setE ks).map (·.2)) = True :=
  propext ⟨fun _ => trivial, fun _ => usesL_iff.2 fun d hd => by
    obtain ⟨e, he, rfl⟩ := List.mem_map.1 hd
    obtain ⟨z, _, rfl⟩ := List.mem_map.1 he
    trivial⟩
theorem setE_mp (r : Nat → Nat) (ks : List Int) : (setE ks).map (fun e => (e.1, e.2.mp r)) = setE ks := by
  unfold setE; rw [List.map_map]; exact List.map_congr_left fun z _ => rfl
theorem setE_ren (o n : Nat) (ks : List Int) : (setE ks).map (fun e => (e.1, e.2.ren o n)) = setE ks := by
  unfold setE; rw [List.map_map]; exact List.map_congr_left fun z _ => rfl
theorem setE_frz (o : Nat) (x : FV) (ks : List Int) : (setE ks).map (fun e => (e.1, e.2.frz o x)) = setE ks := by
  unfold setE; rw [List.map_map]; exact List.map_congr_left fun z _ => rfl
theorem setE_len (ks : List Int) : (setE ks).length = ks.length := List.length_map _
theorem setE_ok (ks : List Int) : keysOk (.int .i64) (setE ks) = True :=
  propext ⟨fun _ => trivial, fun _ e he => by
    obtain ⟨z, _, rfl⟩ := List.mem_map.1 he
    rfl⟩
def insI (ks : List Int) (w : Int) : List Int := if w ∈ ks then ks else ks ++ [w]
theorem setE_set (w : Int) : ∀ ks : List Int, mset (setE ks) (.int .i64 w) (.p (.lit (.bool true))) = setE (insI ks w)
  | [] => rfl
  | z :: ks => by
    have ih := setE_set w ks
    unfold insI at ih ⊢
    have e0 : setE (z :: ks) = (.int .i64 z, lb true) :: setE ks := rfl
    rw [e0, mset]
    by_cases h : w = z
    · subst h
      rw [if_pos (show vkey (.int .i64 w) (.int .i64 w) = true by simp [vkey]), if_pos List.mem_cons_self]; rfl
    · rw [if_neg (show ¬ vkey (.int .i64 w) (.int .i64 z) = true by simp [vkey, h]), ih]
      by_cases hm : w ∈ ks
      · rw [if_pos hm, if_pos (List.mem_cons_of_mem _ hm)]; rfl
      · rw [if_neg hm, if_neg (by simp [h, hm])]; rfl
attribute [push_cast] setE_uses setE_mp setE_ren setE_frz setE_len setE_ok setE_set
attribute [irreducible] setE
theorem setE_nil : setE [] = [] := by unfold setE; rfl
theorem keys_f (ks : List Int) (m : Nat) : DCallsG Try.prog 40 [] [.mref 0] (hget [(0, .map (setE ks))]) m (.clo 52 [.ptr m 0]) (hget [(0, .map (setE ks)), (m, .blk 75 [.mref 0])]) := by
  refine contract (n := 4) (rs := [.tmp 2]) (ts := [78]) Try.func40 rfl (by decide) 1 1 [] [] [1] (.clo 52 [.ptr 1 0]) [(0, .map (setE ks)), (1, .blk 75 [.mref 0])] (by (exact SD)) (by (exact SD)) ?_
  (repeat' (first | refine swp_seq [0, 1, 2] ?_ | refine st2 ?_ | (show Fct ..; refine fctI (fun hf => ?_)) | (show SWp _ _ _ (.cond _ _ _) _ _ _ _; first | refine cB (fun hc => ?_) (fun hc => ?_) | refine cU ?_ ?_)))
  exact DVR
theorem sortsWide (m : Nat) : kxSortsIn Fence.wide m :=
  ⟨fun blk off cap ss W hH hblk hsz => callsIn_wide.2 (AnyM.slices_Sort_int sort5 blk off cap ss W hH hblk hsz),
   fun p cap W => callsIn_wide.2 (AnyM.slices_Sort_int_none sort5 p cap W)⟩
theorem ms_perm {l l' : List Int} (h : l.Perm l') : l.mergeSort (fun x y => decide (x ≤ y)) = l'.mergeSort (fun x y => decide (x ≤ y)) := by
  have tr : ∀ a b c : Int, decide (a ≤ b) = true → decide (b ≤ c) = true → decide (a ≤ c) = true := fun a b c h1 h2 => by simp only [decide_eq_true_eq] at *; omega
  have to : ∀ a b : Int, (decide (a ≤ b) || decide (b ≤ a)) = true := fun a b => by simp only [Bool.or_eq_true, decide_eq_true_eq]; omega
  refine List.Perm.eq_of_pairwise (le := fun a b => decide (a ≤ b) = true) (fun a b _ _ h1 h2 => ?_) (List.pairwise_mergeSort tr to l) (List.pairwise_mergeSort tr to l') (((List.mergeSort_perm l _).trans h).trans (List.mergeSort_perm l' _).symm)
  simp only [decide_eq_true_eq] at h1 h2
  omega
def srtI (l : List Int) : List Int := l.mergeSort fun x y => decide (x ≤ y)
abbrev RU : Value → Option (DataW Unit × List MemPlace) := fun _ => some (.lit (.bool true), [])
theorem set_fit {vs : List MapEntry} {ck : Nat} {ks : List Int} (hk : vs.map (·.key) = (setE ks).map (·.1)) (hs : MapKept.Stamped (List.toArray vs) ck) (hw : ∀ z, z ∈ ks → -9223372036854775808 ≤ z ∧ z ≤ 9223372036854775807) (hl : ks.length ≤ 1048576) :
    WideElems.Fit Try.prog 3 RU (List.toArray vs) ck ∧ ∀ x : Int, Maps.has (.map (((List.toArray vs).toList.map (WideElems.rg Try.prog 3 RU)).foldr DataW.insert [])) (.int .i64 x) = true ↔ x ∈ ks := by
  have hlen : vs.length = ks.length := by
    have := congrArg List.length hk
    rw [List.length_map, List.length_map, setE_len] at this; exact this
  have hkeys : vs.map (·.key) = ks.map (fun z => (.int .i64 z : Value)) := by rw [hk]; unfold setE; rw [List.map_map]; rfl
  have hof : ∀ e, e ∈ vs → ∃ z, z ∈ ks ∧ e.key = .int .i64 z ∧ WideElems.rd Try.prog 3 RU e = some (.int .i64 z, .lit (.bool true)) := fun e he => by
    have : e.key ∈ ks.map (fun z => (.int .i64 z : Value)) := by rw [← hkeys]; exact List.mem_map_of_mem he
    obtain ⟨z, hz, hez⟩ := List.mem_map.1 this
    refine ⟨z, hz, hez.symm, ?_⟩
    have hw1 := hw z hz
    have hko := keyOf_int_mk (P := Try.prog) (k := 3) (q := .i64) Try.underlying3 (a := z) (by simp [Lit.wf, IntKind.min, IntKind.max, IntKind.signed, IntKind.bits]; omega)
    unfold WideElems.rd
    rw [← hez, hko]; rfl
  refine ⟨⟨by simp [maxLen]; omega, hs, fun x hx => ?_⟩, fun x => ?_⟩
  · obtain ⟨z, _, _, h⟩ := hof x (by simpa using hx)
    exact ⟨_, h⟩
  · rw [Maps.has_eq, List.any_eq_true]
    constructor
    · rintro ⟨p, hp, hsame⟩
      rw [mem_sorted] at hp
      obtain ⟨e, he, rfl⟩ := List.mem_map.1 hp
      obtain ⟨z, hz, _, h⟩ := hof e (by simpa using he)
      rw [WideElems.rg, h] at hsame
      have : z = x := by simpa [Lit.sameKey] using hsame
      exact this ▸ hz
    · intro hx
      have : (.int .i64 x : Value) ∈ vs.map (·.key) := by rw [hkeys]; exact List.mem_map.2 ⟨x, hx, rfl⟩
      obtain ⟨e, he, hex⟩ := List.mem_map.1 this
      obtain ⟨z, hz, hez, h⟩ := hof e he
      refine ⟨(.int .i64 z, .lit (.bool true)), mem_sorted.2 (List.mem_map.2 ⟨e, by simpa using he, by rw [WideElems.rg, h]; rfl⟩), ?_⟩
      have : z = x := by rw [hez] at hex; simpa using hex
      simp [Lit.sameKey, this]
theorem rows_in_flat : ∀ l : List Int, (rows inRow l).flatten = l.map li
  | [] => rfl
  | z :: l => by
    have ih := rows_in_flat l
    unfold rows at ih ⊢
    rw [List.map_cons, List.flatten_cons, ih]; rfl
theorem relL_ints {ρ : Nat → Hd} {S : Nat → Prop} {w : World} : ∀ l : List Int, RelL ρ S w (l.map li) (l.map vI)
  | [] => trivial
  | z :: l => ⟨by show Rel ρ S w (.p (.lit (.int .i64 z))) (.int .i64 z); simp only [Rel]; exact .lit _ rfl, relL_ints l⟩
theorem new_ints {U : Nat → Prop} {ρ : Nat → Hd} {S : Nat → Prop} {w w' : World} {h : Nat → Option HV} {m mb : Nat} {hd : Hd} {v : HV} (H0 : HSat0 U ρ S w h) (hm : ∀ i, W8 m i → ¬ U i) (hB : Below w.heap.size w w') (hmb : w.heap.size ≤ mb)
    (hb' : ∀ b, hblk hd v = some b → b = mb) (hv : HRel (upd ρ m hd) S w' m v) (hu : ∀ V : Nat → Prop, v.uses V) :
    HSat (Base.of (fun i => i ∈ ([] : List Nat)) U ρ S w h) (fun i => U i ∨ W8 m i) (upd ρ m hd) S w' (upd h m (some v)) := by
  have hm0 : ¬ U m := hm m ⟨Nat.le_refl _, by omega⟩
  have hne : ∀ i, U i → i ≠ m := fun i hi e => hm0 (e ▸ hi)
  have G : HSat (Base.of (fun i => i ∈ ([] : List Nat)) U ρ S w h) U ρ S w h := HSat0.to H0 (fun i v hi => .inr (H0.heapU i v hi).1)
  have G2 := G.grow (fun k hk => hB.block k hk) hB.size hB.os hB.tape hB.output
  have G3 := G2.install (ρ' := upd ρ m hd) (w' := w') m v mb (fun i hi => upd_ne _ _ (hne i hi)) (fun i hi => upd_ne _ _ (hne i hi)) (fun _ _ _ => rfl) (Nat.le_refl _) rfl rfl rfl
    (fun hS => by have := H0.sIn _ hS; omega) (.inr (.inr hmb)) (fun j u _ hj e => by have := hblk_lt (H0.heap j u hj) e; omega) (fun b hb => hb' b (by rw [upd_same] at hb; exact hb)) hv (hu _)
  exact G3.used fun i k => k.elim .inl fun e => .inr (e ▸ ⟨Nat.le_refl _, by omega⟩)
set_option maxHeartbeats 1000000 in
theorem sorted_f (ks : List Int) (m : Nat) (hw : ∀ z, z ∈ ks → -9223372036854775808 ≤ z ∧ z ≤ 9223372036854775807) (hl : ks.length ≤ 1048576) :
    DCallsG Try.prog 39 [] [.clo 52 [.ptr 1 0]] (hget [(0, .map (setE ks)), (1, .blk 75 [.mref 0])]) m (.gl m) (hget [(0, .map (setE ks)), (1, .blk 75 [.mref 0]), (m, inLt (srtI ks))]) := by
  unfold DCallsG
  refine ⟨trivial, fun U ρ S w vs H0 hmU hr huU => ?_⟩
  have g0 : hget [(0, HV.map (setE ks)), (1, .blk 75 [.mref 0])] 0 = some (.map (setE ks)) := by simp [hget]
  have g1 : hget [(0, HV.map (setE ks)), (1, .blk 75 [.mref 0])] 1 = some (.blk 75 [.mref 0]) := by simp [hget]
  have h0 := H0.heap 0 _ g0
  have h1 := H0.heap 1 _ g1
  have u0 := (H0.heapU 0 _ g0).1
  have u1 := (H0.heapU 1 _ g1).1
  have hm0 : ¬ U m := hmU m ⟨Nat.le_refl _, by omega⟩
  have hm1 : m ≠ 0 := fun e => hm0 (e ▸ u0)
  have hm2 : m ≠ 1 := fun e => hm0 (e ▸ u1)
  simp only [HRel] at h0 h1
  obtain ⟨b, es, ck, hb, hh, hk, _, hst⟩ := h0
  obtain ⟨b1, us, fz, hb1, hh1, hus, _⟩ := h1
  match us, hus with
  | [u], ⟨hu, _⟩ =>
  simp only [Rel] at hu
  obtain ⟨b', hb', rfl⟩ := hu
  rw [hb] at hb'
  obtain rfl : b = b' := by simpa using hb'
  match vs, hr with
  | [v], ⟨hv, _⟩ =>
  simp only [Rel] at hv
  obtain ⟨cs, rfl, hcs⟩ := hv
  match cs, hcs with
  | [c], ⟨hc, _⟩ =>
  simp only [Rel] at hc
  obtain ⟨b1', hb1', rfl⟩ := hc
  rw [hb1] at hb1'
  obtain rfl : b1 = b1' := by simpa using hb1'
  have hcell : w.cell? ⟨b1, 0, none⟩ = some (.map (some b)) := by simp [World.cell?, hh1]
  obtain ⟨Ft, hhas⟩ := set_fit hk hst hw hl
  have hlen : es.length = ks.length := by
    have := congrArg List.length hk
    rw [List.length_map, List.length_map, setE_len] at this; exact this
  have hnd : ks.Nodup := by
    have := hst.2.2
    change (es.map (·.key)).Nodup at this
    rw [hk] at this
    have e : (setE ks).map (·.1) = ks.map (fun z => (.int .i64 z : Value)) := by unfold setE; rw [List.map_map]; rfl
    rw [e] at this
    exact List.Pairwise.of_map _ (fun a b h e => h (by rw [e])) this
  obtain ⟨D0, hD0⟩ : ∃ D0 : DataW Unit, .map (((List.toArray es).toList.map (WideElems.rg Try.prog 3 RU)).foldr DataW.insert []) = D0 := ⟨_, rfl⟩
  have hown : w.ownsMap Try.prog 3 RU b ks.length D0 := ⟨_, _, hh, Ft, by simp [hlen], hD0.symm⟩
  have hsz : Maps.size D0 = ks.length := by
    rw [← hD0, Maps.size_eq, (Go.WideShapes.sorted_perm _).length_eq, List.length_map]; simpa using hlen
  rw [hD0] at hhas
  clear hD0
  have hbl := hown.lt
  have hb1l : b1 < w.heap.size := by
    rcases Nat.lt_or_ge b1 w.heap.size with q | q
    · exact q
    · rw [Array.getElem?_eq_none q] at hh1; cases hh1
  have hseq : SeqGives Fence.wide 2 Try.prog 52 #[.pointer (some ⟨b1, 0, none⟩)] vI (fun ss => CollI D0 (fun _ => false) ss) (Maps.size D0) w := fun l J W hW hJ hY h0 => by
    have hown' : W.ownsMap Try.prog 3 RU b ks.length D0 := by
      obtain ⟨es, clock, hb, Ft, hs, hD⟩ := hown
      exact ⟨es, clock, (hW.block b hbl).trans hb, Ft, hs, hD⟩
    exact keys1_in Fence.wide 2 trivial rfl (by omega) l b1 b ks.length D0 J hY W hJ ((hW.cell (p := ⟨b1, 0, none⟩) hb1l).trans hcell) hown' h0
  have hS := kxsorted_in Fence.wide 5 trivial trivial trivial trivial rfl (by omega) (sortsWide _) (enters_of Try.func51 (by kernel_rfl) rfl) 52 #[.pointer (some ⟨b1, 0, none⟩)] trivial (enters_of Try.func52 (by kernel_rfl) rfl) _ (Maps.size D0) (by rw [hsz]; simp [maxLen]; omega) (by rw [hsz]; omega) w hseq
  refine CallsX.of ⟨_, Try.func39, by kernel_rfl, by decide⟩ ((callsIn_wide.1 hS).mono ?_)
  rintro e w' ⟨v, ss, rfl, hC, hrow, hnil, hB⟩
  have hp : ss.Perm ks := (List.perm_ext_iff_of_nodup hC.1 hnd).2 fun x => by rw [hC.2 x]; simp [hhas x]
  have hsl := hp.length_eq
  rw [show (ss.mergeSort fun x y => decide (x ≤ y)) = srtI ks from ms_perm hp] at hrow
  have hsrt : (srtI ks).length = ks.length := (List.mergeSort_perm ks _).length_eq
  have hupd : hget [(0, HV.map (setE ks)), (1, .blk 75 [.mref 0]), (m, inLt (srtI ks))] = upd (hget [(0, HV.map (setE ks)), (1, .blk 75 [.mref 0])]) m (some (inLt (srtI ks))) := by
    funext t
    by_cases q : t = m
    · subst q; simp [hget, upd, hm1, hm2]
    · simp only [hget, upd, if_neg q]
  obtain ⟨_, hrow⟩ := hrow
  rcases hrow with ⟨rfl, hz⟩ | ⟨g, cap, cur, rfl, hbase, hgb, r1, r2, r3, r4⟩
  · have hks : ks = [] := List.eq_nil_of_length_eq_zero (by omega)
    refine ⟨_, upd ρ m { a := none, len := 0, cap := 0 }, S, rfl, ?_, ?_, .inr ⟨Nat.le_refl _, by omega⟩⟩
    · rw [hupd]
      refine new_ints H0 hmU hB (Nat.le_refl _) (fun b hb => by simp [hblk] at hb) ?_ (fun V => by simp only [HV.uses]; exact uses_rows inRow V _)
      simp only [HRel, upd_same, hks]
      exact ⟨by simp [srtI, rows], by simp [srtI, rows, BL], by simp [srtI, rows], by simp [srtI, rows], .inl trivial⟩
    · simp only [Rel, upd_same]
  · refine ⟨_, upd ρ m { a := some ⟨g, 0, none⟩, len := ss.length, cap := cap }, S, rfl, ?_, ?_, .inr ⟨Nat.le_refl _, by omega⟩⟩
    · rw [hupd]
      refine new_ints H0 hmU hB hbase (fun b hb => by
        simp only [hblk] at hb
        split at hb
        · cases hb
        · simpa using hb.symm) ?_ (fun V => by simp only [HV.uses]; exact uses_rows inRow V _)
      simp only [HRel, upd_same]
      have hrl : (rows inRow (srtI ks)).length = ks.length := by simp [rows, hsrt]
      refine ⟨by rw [hrl, hsl], by rw [hrl]; unfold BL; omega, by rw [hrl]; omega, fun r hr => ?_, .inr ⟨g, (srtI ks).map vI, cur.toList.drop ss.length, (0, 0), rfl, ?_, by rw [rows_in_flat]; exact relL_ints _, ?_, by simp⟩⟩
      · obtain ⟨z, _, rfl⟩ := List.mem_map.1 hr; rfl
      · rw [hgb, ← r4, Nat.mul_one, List.take_append_drop]
      · rw [← r4, Nat.mul_one, List.take_append_drop, Array.length_toList, r3]
    · simp only [Rel, upd_same]
def mapE (l : List (Int × Int)) : PV := .map (l.map fun e => .int .i64 e.1) (l.map fun e => .lit (.int .i64 e.2))
def intE (l : List (Int × Int)) : List (Value × DV) := l.map fun e => (.int .i64 e.1, li e.2)
def valI (l : List (Int × Int)) (k : Int) : Int := (l.lookup k).getD 0
def hasI (l : List (Int × Int)) (k : Int) : Bool := (l.lookup k).isSome
theorem mapE_of (l : List (Int × Int)) (h : Nat → Option HV) : mapOf (.p (mapE l)) h = some (intE l) := by
  unfold mapOf
  unfold mapE pmap intE
  simp only [List.map_map]
  congr 1
  induction l with
  | nil => rfl
  | cons e l ih => simp only [List.map_cons, List.zip_cons_cons, ih]; rfl
theorem intE_find (k : Int) : ∀ l : List (Int × Int), mfind (intE l) (.int .i64 k) = (l.lookup k).map li
  | [] => rfl
  | e :: l => by
    have ih := intE_find k l
    have e0 : intE (e :: l) = (.int .i64 e.1, li e.2) :: intE l := rfl
    rw [e0, mfind, List.lookup_cons]
    by_cases h : k = e.1
    · rw [if_pos (show vkey (.int .i64 k) (.int .i64 e.1) = true by simp [vkey, h])]
      simp [h]
    · rw [if_neg (show ¬ vkey (.int .i64 k) (.int .i64 e.1) = true by simp [vkey, h]), ih]
      have h2 : (k == e.1) = false := by simpa using h
      rw [h2]
theorem intE_val (l : List (Int × Int)) (k : Int) : (mfind (intE l) (.int .i64 k)).getD (.p (.lit (.int .i64 0))) = li (valI l k) := by
  rw [intE_find]; unfold valI
  cases l.lookup k <;> rfl
theorem intE_has (l : List (Int × Int)) (k : Int) : (mfind (intE l) (.int .i64 k)).isSome = hasI l k := by
  rw [intE_find]; unfold hasI
  cases l.lookup k <;> rfl
theorem intE_ok (l : List (Int × Int)) : keysOk (.int .i64) (intE l) = True :=
  propext ⟨fun _ => trivial, fun _ e he => by
    obtain ⟨z, _, rfl⟩ := List.mem_map.1 he
    rfl⟩
theorem hasI_f (l : List (Int × Int)) (k : Int) [h : Nonempty (hasI l k = false)] : hasI l k = false := h.elim id
theorem hasI_t (l : List (Int × Int)) (k : Int) [h : Nonempty (hasI l k = true)] : hasI l k = true := h.elim id
theorem mapE_pm (l : List (Int × Int)) : pmap (mapE l) = some (intE l) := mapE_of l (fun _ => none)
attribute [push_cast] mapE_pm
attribute [push_cast] intE_val intE_has intE_ok hasI_f hasI_t
attribute [irreducible] mapE intE valI hasI
def bestS (p : Plan) (k : Nat) (v : Int) (l : List (Int × Int)) (stx : Int × Int × Bool) (i : Nat) : Int × Int × Bool :=
  if possB p k v (p.rel.getD i default) && hasI l (aftI p k v (p.rel.getD i default)) && (!stx.2.2 || decide (costI p k v (p.rel.getD i default) + valI l (aftI p k v (p.rel.getD i default)) < stx.2.1)) then
    ((i : Int), costI p k v (p.rel.getD i default) + valI l (aftI p k v (p.rel.getD i default)), true) else stx
def bestN (p : Plan) (k : Nat) (v : Int) (l : List (Int × Int)) (i : Nat) : Int × Int × Bool := (List.range i).foldl (bestS p k v l) (0, 0, false)
def bestI (p : Plan) (k : Nat) (v : Int) (l : List (Int × Int)) : Int × Int × Bool := bestN p k v l p.rel.length
theorem bestN_next (p : Plan) (k : Nat) (v : Int) (l : List (Int × Int)) (i : Nat) : bestN p k v l (i + 1) = bestS p k v l (bestN p k v l i) i := by
  unfold bestN; rw [List.range_succ, List.foldl_append]; rfl
set_option maxRecDepth 20000 in
set_option maxHeartbeats 8000000 in
theorem best_f (p : Plan) (k : Nat) (v : Int) (l : List (Int × Int)) (m : Nat) (hp : planB p = true) (hk : k < p.inf.length) (hv : 0 ≤ v ∧ v ≤ 1099511627776) (hl : ∀ z, 0 ≤ valI l z ∧ valI l z ≤ 900000000000000000) :
    DCalls Try.prog 22 [.ptr 0 0, li k, li v, .p (mapE l)] (hget (tkH p)) m (.tup [li (bestI p k v l).1, li (bestI p k v l).2.1, lb (bestI p k v l).2.2]) (hget (tkH p)) := by
  have hin := planB_in hp
  have hrl := hin.2.2.2.2.1
  refine contract (n := 65) (rs := [.tmp 8, .tmp 9, .tmp 10]) (ts := [3, 3, 4]) Try.func22 rfl (by decide) 1 1 [] [] [] (.tup [li (bestI p k v l).1, li (bestI p k v l).2.1, lb (bestI p k v l).2.2]) (tkH p) (by (exact SD)) (by (exact SD)) ?_
  (repeat' (first | refine swp_seq [0, 1, 2, 3, 8, 9, 10, 11, 12, 13, 14, 15, 16, 17, 18, 24, 25, 26, 38, 56] ?_ | refine st2 ?_ | (show Fct ..; refine fctI (fun hf => ?_)) | (show SWp _ _ _ (.cond _ _ _) _ _ _ _; first | refine cB (fun hc => ?_) (fun hc => ?_) | refine cU ?_ ?_)))
  refine loop_swp [0, 1, 2, 3, 11, 12, 13, 24, 25] [0] 1 (fun q A H => ∃ i : Nat, i ≤ p.rel.length ∧ q = p.rel.length - i ∧ A = [(0, .ptr 0 0), (1, li k), (2, li v), (3, .p (mapE l)), (11, li (bestN p k v l i).1), (12, li (bestN p k v l i).2.1), (13, lb (bestN p k v l i).2.2), (24, li p.rel.length), (25, li i)] ∧ H = tkH p) (by omega) ?_ ?_ ?_
  · rintro q A H ⟨i, h1, h2, rfl, rfl⟩
    exact ⟨by (exact SD), by (exact SD)⟩
  · refine ⟨_, 0, by omega, rfl, ?_, ?_⟩
    · exact DVR
    · exact DVR
  rintro q A H ⟨i, h1, h2, rfl, rfl⟩
  by_cases hi : i < p.rel.length
  · have hi3 : (i : Int) < (p.rel.length : Int) := by omega
    have hnx := bestN_next p k v l i
    have hcst := cost_in hp hk hv hi
    (have := Nonempty.intro hi)
    (have := Nonempty.intro hi3)
    cases hpo : possB p k v (p.rel.getD i default)
    · have cs := fun m => step_no p k i v m hp hk hi hv hpo
      have e : bestN p k v l (i + 1) = bestN p k v l i := by rw [hnx]; unfold bestS; rw [hpo]; rfl
      (repeat' (first | refine swp_seq [0, 1, 2, 3, 8, 9, 10, 11, 12, 13, 14, 15, 16, 17, 18, 24, 25, 26, 38, 56] ?_ | refine st2 ?_ | (show Fct ..; refine fctI (fun hf => ?_)) | (show SWp _ _ _ (.cond _ _ _) _ _ _ _; first | refine cB (fun hc => ?_) (fun hc => ?_) | refine cU ?_ ?_)))
      (refine cQT [0] (fun hcc => (cs _)) ?_)
      (repeat' (first | refine swp_seq [0, 1, 2, 3, 8, 9, 10, 11, 12, 13, 14, 15, 16, 17, 18, 24, 25, 26, 38, 56] ?_ | refine st2 ?_ | (show Fct ..; refine fctI (fun hf => ?_)) | (show SWp _ _ _ (.cond _ _ _) _ _ _ _; first | refine cB (fun hc => ?_) (fun hc => ?_) | refine cU ?_ ?_)))
      rw [← e]
      (refine lN [0] ?_)
      exact ⟨_, by omega, i + 1, by omega, rfl, rfl, rfl⟩
    · have cs := fun m => step_yes p k i v m hp hk hi hv hpo
      have hlv := hl (aftI p k v (p.rel.getD i default))
      unfold bestS at hnx
      rw [hpo, Bool.true_and] at hnx
      generalize aftI p k v (p.rel.getD i default) = w at *
      generalize costI p k v (p.rel.getD i default) = c at *
      have hcc := hcst.2.2.2
      clear hcst
      obtain ⟨stx, hstx⟩ : ∃ stx, bestN p k v l i = stx := ⟨_, rfl⟩
      rw [hstx] at hnx ⊢
      obtain ⟨R, L, Fd⟩ := stx
      clear hstx
      have hc0 : 0 ≤ c ∧ c ≤ 4398046511104000 := hcc
      cases hh : hasI l w
      · rw [hh] at hnx
        have e : bestN p k v l (i + 1) = (R, L, Fd) := hnx
        (have := Nonempty.intro hh)
        (repeat' (first | refine swp_seq [0, 1, 2, 3, 8, 9, 10, 11, 12, 13, 14, 15, 16, 17, 18, 24, 25, 26, 38, 56] ?_ | refine st2 ?_ | (show Fct ..; refine fctI (fun hf => ?_)) | (show SWp _ _ _ (.cond _ _ _) _ _ _ _; first | refine cB (fun hc => ?_) (fun hc => ?_) | refine cU ?_ ?_)))
        (refine cQT [0] (fun hcc => (cs _)) ?_)
        (repeat' (first | refine swp_seq [0, 1, 2, 3, 8, 9, 10, 11, 12, 13, 14, 15, 16, 17, 18, 24, 25, 26, 38, 56] ?_ | refine st2 ?_ | (show Fct ..; refine fctI (fun hf => ?_)) | (show SWp _ _ _ (.cond _ _ _) _ _ _ _; first | refine cB (fun hc => ?_) (fun hc => ?_) | refine cU ?_ ?_)))
        (refine lN [0] ?_)
        exact ⟨_, by omega, i + 1, by omega, rfl, by rw [e]; rfl, rfl⟩
      · rw [hh, Bool.true_and] at hnx
        (have := Nonempty.intro hh)
        cases Fd
        · have e : bestN p k v l (i + 1) = ((i : Int), c + valI l w, true) := hnx
          (repeat' (first | refine swp_seq [0, 1, 2, 3, 8, 9, 10, 11, 12, 13, 14, 15, 16, 17, 18, 24, 25, 26, 38, 56] ?_ | refine st2 ?_ | (show Fct ..; refine fctI (fun hf => ?_)) | (show SWp _ _ _ (.cond _ _ _) _ _ _ _; first | refine cB (fun hc => ?_) (fun hc => ?_) | refine cU ?_ ?_)))
          (refine cQT [0] (fun hcc => (cs _)) ?_)
          (repeat' (first | refine swp_seq [0, 1, 2, 3, 8, 9, 10, 11, 12, 13, 14, 15, 16, 17, 18, 24, 25, 26, 38, 56] ?_ | refine st2 ?_ | (show Fct ..; refine fctI (fun hf => ?_)) | (show SWp _ _ _ (.cond _ _ _) _ _ _ _; first | refine cB (fun hc => ?_) (fun hc => ?_) | refine cU ?_ ?_)))
          (refine lN [0] ?_)
          exact ⟨_, by omega, i + 1, by omega, rfl, by rw [e]; rfl, rfl⟩
        · by_cases hlt : c + valI l w < L
          · have e : bestN p k v l (i + 1) = ((i : Int), c + valI l w, true) := by rw [hnx]; simp [hlt]
            (have := Nonempty.intro hlt)
            (repeat' (first | refine swp_seq [0, 1, 2, 3, 8, 9, 10, 11, 12, 13, 14, 15, 16, 17, 18, 24, 25, 26, 38, 56] ?_ | refine st2 ?_ | (show Fct ..; refine fctI (fun hf => ?_)) | (show SWp _ _ _ (.cond _ _ _) _ _ _ _; first | refine cB (fun hc => ?_) (fun hc => ?_) | refine cU ?_ ?_)))
            (refine cQT [0] (fun hcc => (cs _)) ?_)
            (repeat' (first | refine swp_seq [0, 1, 2, 3, 8, 9, 10, 11, 12, 13, 14, 15, 16, 17, 18, 24, 25, 26, 38, 56] ?_ | refine st2 ?_ | (show Fct ..; refine fctI (fun hf => ?_)) | (show SWp _ _ _ (.cond _ _ _) _ _ _ _; first | refine cB (fun hc => ?_) (fun hc => ?_) | refine cU ?_ ?_)))
            (refine lN [0] ?_)
            exact ⟨_, by omega, i + 1, by omega, rfl, by rw [e]; rfl, rfl⟩
          · have e : bestN p k v l (i + 1) = (R, L, true) := by rw [hnx]; simp [hlt]
            (have := Nonempty.intro hlt)
            (repeat' (first | refine swp_seq [0, 1, 2, 3, 8, 9, 10, 11, 12, 13, 14, 15, 16, 17, 18, 24, 25, 26, 38, 56] ?_ | refine st2 ?_ | (show Fct ..; refine fctI (fun hf => ?_)) | (show SWp _ _ _ (.cond _ _ _) _ _ _ _; first | refine cB (fun hc => ?_) (fun hc => ?_) | refine cU ?_ ?_)))
            (refine cQT [0] (fun hcc => (cs _)) ?_)
            (repeat' (first | refine swp_seq [0, 1, 2, 3, 8, 9, 10, 11, 12, 13, 14, 15, 16, 17, 18, 24, 25, 26, 38, 56] ?_ | refine st2 ?_ | (show Fct ..; refine fctI (fun hf => ?_)) | (show SWp _ _ _ (.cond _ _ _) _ _ _ _; first | refine cB (fun hc => ?_) (fun hc => ?_) | refine cU ?_ ?_)))
            (refine lN [0] ?_)
            exact ⟨_, by omega, i + 1, by omega, rfl, by rw [e]; rfl, rfl⟩
  obtain rfl : i = p.rel.length := by omega
  have hi3 : ¬ ((p.rel.length : Int) < (p.rel.length : Int)) := by omega
  (have := Nonempty.intro hi3)
  (repeat' (first | refine swp_seq [0, 1, 2, 3, 8, 9, 10, 11, 12, 13, 14, 15, 16, 17, 18, 24, 25, 26, 38, 56] ?_ | refine st2 ?_ | (show Fct ..; refine fctI (fun hf => ?_)) | (show SWp _ _ _ (.cond _ _ _) _ _ _ _; first | refine cB (fun hc => ?_) (fun hc => ?_) | refine cU ?_ ?_)))
  exact DVR
def stepsN (p : Plan) (k : Nat) (v : Int) (s : List Int) (i : Nat) : List Int := (List.range i).foldl (fun s i => if possB p k v (p.rel.getD i default) then insI s (aftI p k v (p.rel.getD i default)) else s) s
def nextN (p : Plan) (k : Nat) (row : List Int) (i : Nat) : List Int := (List.range i).foldl (fun s j => stepsN p k (row.getD j default) s p.rel.length) []
def nextI (p : Plan) (k : Nat) (row : List Int) : List Int := nextN p k row row.length
def rowsN (p : Plan) (s : Nat) (v : Int) : Nat → List (List Int)
  | 0 => [[v]]
  | n + 1 => rowsN p s v n ++ [srtI (nextI p (s + n) ((rowsN p s v n).getD n default))]
theorem rowsN_len (p : Plan) (s : Nat) (v : Int) : ∀ n, (rowsN p s v n).length = n + 1
  | 0 => rfl
  | n + 1 => by rw [rowsN, List.length_append, rowsN_len p s v n]; rfl
def rowI (p : Plan) (s : Nat) (v : Int) (n : Nat) : List Int := (rowsN p s v n).getD n default
theorem rowsN_next (p : Plan) (s : Nat) (v : Int) (n : Nat) : rowsN p s v (n + 1) = rowsN p s v n ++ [srtI (nextI p (s + n) (rowI p s v n))] := rfl
theorem rowI_next (p : Plan) (s : Nat) (v : Int) (n : Nat) : rowI p s v (n + 1) = srtI (nextI p (s + n) (rowI p s v n)) := by
  unfold rowI
  rw [rowsN, List.getD_eq_getElem?_getD, List.getElem?_append_right (by rw [rowsN_len]; omega), rowsN_len]
  simp
def fewB45 (p : Plan) (s : Nat) (v : Int) (n : Nat) : Bool := decide ((nextI p (s + n) (rowI p s v n)).length ≤ 4000)
def fewA (p : Plan) (s : Nat) (v : Int) (n : Nat) : Bool := (List.range n).all (fewB45 p s v)
def reachR (p : Plan) (s : Nat) (v : Int) : List (List Int) × Bool := if fewA p s v (p.inf.length - s) then (rowsN p s v (p.inf.length - s), true) else ([], false)
theorem stepsN_next (p : Plan) (k : Nat) (v : Int) (s : List Int) (i : Nat) : stepsN p k v s (i + 1) = if possB p k v (p.rel.getD i default) then insI (stepsN p k v s i) (aftI p k v (p.rel.getD i default)) else stepsN p k v s i := by
  unfold stepsN; rw [List.range_succ, List.foldl_append]; rfl
theorem nextN_next (p : Plan) (k : Nat) (row : List Int) (i : Nat) : nextN p k row (i + 1) = stepsN p k (row.getD i default) (nextN p k row i) p.rel.length := by
  unfold nextN; rw [List.range_succ, List.foldl_append]; rfl
theorem insI_mem {s : List Int} {w z : Int} : z ∈ insI s w ↔ z ∈ s ∨ z = w := by
  unfold insI
  split
  · next h => exact ⟨.inl, fun k => k.elim id fun e => e ▸ h⟩
  · simp
theorem insI_len (s : List Int) (w : Int) : (insI s w).length ≤ s.length + 1 := by
  unfold insI; split
  · omega
  · simp
theorem stepsN_len (p : Plan) (k : Nat) (v : Int) (s : List Int) : ∀ i, (stepsN p k v s i).length ≤ s.length + i
  | 0 => Nat.le_refl _
  | i + 1 => by
    rw [stepsN_next]
    have ih := stepsN_len p k v s i
    split
    · have := insI_len (stepsN p k v s i) (aftI p k v (p.rel.getD i default)); omega
    · omega
theorem nextN_len (p : Plan) (k : Nat) (row : List Int) : ∀ i, (nextN p k row i).length ≤ i * p.rel.length
  | 0 => by simp [nextN]
  | i + 1 => by
    rw [nextN_next]
    have ih := nextN_len p k row i
    have := stepsN_len p k (row.getD i default) (nextN p k row i) p.rel.length
    rw [Nat.add_mul]; omega
def inCap (p : Plan) (l : List Int) : Prop := ∀ z, z ∈ l → p.res ≤ z ∧ z ≤ p.cap
theorem stepsN_in {p : Plan} {k : Nat} {v : Int} {s : List Int} (hp : planB p = true) (hs : inCap p s) : ∀ i, inCap p (stepsN p k v s i)
  | 0 => hs
  | i + 1 => by
    rw [stepsN_next]
    have ih := stepsN_in (k := k) (v := v) hp hs i
    split
    · next h =>
      intro z hz
      rcases insI_mem.1 hz with hz | rfl
      · exact ih z hz
      · exact aft_in hp h
    · exact ih
theorem nextN_in {p : Plan} {k : Nat} {row : List Int} (hp : planB p = true) : ∀ i, inCap p (nextN p k row i)
  | 0 => fun z hz => by simp [nextN] at hz
  | i + 1 => by rw [nextN_next]; exact stepsN_in hp (nextN_in hp i) _
theorem srtI_mem {l : List Int} {z : Int} : z ∈ srtI l ↔ z ∈ l := (List.mergeSort_perm l _).mem_iff
theorem srtI_len (l : List Int) : (srtI l).length = l.length := (List.mergeSort_perm l _).length_eq
theorem rowI_in {p : Plan} {s : Nat} {v : Int} (hp : planB p = true) (hv : p.res ≤ v ∧ v ≤ p.cap) : ∀ n, inCap p (rowI p s v n)
  | 0 => fun z hz => by
    have : z = v := by simpa [rowI, rowsN] using hz
    exact this ▸ hv
  | n + 1 => by
    rw [rowI_next]
    exact fun z hz => nextN_in hp _ z (srtI_mem.1 hz)
theorem rowI_len {p : Plan} {s : Nat} {v : Int} {n : Nat} (h : fewA p s v n = true) : (rowI p s v n).length ≤ 4000 := by
  cases n with
  | zero => simp [rowI, rowsN]
  | succ n =>
    rw [rowI_next, srtI_len]
    unfold fewA at h
    rw [List.all_eq_true] at h
    have := h n (List.mem_range.2 (by omega))
    unfold fewB45 at this
    simpa using this
theorem fewA_next {p : Plan} {s : Nat} {v : Int} {n : Nat} (h : fewA p s v n = true) (h2 : fewB45 p s v n = true) : fewA p s v (n + 1) = true := by
  unfold fewA at h ⊢
  rw [List.range_succ, List.all_append, h]
  simp [h2]
theorem fewA_no {p : Plan} {s : Nat} {v : Int} {n N : Nat} (hn : n < N) (h2 : fewB45 p s v n = false) : fewA p s v N = false := rall_false hn h2
theorem frz_app (RS : List (List Int)) (X : List Int) (o : Nat) : (rows ilRow RS ++ [[DV.gl o]]).map (DV.frzL o (.elems 1 (X.map inRow))) = rows ilRow (RS ++ [X]) := by
  rw [List.map_append, frz_rows]
  simp [DV.frzL, DV.frz, rows, ilRow]
set_option maxRecDepth 20000 in
set_option maxHeartbeats 16000000 in
theorem reach_f (p : Plan) (s : Nat) (v : Int) (m : Nat) (hp : planB p = true) (hs : s ≤ p.inf.length) (hv : p.res ≤ v ∧ v ≤ p.cap) :
    DCalls Try.prog 20 [.ptr 0 0, li s, li v] (hget (tkH p)) m (.tup [.p (.dat 1 ((reachR p s v).1.map ilRow)), lb (reachR p s v).2]) (hget (tkH p)) := by
  have hin := planB_in hp
  have hrl := hin.2.2.2.2.1
  have hil := hin.2.2.2.1
  obtain ⟨N, hN⟩ : ∃ N, p.inf.length - s = N := ⟨_, rfl⟩
  unfold reachR
  rw [hN]
  refine contract (n := 76) (rs := [.tmp 6, .tmp 7]) (ts := [29, 4]) Try.func20 rfl (by decide) 1 1 [33] [] [] (.tup [.p (.dat 1 ((if fewA p s v N then (rowsN p s v N, true) else ([], false)).1.map ilRow)), lb (if fewA p s v N then (rowsN p s v N, true) else ([], false)).2]) (tkH p) (by (exact SD)) (by (exact SD)) ?_
  (repeat' (first | refine swp_seq [0, 1, 2, 6, 7, 8, 9, 10, 12, 13, 14, 16, 28, 37, 38, 39, 40, 48, 49, 50, 61, 68] ?_ | refine st2 ?_ | (show Fct ..; refine fctI (fun hf => ?_)) | (show SWp _ _ _ (.cond _ _ _) _ _ _ _; first | refine cB (fun hc => ?_) (fun hc => ?_) | refine cU ?_ ?_)))
  (refine sF 25 ?_)
  refine loop_swp [0, 8, 9] [0, 33] 34 (fun q A H => ∃ j : Nat, j ≤ N ∧ q = N - j ∧ fewA p s v j = true ∧ A = [(0, .ptr 0 0), (8, .gl 33), (9, li ((s + j : Nat) : Int))] ∧ H = [(0, .blk 73 (tkC p (ints (p.rel.map (floorT p.pen))))), (33, .lst 22 1 (rows ilRow (rowsN p s v j)))]) (by omega) ?_ ?_ ?_
  · rintro q A H ⟨j, h1, h2, h3, rfl, rfl⟩
    exact ⟨by (exact SD), by (exact SD)⟩
  · refine ⟨_, 0, by omega, rfl, rfl, ?_, ?_⟩
    · exact DVR
    · exact DVR
  rintro q A H ⟨j, h1, h2, h3, rfl, rfl⟩
  have hrlen := rowsN_len p s v j
  by_cases hj : j < N
  · have hj2 : (s : Int) + (j : Int) < (p.inf.length : Int) := by omega
    have hsj : s + j < p.inf.length := by omega
    have hrow : (rowsN p s v j).getD ((rowsN p s v j).length - 1) default = rowI p s v j := by
      rw [show (rowsN p s v j).length - 1 = j by omega]; rfl
    have hri := rowI_in (s := s) hp hv j
    have hrl2 := rowI_len h3
    have hnx := rowsN_next p s v j
    have hfw := fun (h : fewB45 p s v j = true) => fewA_next h3 h
    have hfn := fun (h : fewB45 p s v j = false) => fewA_no hj h
    unfold fewB45 at hfw hfn
    generalize rowI p s v j = row at *
    generalize rowsN p s v j = RS at *
    (have := Nonempty.intro hj2)
    (repeat' (first | refine swp_seq [0, 1, 2, 6, 7, 8, 9, 10, 12, 13, 14, 16, 28, 37, 38, 39, 40, 48, 49, 50, 61, 68] ?_ | refine st2 ?_ | (show Fct ..; refine fctI (fun hf => ?_)) | (show SWp _ _ _ (.cond _ _ _) _ _ _ _; first | refine cB (fun hc => ?_) (fun hc => ?_) | refine cU ?_ ?_)))
    rw [hrow]
    refine loop_swp [0, 8, 9, 10, 37, 38, 39] [0, 33, 98] 99 (fun q A H => ∃ i : Nat, i ≤ row.length ∧ q = row.length - i ∧ A = [(0, .ptr 0 0), (8, .gl 33), (9, li ((s + j : Nat) : Int)), (10, .mref 98), (37, ints row), (38, li row.length), (39, li i)] ∧ H = [(0, .blk 73 (tkC p (ints (p.rel.map (floorT p.pen))))), (33, .lst 22 1 (rows ilRow RS)), (98, .map (setE (nextN p (s + j) row i)))]) (by omega) ?_ ?_ ?_
    · rintro q A H ⟨i, g1, g2, rfl, rfl⟩
      exact ⟨by (exact SD), by (exact SD)⟩
    · refine ⟨_, 0, by omega, rfl, ?_, ?_⟩
      · exact DVR
      · rw [show nextN p (s + j) row 0 = [] from rfl, setE_nil]
        exact DVR
    rintro q A H ⟨i, g1, g2, rfl, rfl⟩
    by_cases hi : i < row.length
    · have hi3 : (i : Int) < (row.length : Int) := by omega
      have hnn := nextN_next p (s + j) row i
      have hvi : 0 ≤ row.getD i default ∧ row.getD i default ≤ 1099511627776 := by
        have h5 := hri _ (getD_mem hi)
        have h6 := hin.2.1
        have h7 := hin.1
        omega
      (have := Nonempty.intro hi)
      (have := Nonempty.intro hi3)
      (repeat' (first | refine swp_seq [0, 1, 2, 6, 7, 8, 9, 10, 12, 13, 14, 16, 28, 37, 38, 39, 40, 48, 49, 50, 61, 68] ?_ | refine st2 ?_ | (show Fct ..; refine fctI (fun hf => ?_)) | (show SWp _ _ _ (.cond _ _ _) _ _ _ _; first | refine cB (fun hc => ?_) (fun hc => ?_) | refine cU ?_ ?_)))
      refine loop_swp [0, 8, 9, 10, 12, 37, 38, 39, 48, 49] [0, 33, 98] 99 (fun q A H => ∃ r : Nat, r ≤ p.rel.length ∧ q = p.rel.length - r ∧ A = [(0, .ptr 0 0), (8, .gl 33), (9, li ((s + j : Nat) : Int)), (10, .mref 98), (12, li (row.getD i default)), (37, ints row), (38, li row.length), (39, li i), (48, li p.rel.length), (49, li r)] ∧ H = [(0, .blk 73 (tkC p (ints (p.rel.map (floorT p.pen))))), (33, .lst 22 1 (rows ilRow RS)), (98, .map (setE (stepsN p (s + j) (row.getD i default) (nextN p (s + j) row i) r)))]) (by omega) ?_ ?_ ?_
      · rintro q A H ⟨r, k1, k2, rfl, rfl⟩
        exact ⟨by (exact SD), by (exact SD)⟩
      · refine ⟨_, 0, by omega, rfl, ?_, ?_⟩
        · exact DVR
        · rw [show stepsN p (s + j) (row.getD i default) (nextN p (s + j) row i) 0 = nextN p (s + j) row i from rfl]
          exact DVR
      rintro q A H ⟨r, k1, k2, rfl, rfl⟩
      by_cases hr : r < p.rel.length
      · have hr3 : (r : Int) < (p.rel.length : Int) := by omega
        have hsn := stepsN_next p (s + j) (row.getD i default) (nextN p (s + j) row i) r
        (have := Nonempty.intro hr)
        (have := Nonempty.intro hr3)
        generalize stepsN p (s + j) (row.getD i default) (nextN p (s + j) row i) r = ST at *
        cases hpo : possB p (s + j) (row.getD i default) (p.rel.getD r default)
        · have cs := fun m => step_no p (s + j) r (row.getD i default) m hp hsj hr hvi hpo
          rw [hpo, if_neg (by decide)] at hsn
          (repeat' (first | refine swp_seq [0, 1, 2, 6, 7, 8, 9, 10, 12, 13, 14, 16, 28, 37, 38, 39, 40, 48, 49, 50, 61, 68] ?_ | refine st2 ?_ | (show Fct ..; refine fctI (fun hf => ?_)) | (show SWp _ _ _ (.cond _ _ _) _ _ _ _; first | refine cB (fun hc => ?_) (fun hc => ?_) | refine cU ?_ ?_)))
          (refine cQT [0] (fun hcc => (cs _)) ?_)
          (repeat' (first | refine swp_seq [0, 1, 2, 6, 7, 8, 9, 10, 12, 13, 14, 16, 28, 37, 38, 39, 40, 48, 49, 50, 61, 68] ?_ | refine st2 ?_ | (show Fct ..; refine fctI (fun hf => ?_)) | (show SWp _ _ _ (.cond _ _ _) _ _ _ _; first | refine cB (fun hc => ?_) (fun hc => ?_) | refine cU ?_ ?_)))
          rw [← hsn]
          (refine lN [0, 33, 98] ?_)
          exact ⟨_, by omega, r + 1, by omega, rfl, rfl, rfl⟩
        · have cs := fun m => step_yes p (s + j) r (row.getD i default) m hp hsj hr hvi hpo
          rw [hpo, if_pos rfl] at hsn
          (repeat' (first | refine swp_seq [0, 1, 2, 6, 7, 8, 9, 10, 12, 13, 14, 16, 28, 37, 38, 39, 40, 48, 49, 50, 61, 68] ?_ | refine st2 ?_ | (show Fct ..; refine fctI (fun hf => ?_)) | (show SWp _ _ _ (.cond _ _ _) _ _ _ _; first | refine cB (fun hc => ?_) (fun hc => ?_) | refine cU ?_ ?_)))
          (refine cQT [0] (fun hcc => (cs _)) ?_)
          (repeat' (first | refine swp_seq [0, 1, 2, 6, 7, 8, 9, 10, 12, 13, 14, 16, 28, 37, 38, 39, 40, 48, 49, 50, 61, 68] ?_ | refine st2 ?_ | (show Fct ..; refine fctI (fun hf => ?_)) | (show SWp _ _ _ (.cond _ _ _) _ _ _ _; first | refine cB (fun hc => ?_) (fun hc => ?_) | refine cU ?_ ?_)))
          rw [← hsn]
          (refine lN [0, 33, 98] ?_)
          exact ⟨_, by omega, r + 1, by omega, rfl, rfl, rfl⟩
      obtain rfl : r = p.rel.length := by omega
      have hr3 : ¬ (p.rel.length : Int) < (p.rel.length : Int) := by omega
      (have := Nonempty.intro hr3)
      rw [← hnn]
      (repeat' (first | refine swp_seq [0, 1, 2, 6, 7, 8, 9, 10, 12, 13, 14, 16, 28, 37, 38, 39, 40, 48, 49, 50, 61, 68] ?_ | refine st2 ?_ | (show Fct ..; refine fctI (fun hf => ?_)) | (show SWp _ _ _ (.cond _ _ _) _ _ _ _; first | refine cB (fun hc => ?_) (fun hc => ?_) | refine cU ?_ ?_)))
      (refine lN [0, 33, 98] ?_)
      exact ⟨_, by omega, i + 1, by omega, rfl, rfl, rfl⟩
    obtain rfl : i = row.length := by omega
    have hi3 : ¬ (row.length : Int) < (row.length : Int) := by omega
    (have := Nonempty.intro hi3)
    change SWp _ _ _ _ _ _ [_, _, (98, .map (setE (nextI p (s + j) row)))] _
    have hnc := nextN_in (k := s + j) (row := row) hp row.length
    change inCap p (nextI p (s + j) row) at hnc
    generalize nextI p (s + j) row = KS at *
    by_cases hb : (4000 : Int) < (KS.length : Int)
    · have e : fewA p s v N = false := hfn (decide_eq_false (by omega))
      rw [e]
      (have := Nonempty.intro hb)
      (repeat' (first | refine swp_seq [0, 1, 2, 6, 7, 8, 9, 10, 12, 13, 14, 16, 28, 37, 38, 39, 40, 48, 49, 50, 61, 68] ?_ | refine st2 ?_ | (show Fct ..; refine fctI (fun hf => ?_)) | (show SWp _ _ _ (.cond _ _ _) _ _ _ _; first | refine cB (fun hc => ?_) (fun hc => ?_) | refine cU ?_ ?_)))
      exact DVR
    · have hfw2 := hfw (decide_eq_true (by omega))
      have hkb : ∀ z, z ∈ KS → -9223372036854775808 ≤ z ∧ z ≤ 9223372036854775807 := fun z hz => by
        have := hnc z hz
        have h6 := hin.2.1
        have h7 := hin.1
        omega
      (have := Nonempty.intro hb)
      (repeat' (first | refine swp_seq [0, 1, 2, 6, 7, 8, 9, 10, 12, 13, 14, 16, 28, 37, 38, 39, 40, 48, 49, 50, 61, 68] ?_ | refine st2 ?_ | (show Fct ..; refine fctI (fun hf => ?_)) | (show SWp _ _ _ (.cond _ _ _) _ _ _ _; first | refine cB (fun hc => ?_) (fun hc => ?_) | refine cU ?_ ?_)))
      (refine cQT [98] (fun hcc => (keys_f KS 1)) ?_)
      (repeat' (first | refine swp_seq [0, 1, 2, 6, 7, 8, 9, 10, 12, 13, 14, 16, 28, 37, 38, 39, 40, 48, 49, 50, 61, 68] ?_ | refine st2 ?_ | (show Fct ..; refine fctI (fun hf => ?_)) | (show SWp _ _ _ (.cond _ _ _) _ _ _ _; first | refine cB (fun hc => ?_) (fun hc => ?_) | refine cU ?_ ?_)))
      (refine cQT [98, 147] (fun hcc => (sorted_f KS 2 hkb (by omega))) ?_)
      (repeat' (first | (show SWp _ _ _ (.region 4 _ _) _ _ _ _; refine (stop_in ?_)) | refine swp_seq [0, 1, 2, 6, 7, 8, 9, 10, 12, 13, 14, 16, 28, 37, 38, 39, 40, 48, 49, 50, 61, 68] ?_ | refine st2 ?_ | (show CallQ ..; first | refine cQ (fun hcc => (by fail)) ?_ | (refine lP ?_; refine lQ (fun hcc m => (by fail)) ?_)) | (show Fct ..; refine fctI (fun hf => ?_)) | (show SWp _ _ _ (.cond _ _ _) _ _ _ _; first | refine cB (fun hc => ?_) (fun hc => ?_) | refine cU ?_ ?_)))
      refine stop_out ?_
      (refine sF 155 ?_)
      (repeat' (first | refine swp_seq [0, 1, 2, 6, 7, 8, 9, 10, 12, 13, 14, 16, 28, 37, 38, 39, 40, 48, 49, 50, 61, 68] ?_ | refine st2 ?_ | (show Fct ..; refine fctI (fun hf => ?_)) | (show SWp _ _ _ (.cond _ _ _) _ _ _ _; first | refine cB (fun hc => ?_) (fun hc => ?_) | refine cU ?_ ?_)))
      rw [frz_app, ← hnx]
      (refine lN [0, 33] ?_)
      exact ⟨_, by omega, j + 1, by omega, rfl, hfw2, by rw [show ((s + (j + 1) : Nat) : Int) = (s : Int) + (j : Int) + 1 by omega]; rfl, rfl⟩
  · obtain rfl : j = N := by omega
    have hj2 : ¬ (s : Int) + (j : Int) < (p.inf.length : Int) := by omega
    (have := Nonempty.intro hj2)
    rw [h3, if_pos rfl]
    generalize rowsN p s v j = RS at *
    (repeat' (first | refine swp_seq [0, 1, 2, 6, 7, 8, 9, 10, 12, 13, 14, 16, 28, 37, 38, 39, 40, 48, 49, 50, 61, 68] ?_ | refine st2 ?_ | (show Fct ..; refine fctI (fun hf => ?_)) | (show SWp _ _ _ (.cond _ _ _) _ _ _ _; first | refine cB (fun hc => ?_) (fun hc => ?_) | refine cU ?_ ?_)))
    exact DVR

end Go.Proofs.Ytlailhdmgehniaa
