/-
  Contracts of functions of the program, over the engine.
  No condition.
-/
import Derived.Test.YtdhcpkeldpadlaaGreatCA1
import Derived.Shelf.SortM.Plain
import Derived.Test.YtdhcpkeldpadlaaGreatCU2
import Derived.Shelf.Slices.CompactI
namespace Go.Proofs.YtdhcpkeldpadlaaGreat
open Go.Eng
set_option linter.all false
attribute [local irreducible] DCallsG SWp Fct CallQ XCallQ LCallQ XLCallQ drun xrun
set_option maxHeartbeats 64000000
set_option maxRecDepth 20000

open Go.RowKit Go.Sort Go.Shelf
def sort5_ren : Go.Shelf.Ren := ⟨fun | 5 => 145 | 8 => 177 | 7 => 176 | 19 => 205 | 20 => 195 | 10 => 196 | 11 => 197 | 12 => 198 | 13 => 199 | 14 => 200 | 15 => 201 | 16 => 202 | 17 => 203 | 18 => 204 | 30 => 214 | 31 => 215 | 32 => 216 | 33 => 217 | 34 => 218 | 35 => 219 | 40 => 225 | n => n, fun | 23 => 31 | 25 => 3 | 3 => 3 | 32 => 204 | 22 => 31 | 0 => 0 | 44 => 225 | 46 => 184 | 4 => 4 | 36 => 219 | 35 => 218 | 41 => 107 | 5 => 5 | 9 => 9 | 53 => 231 | 57 => 235 | 63 => 243 | 64 => 172 | n => n, fun n => n⟩
theorem sort5 : SlLaysM.n5 Tryz.prog sort5_ren where
  mixed := by kernel_rfl
  f5 := ⟨"slices.Sort[[]int,int]", by decide, (Tryz.func145).trans (congrArg some (by kernel_rfl))⟩
  f7 := ⟨"slices.pdqsortOrdered[int]", by decide, (Tryz.func176).trans (congrArg some (by kernel_rfl))⟩
  f8 := (Tryz.func177).trans (congrArg some (by kernel_rfl))
  f10 := ⟨"slices.insertionSortOrdered[int]", by decide, (Tryz.func196).trans (congrArg some (by kernel_rfl))⟩
  f11 := ⟨"slices.heapSortOrdered[int]", by decide, (Tryz.func197).trans (congrArg some (by kernel_rfl))⟩
  f12 := ⟨"slices.breakPatternsOrdered[int]", by decide, (Tryz.func198).trans (congrArg some (by kernel_rfl))⟩
  f13 := ⟨"slices.choosePivotOrdered[int]", by decide, (Tryz.func199).trans (congrArg some (by kernel_rfl))⟩
  f14 := ⟨"slices.reverseRangeOrdered[int]", by decide, (Tryz.func200).trans (congrArg some (by kernel_rfl))⟩
  f15 := ⟨"slices.partialInsertionSortOrdered[int]", by decide, (Tryz.func201).trans (congrArg some (by kernel_rfl))⟩
  f16 := ⟨"cmp.Less[int]", by decide, (Tryz.func202).trans (congrArg some (by kernel_rfl))⟩
  f17 := ⟨"slices.partitionEqualOrdered[int]", by decide, (Tryz.func203).trans (congrArg some (by kernel_rfl))⟩
  f18 := ⟨"slices.partitionOrdered[int]", by decide, (Tryz.func204).trans (congrArg some (by kernel_rfl))⟩
  f19 := (Tryz.func205).trans (congrArg some (by kernel_rfl))
  f20 := (Tryz.func195).trans (congrArg some (by kernel_rfl))
  f30 := ⟨"slices.siftDownOrdered[int]", by decide, (Tryz.func214).trans (congrArg some (by kernel_rfl))⟩
  f31 := (Tryz.func215).trans (congrArg some (by kernel_rfl))
  f32 := (Tryz.func216).trans (congrArg some (by kernel_rfl))
  f33 := ⟨"slices.medianAdjacentOrdered[int]", by decide, (Tryz.func217).trans (congrArg some (by kernel_rfl))⟩
  f34 := ⟨"slices.medianOrdered[int]", by decide, (Tryz.func218).trans (congrArg some (by kernel_rfl))⟩
  f35 := ⟨"cmp.isNaN[int]", by decide, (Tryz.func219).trans (congrArg some (by kernel_rfl))⟩
  f40 := ⟨"slices.order2Ordered[int]", by decide, (Tryz.func225).trans (congrArg some (by kernel_rfl))⟩
  t0 := Tryz.underlying0
  a0 := Tryz.isAgg0
  z0 := Tryz.sizeOf0
  v0 := Tryz.zeroValue0
  t3 := Tryz.underlying3
  a3 := Tryz.isAgg3
  z3 := Tryz.sizeOf3
  v3 := Tryz.zeroValue3
  t4 := Tryz.underlying4
  a4 := Tryz.isAgg4
  z4 := Tryz.sizeOf4
  v4 := Tryz.zeroValue4
  t5 := Tryz.underlying5
  a5 := Tryz.isAgg5
  z5 := Tryz.sizeOf5
  v5 := Tryz.zeroValue5
  t9 := Tryz.underlying9
  a9 := Tryz.isAgg9
  z9 := Tryz.sizeOf9
  v9 := Tryz.zeroValue9
  t22 := Tryz.underlying31
  a22 := Tryz.isAgg31
  z22 := Tryz.sizeOf31
  v22 := Tryz.zeroValue31
  t23 := Tryz.underlying31
  a23 := Tryz.isAgg31
  z23 := Tryz.sizeOf31
  v23 := Tryz.zeroValue31
  t25 := Tryz.underlying3
  a25 := Tryz.isAgg3
  z25 := Tryz.sizeOf3
  v25 := Tryz.zeroValue3
  t32 := Tryz.underlying204
  a32 := Tryz.isAgg204
  z32 := Tryz.sizeOf204
  v32 := Tryz.zeroValue204
  t35 := Tryz.underlying218
  a35 := Tryz.isAgg218
  z35 := Tryz.sizeOf218
  v35 := Tryz.zeroValue218
  t36 := Tryz.underlying219
  a36 := Tryz.isAgg219
  z36 := Tryz.sizeOf219
  v36 := Tryz.zeroValue219
  t41 := Tryz.underlying107
  a41 := Tryz.isAgg107
  z41 := Tryz.sizeOf107
  v41 := Tryz.zeroValue107
  t44 := Tryz.underlying225
  a44 := Tryz.isAgg225
  z44 := Tryz.sizeOf225
  v44 := Tryz.zeroValue225
  t46 := Tryz.underlying184
  a46 := Tryz.isAgg184
  z46 := Tryz.sizeOf184
  v46 := Tryz.zeroValue184
  t53 := Tryz.underlying231
  a53 := Tryz.isAgg231
  z53 := Tryz.sizeOf231
  v53 := Tryz.zeroValue231
  t57 := Tryz.underlying235
  a57 := Tryz.isAgg235
  z57 := Tryz.sizeOf235
  v57 := Tryz.zeroValue235
  t63 := Tryz.underlying243
  a63 := Tryz.isAgg243
  z63 := Tryz.sizeOf243
  v63 := Tryz.zeroValue243
  t64 := Tryz.underlying172
  a64 := Tryz.isAgg172
  z64 := Tryz.sizeOf172
  v64 := Tryz.zeroValue172
theorem sortInts (blk off cap : Nat) (zs : List Int) (w : World) (hH : Holds (Value.int .i64) w blk off zs.toArray) (hblk : blk < w.heap.size) (hsz : zs.length < 4611686018427387904) :
    Calls Tryz.prog 145 #[.slice (some ⟨blk, off, none⟩) zs.length cap] w fun e w' => e = .returned (.tuple #[]) /\ ∃ n os, w' = grow (putRow (Value.int .i64) (Sort.ahead w n) blk off (zs.mergeSort fun x y => decide (x <= y)).toArray) os :=
  AnyM.slices_Sort_int sort5 blk off cap zs w hH hblk hsz
open Go.RowKit Go.Sort Go.Shelf
def compact_ren : Go.Shelf.Ren := ⟨fun | 20 => 146 | n => n, fun | 0 => 0 | 3 => 3 | 4 => 4 | 22 => 31 | n => n, fun n => n⟩
theorem compact20 : Lays2.n20 Tryz.prog compact_ren where
  mixed := by kernel_rfl
  f20 := (Tryz.func146).trans (congrArg some (by kernel_rfl))
  t0 := Tryz.underlying0
  a0 := Tryz.isAgg0
  z0 := Tryz.sizeOf0
  v0 := Tryz.zeroValue0
  t3 := Tryz.underlying3
  a3 := Tryz.isAgg3
  z3 := Tryz.sizeOf3
  v3 := Tryz.zeroValue3
  t4 := Tryz.underlying4
  a4 := Tryz.isAgg4
  z4 := Tryz.sizeOf4
  v4 := Tryz.zeroValue4
  t22 := Tryz.underlying31
  a22 := Tryz.isAgg31
  z22 := Tryz.sizeOf31
  v22 := Tryz.zeroValue31
  i3 := by kernel_rfl
def keepF : Int -> List Int -> List Int
  | _, [] => []
  | p, x :: l => if x = p then keepF p l else x :: keepF x l
theorem compN_keep : ∀ (l : List Int) (x : Int), compN (x :: l) = x :: keepF x l
  | [], _ => rfl
  | y :: l, x => by
    unfold compN keepF;rw [compN_keep l y];by_cases h : x = y
    · rw [if_pos h, if_pos h.symm, h]
    · rw [if_neg h, if_neg fun e => h e.symm]
theorem keepF_snoc (y : Int) : ∀ (l : List Int) (x : Int), keepF x (l ++ [y]) = keepF x l ++ if y = (x :: l).getLast (by simp) then [] else [y]
  | [], x => by
    show keepF x [y] = [] ++ _;unfold keepF keepF;rw [List.getLast_singleton, List.nil_append]
  | a :: l, x => by
    show keepF x (a :: (l ++ [y])) = _;have e : (x :: a :: l).getLast (by simp) = (a :: l).getLast (by simp) := List.getLast_cons (by simp);rw [keepF, keepF, keepF_snoc y l x, keepF_snoc y l a, e];by_cases h : a = x
    · subst h;rw [if_pos rfl, if_pos rfl]
    · rw [if_neg h, if_neg h, List.cons_append]
theorem compact_keep (x : Int) (l : List Int) : ∀ m, m <= l.length -> Go.Lib.compactUpTo (x :: l).toArray (m + 1) = x :: keepF x (l.take m)
  | 0, _ => by
    rw [Go.Lib.compactUpTo_succ];simp [Go.Lib.compactUpTo, Go.Lib.keeps, keepF]
  | m + 1, h => by
    have hm : m < l.length := h;have h1 : (x :: l).toArray[m + 1]! = l[m] := by simp [hm]
    have h2 : (x :: l).toArray[m + 1 - 1]! = (x :: l.take m).getLast (by simp) := by
      rw [List.getLast_eq_getElem];have hl : (x :: l.take m).length - 1 = m := by simp; omega
      rw [getElem!_pos _ _ (by simp; omega)];simp only [List.getElem_toArray, hl, Nat.add_sub_cancel];cases m with
      | zero => rfl
      | succ m => simp
    rw [Go.Lib.compactUpTo_succ, compact_keep x l m (by omega), List.take_succ_eq_append_getElem hm, keepF_snoc, <- List.cons_append];congr 1
    unfold Go.Lib.keeps;rw [h1, h2];by_cases e : l[m] = (x :: l.take m).getLast (by simp)
    · rw [if_pos e, if_neg (by simp [e])]
    · rw [if_neg e, if_pos (by simp [e])]
theorem compact_eq (l : List Int) : Go.Lib.compact l = compN l := by
  cases l with
  | nil => rfl
  | cons x l =>
    unfold Go.Lib.compact;rw [List.length_cons, compact_keep x l l.length (Nat.le_refl _), List.take_length, compN_keep]
theorem compN_len (l : List Int) : (compN l).length <= l.length := by
  rw [<- compact_eq];unfold Go.Lib.compact Go.Lib.compactUpTo;rw [List.length_map];refine Nat.le_trans (List.length_filter_le ..) ?_;rw [List.length_range]; exact Nat.le_refl _
theorem relL_vI {ρ : Nat -> Hd} {S : Nat -> Prop} {w : World} : ∀ (l : List Int) (vs : List Value), RelL ρ S w (l.map li) vs -> vs = l.map (Value.int .i64)
  | [], [], _ => rfl
  | [], _ :: _, h => h.elim
  | _ :: _, [], h => h.elim
  | z :: l, v :: vs, h => by
    obtain ⟨h1, h2⟩ := h;have h1 : PRel S w (.lit (.int .i64 z)) v := h1;cases h1;rw [relL_vI l vs h2, List.map_cons]
theorem relL_of {ρ : Nat -> Hd} {S : Nat -> Prop} {w : World} : ∀ l : List Int, RelL ρ S w (l.map li) (l.map (Value.int .i64))
  | [] => trivial
  | z :: l => ⟨by show PRel S w (.lit (.int .i64 z)) (.int .i64 z); exact .lit _ rfl, relL_of l⟩
theorem rows_flat : ∀ l : List Int, (rows inRow l).flatten = l.map li
  | [] => rfl
  | z :: l => by
    have ih := rows_flat l;unfold rows at ih ⊢;rw [List.map_cons, List.flatten_cons, ih]; rfl
theorem put_world {w : World} {b : Nat} {cells : List Value} {t : TypeId} {fz : Nat × Nat} (hb : w.heap[b]? = some (.cells cells.toArray t fz)) (zs ys : List Int) (sp : List Value) (hc : cells = zs.map (Value.int .i64) ++ sp) (hl : ys.length = zs.length) (n : Nat) (os : Array Obj) :
    (grow (putRow (Value.int .i64) (Sort.ahead w n) b 0 ys.toArray) os).heap[b]? = some (.cells (ys.map (Value.int .i64) ++ sp).toArray t fz) /\
    (∀ k, k < w.heap.size -> k ≠ b -> (grow (putRow (Value.int .i64) (Sort.ahead w n) b 0 ys.toArray) os).heap[k]? = w.heap[k]?) /\
    w.heap.size <= (grow (putRow (Value.int .i64) (Sort.ahead w n) b 0 ys.toArray) os).heap.size := by
  have hlt : b < w.heap.size := by
    rcases Nat.lt_or_ge b w.heap.size with q | q
    · exact q
    · rw [Array.getElem?_eq_none q] at hb; cases hb
  have hm : ∀ k, (putRow (Value.int .i64) (Sort.ahead w n) b 0 ys.toArray).heap[k]? = if b = k then w.heap[k]?.map (onCells (putCells (Value.int .i64) 0 ys.toArray)) else w.heap[k]? := fun k => by
    show (w.heap.modify b _)[k]? = _;rw [Array.getElem?_modify]
  have hs : (putRow (Value.int .i64) (Sort.ahead w n) b 0 ys.toArray).heap.size = w.heap.size := by
    show (w.heap.modify b _).size = _;rw [Array.size_modify]
  have hg : ∀ k, k < w.heap.size -> (grow (putRow (Value.int .i64) (Sort.ahead w n) b 0 ys.toArray) os).heap[k]? = (putRow (Value.int .i64) (Sort.ahead w n) b 0 ys.toArray).heap[k]? := fun k hk => by
    show (_ ++ os)[k]? = _;rw [Array.getElem?_append_left (by rw [hs]; exact hk)]
  refine ⟨?_, fun k hk hne => ?_, ?_⟩
  · rw [hg b hlt, hm, if_pos rfl, hb];show some (Obj.cells (putCells (Value.int .i64) 0 ys.toArray cells.toArray) t fz) = _;congr 2
    subst hc;apply Array.ext_getElem?;intro k;simp only [putCells, Array.getElem?_mapIdx, List.getElem?_toArray, List.size_toArray, Nat.zero_add, Nat.zero_le, true_and, Nat.sub_zero];by_cases hk : k < ys.length
    · rw [List.getElem?_append_left (by rw [List.length_map]; omega), List.getElem?_append_left (by rw [List.length_map]; omega), List.getElem?_map, List.getElem?_map, List.getElem?_eq_getElem hk, List.getElem?_eq_getElem (by omega)];simp [hk]
    · rw [List.getElem?_append_right (by rw [List.length_map]; omega), List.getElem?_append_right (by rw [List.length_map]; omega), List.length_map, List.length_map, hl];cases sp[k - zs.length]? with
      | none => rfl
      | some y =>
        have hk2 : ¬ k < zs.length := by omega
        simp [hk2, hl]
  · rw [hg k hk, hm, if_neg fun e => hne e.symm]
  · show _ <= (_ ++ os).size;rw [Array.size_append, hs]; omega
theorem own_holds {w : World} {b : Nat} {t : TypeId} {fz : Nat × Nat} {zs : List Int} {sp : List Value} (hb : w.heap[b]? = some (.cells (zs.map (Value.int .i64) ++ sp).toArray t fz)) (hf : ∀ i, i < (zs.map (Value.int .i64) ++ sp).length -> ¬ (fz.1 <= i /\ i < fz.2)) : Holds (Value.int .i64) w b 0 zs.toArray := by
  intro j hj;have hj : j < zs.length := by simpa using hj
  have hl : j < (zs.map (Value.int .i64) ++ sp).length := by rw [List.length_append, List.length_map]; omega
  constructor
  · have h1 : (zs.map (Value.int .i64) ++ sp)[j]? = some (.int .i64 zs[j]) := by
      rw [List.getElem?_append_left (by rw [List.length_map]; omega), List.getElem?_map, List.getElem?_eq_getElem hj]; rfl
    simp only [World.cell?, hb, Nat.zero_add, List.getElem?_toArray, h1];simp [hj]
  · have := hf j hl;simp only [World.frozen?, hb, Nat.zero_add];simp;intro h1;omega
theorem own_block {U : Nat -> Prop} {ρ : Nat -> Hd} {S : Nat -> Prop} {w : World} {zs : List Int} (H0 : HSat0 U ρ S w (hget [(0, inLt zs)])) (hz : zs ≠ []) :
    U 0 /\ (ρ 0).len = zs.length /\ zs.length <= BL /\ zs.length <= (ρ 0).cap /\ (ρ 0).cap ≠ 0 /\ ∃ b sp fz, (ρ 0).a = some ⟨b, 0, none⟩ /\ b < w.heap.size /\ w.heap[b]? = some (.cells (zs.map (Value.int .i64) ++ sp).toArray 3 fz) /\ (zs.map (Value.int .i64) ++ sp).length = (ρ 0).cap * 1 /\ ∀ i, i < (zs.map (Value.int .i64) ++ sp).length -> ¬ (fz.1 <= i /\ i < fz.2) := by
  have g0 : hget [(0, inLt zs)] 0 = some (inLt zs) := by simp [hget]
  have h0 := H0.heap 0 _ g0;have u0 := (H0.heapU 0 _ g0).1;simp only [HRel] at h0;obtain ⟨h1, h2, h3, _, h5⟩ := h0;have hrl : (rows inRow zs).length = zs.length := by simp [rows]
  rw [hrl] at h1 h2 h3;have hpos : zs.length ≠ 0 := fun e => hz (List.eq_nil_of_length_eq_zero e)
  have hcap : (ρ 0).cap ≠ 0 := by omega
  refine ⟨u0, h1, h2, h3, hcap, ?_⟩;rcases h5 with h5 | ⟨b, vs, sp, fz, k1, k2, k3, k4, k5⟩
  · exact absurd h5 hcap
  · rw [rows_flat] at k3;obtain rfl := relL_vI _ _ k3;refine ⟨b, sp, fz, k1, ?_, k2, k4, k5⟩;rcases Nat.lt_or_ge b w.heap.size with q | q
    · exact q
    · rw [Array.getElem?_eq_none q] at k2; cases k2
def srtI (l : List Int) : List Int := l.mergeSort fun x y => decide (x <= y)
theorem sort_f (zs : List Int) (m : Nat) (hz : zs ≠ []) : DCallsG Tryz.prog 145 [] [.gl 0] (hget [(0, inLt zs)]) m (.tup []) (hget [(0, inLt (srtI zs))]) := by
  unfold DCallsG;refine ⟨trivial, fun U ρ S w vs H0 hmU hr huU => ?_⟩;obtain ⟨u0, l1, l2, l3, l4, b, sp, fz, k1, kb, k2, k4, k5⟩ := own_block H0 hz;match vs, hr with
  | [v], ⟨hv, _⟩ =>
  simp only [Rel] at hv;rw [k1, l1] at hv;subst hv;have hS := sortInts b 0 (ρ 0).cap zs w (own_holds k2 k5) kb (by unfold BL at l2; omega);refine CallsX.of ⟨_, Tryz.func145, by kernel_rfl, by decide⟩ (hS.mono ?_);rintro e w' ⟨rfl, n, os, rfl⟩;have hsl : (srtI zs).length = zs.length := (List.mergeSort_perm zs _).length_eq;obtain ⟨p1, p2, p3⟩ := put_world k2 zs (srtI zs) sp rfl hsl n os;have hlen : ((srtI zs).map (Value.int .i64) ++ sp).length = (zs.map (Value.int .i64) ++ sp).length := by simp [hsl]
  have G : HSat (Base.of (fun i => i ∈ ([] : List Nat)) U ρ S w (hget [(0, inLt zs)])) U ρ S w (hget [(0, inLt zs)]) := HSat0.to H0 (fun i v hi => .inr (H0.heapU i v hi).1);have g0 : hget [(0, inLt zs)] 0 = some (inLt zs) := by simp [hget]
  have hbb : hblk (ρ 0) (inLt zs) = some b := by simp [hblk, l4, k1]
  have G3 := G.install (ρ' := ρ) 0 (inLt (srtI zs)) b (fun _ _ => rfl) (fun _ _ => rfl) p2 p3 rfl rfl rfl (H0.sep 0 _ b g0 hbb) (.inl ⟨by simp, u0, _, g0, hbb⟩) (fun j u hne hj => by
      simp only [hget] at hj;split at hj
      · next e => exact absurd e hne
      · cases hj) (fun b' hb' => by simp [hblk, l4, k1] at hb'; exact hb'.symm) (by
      simp only [HRel];have hrl : (rows inRow (srtI zs)).length = zs.length := by simp [rows, hsl]
      refine ⟨by rw [hrl, l1], by rw [hrl]; exact l2, by rw [hrl]; exact l3, fun r hr => ?_, .inr ⟨b, (srtI zs).map (Value.int .i64), sp, fz, k1, p1, by rw [rows_flat]; exact relL_of _, ?_, ?_⟩⟩
      · obtain ⟨z, _, rfl⟩ := List.mem_map.1 hr; rfl
      · rw [hlen]; exact k4
      · rw [hlen]; exact k5) (by simp only [HV.uses]; exact uses_rows inRow _ _)
  refine ⟨_, ρ, S, rfl, ?_, ?_, ?_⟩
  · have e : upd (hget [(0, inLt zs)]) 0 (some (inLt (srtI zs))) = hget [(0, inLt (srtI zs))] := by
      funext t
      by_cases q : t = 0
      · subst q; simp [hget, upd]
      · simp [hget, upd, q]
    rw [<- e];exact G3.used fun i k => k.elim .inl fun e => .inl (e ▸ u0)
  · exact ⟨[], rfl, trivial⟩
  · trivial
theorem compact_f (zs : List Int) (m : Nat) (hz : zs ≠ []) : DCallsG Tryz.prog 146 [0] [.gl 0] (hget [(0, inLt zs)]) m (.gl m) (hget [(m, inLt (compN zs))]) := by
  unfold DCallsG;refine ⟨trivial, fun U ρ S w vs H0 hmU hr huU => ?_⟩;obtain ⟨u0, l1, l2, l3, l4, b, sp, fz, k1, kb, k2, k4, k5⟩ := own_block H0 hz;match vs, hr with
  | [v], ⟨hv, _⟩ =>
  simp only [Rel] at hv;rw [k1, l1] at hv;subst hv;have hS := Any.slices_Compact_int compact20 b 0 (ρ 0).cap zs w (own_holds k2 k5) (by unfold BL at l2; omega) l3;refine CallsX.of ⟨_, Tryz.func146, by kernel_rfl, by decide⟩ (hS.mono ?_);rintro e w' ⟨rfl, n, rfl⟩;rw [compact_eq];have hcl := compN_len zs;have hyl : (compN zs ++ List.replicate (zs.length - (compN zs).length) 0).length = zs.length := by rw [List.length_append, List.length_replicate]; omega
  obtain ⟨p1, p2, p3⟩ := put_world k2 zs _ sp rfl hyl n #[];rw [grow_empty] at p1 p2 p3;have hm0 : ¬ U m := hmU m ⟨Nat.le_refl _, by omega⟩;have hne : ∀ i, U i -> i ≠ m := fun i hi e => hm0 (e ▸ hi)
  have hlen : ((compN zs).map (Value.int .i64) ++ ((List.replicate (zs.length - (compN zs).length) 0).map (Value.int .i64) ++ sp)).length = (zs.map (Value.int .i64) ++ sp).length := by
    simp; omega
  have G : HSat (Base.of (fun i => i ∈ ([0] : List Nat)) U ρ S w (hget [(0, inLt zs)])) U ρ S w (hget [(0, inLt zs)]) := HSat0.to H0 (fun i v hi => .inr (H0.heapU i v hi).1);have g0 : hget [(0, inLt zs)] 0 = some (inLt zs) := by simp [hget]
  have hbb : hblk (ρ 0) (inLt zs) = some b := by simp [hblk, l4, k1]
  have G2 := G.drop (h' := fun _ => none) (fun i v h => by cases h);have G3 := G2.install (ρ' := upd ρ m { a := some ⟨b, 0, none⟩, len := (compN zs).length, cap := (ρ 0).cap }) m (inLt (compN zs)) b (fun i hi => upd_ne _ _ (hne i hi)) (fun i hi => upd_ne _ _ (hne i hi)) p2 p3 rfl rfl rfl (H0.sep 0 _ b g0 hbb) (.inr (.inl ⟨0, _, by simp, g0, hbb⟩)) (fun j u _ hj => by cases hj) (fun b' hb' => by
      rw [upd_same] at hb';simp [hblk, l4] at hb'; exact hb'.symm) (by
      simp only [HRel, upd_same];have hrl : (rows inRow (compN zs)).length = (compN zs).length := by simp [rows]
      refine ⟨by rw [hrl], by rw [hrl]; omega, by rw [hrl]; omega, fun r hr => ?_, .inr ⟨b, (compN zs).map (Value.int .i64), (List.replicate (zs.length - (compN zs).length) 0).map (Value.int .i64) ++ sp, fz, rfl, ?_, by rw [rows_flat]; exact relL_of _, ?_, ?_⟩⟩
      · obtain ⟨z, _, rfl⟩ := List.mem_map.1 hr; rfl
      · rw [p1, List.map_append, List.append_assoc]
      · rw [hlen]; exact k4
      · rw [hlen]; exact k5) (by simp only [HV.uses]; exact uses_rows inRow _ _)
  refine ⟨_, upd ρ m { a := some ⟨b, 0, none⟩, len := (compN zs).length, cap := (ρ 0).cap }, S, rfl, ?_, ?_, .inr ⟨Nat.le_refl _, by omega⟩⟩
  · have e : upd (fun _ => none) m (some (inLt (compN zs))) = hget [(m, inLt (compN zs))] := by
      funext t
      by_cases q : t = m
      · subst q; simp [hget, upd]
      · simp [hget, upd, q]
    rw [<- e];exact G3.used fun i k => k.elim .inl fun e => .inr (e ▸ ⟨Nat.le_refl _, by omega⟩)
  · simp only [Rel, upd_same]

end Go.Proofs.YtdhcpkeldpadlaaGreat
