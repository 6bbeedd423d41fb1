/-
  A part of the engine that reckons calls at the level of data.
  No condition.
-/

import Derived.Test.YtgpllheklfbfhaaGreatEngU
import Derived.IntWalk
namespace Go.Eng
set_option linter.all false
theorem xs1_ss (N nid : Nat) (c : Bool) (out : Out) (oks : Bool) (dst : Option Tmp) (g : Bool) (ids : List Nat) (ck : List Nat -> Bool) (A : LE) (H : LH) : xs1 N nid (some c) (some out) oks dst g ids ck A H = some (eput A dst (if g then .opt c (dx nid out.e out.d) else dx nid out.e out.d), effHX nid H (effC c out.e), dstOk N dst = true /\ (c = true -> oks = true /\ out.pre) /\ ids.all (fun i => (hget H i).isSome) = true, ck (effIds (effC c out.e))) := rfl
attribute [push_cast] xs1_ss
attribute [push_cast] pmap_nil gop_true gop_some gop_false Option.getD_some tsOf Int.ofNat_eq_natCast Int.cast_ofNat_Int dstrB dnilcmp isNilP List.isEmpty_nil List.isEmpty_cons List.isEmpty_map nilc rr apartL dlookup dmapset dmaplen mapOf dkey litsOf flatKey isNilL tkV tkOf' mfind mset hrenL List.length_append keysC allGe xrunF afterX effHX hdel dx effIds opIds mids hpat happ hnew hupd keysIn subH okid usesM dom rf hmp DV.mp DV.mpL HV.mp W8 hkr rnm eren DV.ren DV.renL HV.ren neA neH keysL fpB_nil effB above hfrzL DV.frz DV.frzL HV.frz HV.fv efrz pvL pvOf pvLL usesA usesH HV.uses DV.clean DV.cleanL List.flatMap_cons List.flatMap_nil List.not_mem_nil List.mem_cons drunF afterF ds1 effC Bool.cond_self Bool.cond_true Bool.cond_false drunG afterG ds2 isCallOp guardD callOf dop dopO dopX dcut dcutN isIntK pure1 eget eput hget hset ekeep hkeep ev cdv vcell DV.un DV.okB oksD Op.operands Call.operands dstOk wrapD dbinop dbin dunop dun dload dstore dfieldAddr dindexAddr dlen asI asIO dext dindex dfield dslice1 dslice dconv dminmax dnil isStr isNilD glId effHL effFL Eff.quiet li lb ls lv cellsD DV.cellB TK.isAgg TK.isArr enum endP dresL dcell resD normA normD normC normL frzAll DV.uses DV.usesL cv dpick datRows tkByte tkStr putL srcD fillD partsD placeD fillS deq deqF veq dappend List.take_succ_cons List.drop_succ_cons List.take_zero List.drop_zero List.take_nil List.drop_nil List.set_cons_zero List.set_cons_succ List.replicate_succ List.replicate_zero Option.some.injEq Option.toArray_some Option.toArray_none Int.toNat_zero Nat.sub_zero Int.le_refl Nat.le_refl List.length_cons List.length_nil List.all_cons List.all_nil List.getElem?_toArray List.getElem?_cons_zero List.getElem?_cons_succ List.map_cons List.map_nil Option.isSome_none Option.isSome_some Option.bind_some Option.map_some Option.bind_none Option.getD_some Option.getD_none List.headD_cons List.append_nil List.nil_append List.cons_append List.append_toArray List.length_map if_true if_false Bool.false_eq_true Bool.true_eq_false Bool.not_true Bool.not_false Bool.and_true Bool.true_and Bool.or_true Bool.or_false Bool.false_or Bool.true_or Bool.and_false Bool.false_and and_true true_and or_true true_or or_false false_or forall_const true_implies false_implies implies_true decide_true decide_false decide_eq_true_eq Nat.lt_irrefl List.size_toArray beq_self_eq_true BEq.rfl ne_eq not_true_eq_false not_false_eq_true imp_self Bool.cond_true Bool.cond_false Nat.zero_add Nat.zero_ne_one Nat.one_ne_zero Nat.add_zero
theorem idx_nat {α : Type} [Inhabited α] (f : α -> List PV) (l : List α) (i : Nat) (h : i < l.length) : idx (l.map f) (i : Int) = f (l.getD i default) := by
  simp [idx, List.getD_eq_getElem?_getD, List.getElem?_eq_getElem h]
theorem idx_mapT {α : Type} [Inhabited α] (f : α -> List PV) (l : List α) (i : Int) (h : i.toNat < l.length) : idx (l.map f) i = f (l.getD i.toNat default) := by
  simp [idx, List.getD_eq_getElem?_getD, List.getElem?_eq_getElem h]
theorem toNat_p1 (i : Nat) : ((i : Int) - 1).toNat = i - 1 := by omega
theorem toNat_p2 (i : Nat) : ((i : Int) - 2).toNat = i - 2 := by omega
theorem toNat_s1 (i : Nat) : ((i : Int) + 1).toNat = i + 1 := by omega
attribute [push_cast] toNat_p1 toNat_p2 toNat_s1
theorem i64w {n : Int} (h : -9223372036854775808 <= n /\ n <= 9223372036854775807) : IntKind.i64.wrap n = n := IntWalk.i64_in n h
attribute [push_cast] List.getD_cons_zero List.getD_cons_succ BL Int.toNat_natCast
abbrev bys (l : List UInt8) : DV := .p (.dat 1 (l.map byRow))
theorem byteRows_bys (l : List UInt8) : byteRows (l.map byRow) = True := by
  refine propext ⟨fun _ => trivial, fun _ r hr => ?_⟩;obtain ⟨b, _, rfl⟩ := List.mem_map.1 hr;exact trivial
theorem byteStr_bys (l : List UInt8) : byteStr (l.map byRow) = ⟨l.toArray⟩ := by
  simp only [byteStr, bytesOf, List.map_map];congr 2
  rw [List.map_congr_left (g := id)]
  · simp
  · intro b _; simp [Function.comp, byRow, rowInt]
theorem take_map {α β : Type} (f : α -> β) (l : List α) (n : Nat) : (l.map f).take n = (l.take n).map f := List.map_take.symm
theorem drop_map {α β : Type} (f : α -> β) (l : List α) (n : Nat) : (l.map f).drop n = (l.drop n).map f := List.map_drop.symm
theorem cond_tt (t x : Bool) : (bif t then true else x) = (t || x) := by cases t <;> rfl
theorem cond_ff (t x : Bool) : (bif t then x else false) = (t && x) := by cases t <;> rfl
theorem cond_st (t : Bool) : (bif t then t else true) = true := by cases t <;> rfl
theorem b_tt (t : Bool) : (t == true) = t := by cases t <;> rfl
theorem b_ff (t : Bool) : (t == false) = !t := by cases t <;> rfl
theorem or_nt (t : Bool) : (t || !t) = true := by cases t <;> rfl
theorem cond_at (a t : Bool) : (bif t then a && t else true) = (a || !t) := by cases t <;> cases a <;> rfl
theorem cond_af (a t : Bool) : (bif t then true else a && !t) = (a || t) := by cases t <;> cases a <;> rfl
theorem absorb1 (a b : Bool) : (a && (a || b)) = a := by cases a <;> cases b <;> rfl
theorem absorb2 (a b : Bool) : (a && (b || a)) = a := by cases a <;> cases b <;> rfl
attribute [push_cast] cond_at cond_af absorb1 absorb2 byteRows_bys byteStr_bys cond_tt cond_ff cond_st or_nt b_tt b_ff Bool.and_self Bool.or_self take_map drop_map
def rows {α : Type} (f : α -> List PV) (l : List α) : List (List DV) := l.map fun x => (f x).map DV.p
section
variable {α : Type} (f : α -> List PV)
theorem rows_len (l : List α) : (rows f l).length = l.length := by simp [rows]
theorem rows_app (l m : List α) : rows f l ++ rows f m = rows f (l ++ m) := by simp [rows]
theorem rows_nil : rows f [] = [] := rfl
theorem rows_of (l : List α) : List.map (List.map DV.p) (List.map f l) = rows f l := by simp [rows, Function.comp]
theorem rows_mem {l : List α} {d : DV} (h : d ∈ (rows f l).flatten) : ∃ x, d = .p x := by
  rw [List.mem_flatten] at h;obtain ⟨r, hr, hd⟩ := h;obtain ⟨x, _, rfl⟩ := List.mem_map.1 hr;obtain ⟨y, _, rfl⟩ := List.mem_map.1 hd;exact ⟨y, rfl⟩
theorem rows_uses (U : Nat -> Prop) (l : List α) : DV.usesL U (rows f l).flatten = True := by
  refine propext ⟨fun _ => trivial, fun _ => usesL_iff.2 fun d hd => ?_⟩;obtain ⟨x, rfl⟩ := rows_mem f hd;exact trivial
theorem rows_cells (l : List α) : CellsB (rows f l).flatten = True := by
  refine propext ⟨fun _ => trivial, fun _ d hd => ?_⟩;obtain ⟨x, rfl⟩ := rows_mem f hd;rfl
theorem pvL_p : ∀ l : List PV, pvL (l.map DV.p) = some l
  | [] => rfl
  | x :: l => by simp [pvL, pvOf, pvL_p l]
theorem rows_pv : ∀ l : List α, pvLL (rows f l) = some (l.map f)
  | [] => rfl
  | x :: l => by
    have := rows_pv l;simp only [rows, List.map_cons, pvLL, pvL_p] at *
    rw [this]
theorem mpL_p (r : Nat -> Nat) : ∀ l : List PV, DV.mpL r (l.map DV.p) = l.map DV.p
  | [] => rfl
  | x :: l => by simp [DV.mpL, DV.mp, mpL_p r l]
theorem renL_p (o n : Nat) : ∀ l : List PV, DV.renL o n (l.map DV.p) = l.map DV.p
  | [] => rfl
  | x :: l => by simp [DV.renL, DV.ren, renL_p o n l]
theorem frzL_p (o : Nat) (x : FV) : ∀ l : List PV, DV.frzL o x (l.map DV.p) = l.map DV.p
  | [] => rfl
  | y :: l => by simp [DV.frzL, DV.frz, frzL_p o x l]
theorem rows_mp (r : Nat -> Nat) (l : List α) : (rows f l).map (DV.mpL r) = rows f l := by simp [rows, Function.comp, mpL_p]
theorem rows_ren (o n : Nat) (l : List α) : (rows f l).map (DV.renL o n) = rows f l := by simp [rows, Function.comp, renL_p]
theorem rows_frz (o : Nat) (x : FV) (l : List α) : (rows f l).map (DV.frzL o x) = rows f l := by simp [rows, Function.comp, frzL_p]
theorem rows_get [Inhabited α] (l : List α) (i : Nat) (h : i < l.length) : (rows f l).getD i [] = (f (l.getD i default)).map DV.p := by
  simp [rows, List.getD_eq_getElem?_getD, List.getElem?_eq_getElem h]
theorem rows_set (l : List α) (i : Nat) (x : α) : (rows f l).set i ((f x).map DV.p) = rows f (l.set i x) := by
  simp [rows, List.map_set]
end
theorem CellsB_nil : CellsB [] = True := propext ⟨fun _ => trivial, fun _ _ h => by cases h⟩
theorem CellsB_cons (d : DV) (l : List DV) : CellsB (d :: l) = (d.cellB = true /\ CellsB l) := by
  refine propext ⟨fun h => ⟨h d (by simp), fun x hx => h x (by simp [hx])⟩, fun h x hx => ?_⟩;rcases List.mem_cons.1 hx with e | e
  · rw [e]; exact h.1
  · exact h.2 x e
theorem usesL_app (U : Nat -> Prop) (a b : List DV) : DV.usesL U (a ++ b) = (DV.usesL U a /\ DV.usesL U b) := by
  refine propext ⟨fun h => ⟨usesL_iff.2 fun d hd => usesL_iff.1 h d (List.mem_append_left _ hd), usesL_iff.2 fun d hd => usesL_iff.1 h d (List.mem_append_right _ hd)⟩, fun h => usesL_append h.1 h.2⟩
attribute [push_cast] usesL_app List.flatten_append
theorem rows_str (l : List UInt8) : List.map (fun c : UInt8 => [DV.p (PV.lit (Value.int IntKind.u8 (c.toNat : Int)))]) l = rows byRow l := rfl
abbrev byL (l : List UInt8) : HV := .lst 5 1 (rows byRow l)
attribute [push_cast] rows_len rows_app rows_nil rows_of rows_uses rows_cells rows_pv rows_mp rows_ren rows_frz rows_str CellsB_nil CellsB_cons List.flatten_cons List.flatten_nil
theorem keysOk_nil (K : TK) : keysOk K [] = True := propext ⟨fun _ => trivial, fun _ _ h => by cases h⟩
theorem keysOk_cons (K : TK) (e : Value × DV) (es : List (Value × DV)) : keysOk K (e :: es) = (tkV K e.1 = true /\ keysOk K es) := by
  refine propext ⟨fun h => ⟨h e (by simp), fun x hx => h x (by simp [hx])⟩, fun h x hx => ?_⟩;rcases List.mem_cons.1 hx with q | q
  · rw [q]; exact h.1
  · exact h.2 x q
attribute [push_cast] keysOk_nil keysOk_cons
theorem rows_getS {α : Type} [Inhabited α] (f : α -> List PV) (l : List α) (i : Nat) (v : α) (h : i < l.length) : (rows f (l.set i v)).getD i [] = (f v).map DV.p := by
  rw [rows_get f (l.set i v) i (by simpa using h)];simp [List.getD_eq_getElem?_getD, h]
theorem getD_set_self {β : Type} {l : List β} {i : Nat} {v d : β} (h : i < l.length) : (l.set i v).getD i d = v := by simp [List.getD_eq_getElem?_getD, h]
attribute [push_cast] List.length_set
end Go.Eng
