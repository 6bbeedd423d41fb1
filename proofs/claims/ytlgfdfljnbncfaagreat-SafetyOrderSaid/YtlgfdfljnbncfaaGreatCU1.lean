/-
  Contracts of functions of the program, over the engine.
  No condition.
-/
import Derived.Test.YtlgfdfljnbncfaaGreatCN0N1NBNmT1T2T2eT3
import Derived.Test.YtlgfdfljnbncfaaGreatCU0
import Derived.Test.YtlgfdfljnbncfaaGreatCT5T6T6bT7T7bT7c
import Derived.Test.YtlgfdfljnbncfaaGreatCL9L10L11L12L16L20RL25L27
import Derived.Test.YtlgfdfljnbncfaaGreatCW4W5W6R1R2R3R4
namespace Go.Proofs.YtlgfdfljnbncfaaGreat
open Go.Eng
set_option linter.all false
attribute [local irreducible] DCallsG SWp Fct CallQ XCallQ LCallQ XLCallQ drun xrun
set_option maxHeartbeats 64000000
set_option maxRecDepth 20000

structure Infl where
  nod : ByteArray
  vols : List Int
instance : Inhabited Infl := ⟨⟨default, default⟩⟩
theorem infl_ext {x y : Infl} (h : x.nod = y.nod /\ x.vols = y.vols) : x = y := by
  cases x; cases y; simp_all
instance : DecidableEq Infl := fun x y => decidable_of_iff (x.nod = y.nod /\ x.vols = y.vols) ⟨infl_ext, fun h => by subst h; simp⟩
structure Cnd where
  nod : ByteArray
  below : Bool
  level : Int
instance : Inhabited Cnd := ⟨⟨default, default, default⟩⟩
theorem cnd_ext {x y : Cnd} (h : x.nod = y.nod /\ x.below = y.below /\ x.level = y.level) : x = y := by
  cases x; cases y; simp_all
instance : DecidableEq Cnd := fun x y => decidable_of_iff (x.nod = y.nod /\ x.below = y.below /\ x.level = y.level) ⟨cnd_ext, fun h => by subst h; simp⟩
def cndP (x : Cnd) : List PV := [.lit (.string x.nod), .lit (.bool x.below), .lit (.int .i64 x.level)]
def cndC (x : Cnd) : List DV := [.p (.lit (.string x.nod)), .p (.lit (.bool x.below)), .p (.lit (.int .i64 x.level))]
abbrev cndD (x : Cnd) : DV := .agg (cndC x)
abbrev cndL (l : List Cnd) : DV := .p (.dat 3 (l.map cndP))
theorem cndP_map (x : Cnd) : (cndP x).map DV.p = cndC x := rfl
theorem cndP_len (x : Cnd) : (cndP x).length = 3 := rfl
theorem cndC_len (x : Cnd) : (cndC x).length = 3 := rfl
theorem cndP_take (x : Cnd) : (cndP x).take 3 = cndP x := rfl
theorem cndC_take (x : Cnd) : (cndC x).take 3 = cndC x := rfl
theorem cndC_all (x : Cnd) : (cndC x).all DV.cellB = true := rfl
theorem cndP_d0 (x : Cnd) : (cndP x).getD 0 default = .lit (.string x.nod) := rfl
theorem cndC_d0 (x : Cnd) : (cndC x)[0]? = some (.p (.lit (.string x.nod))) := rfl
theorem cndP_s0 (x : Cnd) : (cndP x).take 1 = [.lit (.string x.nod)] := rfl
theorem cndC_s0 (x : Cnd) : (cndC x).take 1 = [.p (.lit (.string x.nod))] := rfl
theorem cndP_d1 (x : Cnd) : (cndP x).getD 1 default = .lit (.bool x.below) := rfl
theorem cndC_d1 (x : Cnd) : (cndC x)[1]? = some (.p (.lit (.bool x.below))) := rfl
theorem cndP_s1 (x : Cnd) : ((cndP x).drop 1).take 1 = [.lit (.bool x.below)] := rfl
theorem cndC_s1 (x : Cnd) : ((cndC x).drop 1).take 1 = [.p (.lit (.bool x.below))] := rfl
theorem cndP_d2 (x : Cnd) : (cndP x).getD 2 default = .lit (.int .i64 x.level) := rfl
theorem cndC_d2 (x : Cnd) : (cndC x)[2]? = some (.p (.lit (.int .i64 x.level))) := rfl
theorem cndP_s2 (x : Cnd) : ((cndP x).drop 2).take 1 = [.lit (.int .i64 x.level)] := rfl
theorem cndC_s2 (x : Cnd) : ((cndC x).drop 2).take 1 = [.p (.lit (.int .i64 x.level))] := rfl
theorem cndC_ren (o n : Nat) (x : Cnd) : DV.renL o n (cndC x) = cndC x := rfl
theorem cndC_frz (o : Nat) (v : FV) (x : Cnd) : DV.frzL o v (cndC x) = cndC x := rfl
theorem cndC_mp (r : Nat -> Nat) (x : Cnd) : DV.mpL r (cndC x) = cndC x := rfl
theorem cndC_uses (U : Nat -> Prop) (x : Cnd) : DV.usesL U (cndC x) = True := by simp [cndC, DV.usesL, DV.uses]
attribute [push_cast] cndP_map cndP_len cndC_len cndP_take cndC_take cndC_all cndP_d0 cndC_d0 cndP_s0 cndC_s0 cndP_d1 cndC_d1 cndP_s1 cndC_s1 cndP_d2 cndC_d2 cndP_s2 cndC_s2 cndC_ren cndC_frz cndC_mp cndC_uses
def cndOk (x : Cnd) : Prop := x.nod.size <= 281474976710656 /\ i64ok x.level
structure Rule where
  name : ByteArray
  whn : List Cnd
  lnk : ByteArray
  setg : Int
instance : Inhabited Rule := ⟨⟨default, default, default, default⟩⟩
theorem rule_ext {x y : Rule} (h : x.name = y.name /\ x.whn = y.whn /\ x.lnk = y.lnk /\ x.setg = y.setg) : x = y := by
  cases x; cases y; simp_all
instance : DecidableEq Rule := fun x y => decidable_of_iff (x.name = y.name /\ x.whn = y.whn /\ x.lnk = y.lnk /\ x.setg = y.setg) ⟨rule_ext, fun h => by subst h; simp⟩
def ruleP (x : Rule) : List PV := [.lit (.string x.name), .dat 3 (x.whn.map cndP), .lit (.string x.lnk), .lit (.int .i64 x.setg)]
def ruleC (x : Rule) : List DV := [.p (.lit (.string x.name)), .p (.dat 3 (x.whn.map cndP)), .p (.lit (.string x.lnk)), .p (.lit (.int .i64 x.setg))]
abbrev ruleD (x : Rule) : DV := .agg (ruleC x)
abbrev ruleL (l : List Rule) : DV := .p (.dat 4 (l.map ruleP))
theorem ruleP_map (x : Rule) : (ruleP x).map DV.p = ruleC x := rfl
theorem ruleP_len (x : Rule) : (ruleP x).length = 4 := rfl
theorem ruleC_len (x : Rule) : (ruleC x).length = 4 := rfl
theorem ruleP_take (x : Rule) : (ruleP x).take 4 = ruleP x := rfl
theorem ruleC_take (x : Rule) : (ruleC x).take 4 = ruleC x := rfl
theorem ruleC_all (x : Rule) : (ruleC x).all DV.cellB = true := rfl
theorem ruleP_d0 (x : Rule) : (ruleP x).getD 0 default = .lit (.string x.name) := rfl
theorem ruleC_d0 (x : Rule) : (ruleC x)[0]? = some (.p (.lit (.string x.name))) := rfl
theorem ruleP_s0 (x : Rule) : (ruleP x).take 1 = [.lit (.string x.name)] := rfl
theorem ruleC_s0 (x : Rule) : (ruleC x).take 1 = [.p (.lit (.string x.name))] := rfl
theorem ruleP_d1 (x : Rule) : (ruleP x).getD 1 default = .dat 3 (x.whn.map cndP) := rfl
theorem ruleC_d1 (x : Rule) : (ruleC x)[1]? = some (.p (.dat 3 (x.whn.map cndP))) := rfl
theorem ruleP_s1 (x : Rule) : ((ruleP x).drop 1).take 1 = [.dat 3 (x.whn.map cndP)] := rfl
theorem ruleC_s1 (x : Rule) : ((ruleC x).drop 1).take 1 = [.p (.dat 3 (x.whn.map cndP))] := rfl
theorem ruleP_d2 (x : Rule) : (ruleP x).getD 2 default = .lit (.string x.lnk) := rfl
theorem ruleC_d2 (x : Rule) : (ruleC x)[2]? = some (.p (.lit (.string x.lnk))) := rfl
theorem ruleP_s2 (x : Rule) : ((ruleP x).drop 2).take 1 = [.lit (.string x.lnk)] := rfl
theorem ruleC_s2 (x : Rule) : ((ruleC x).drop 2).take 1 = [.p (.lit (.string x.lnk))] := rfl
theorem ruleP_d3 (x : Rule) : (ruleP x).getD 3 default = .lit (.int .i64 x.setg) := rfl
theorem ruleC_d3 (x : Rule) : (ruleC x)[3]? = some (.p (.lit (.int .i64 x.setg))) := rfl
theorem ruleP_s3 (x : Rule) : ((ruleP x).drop 3).take 1 = [.lit (.int .i64 x.setg)] := rfl
theorem ruleC_s3 (x : Rule) : ((ruleC x).drop 3).take 1 = [.p (.lit (.int .i64 x.setg))] := rfl
theorem ruleC_ren (o n : Nat) (x : Rule) : DV.renL o n (ruleC x) = ruleC x := rfl
theorem ruleC_frz (o : Nat) (v : FV) (x : Rule) : DV.frzL o v (ruleC x) = ruleC x := rfl
theorem ruleC_mp (r : Nat -> Nat) (x : Rule) : DV.mpL r (ruleC x) = ruleC x := rfl
theorem ruleC_uses (U : Nat -> Prop) (x : Rule) : DV.usesL U (ruleC x) = True := by simp [ruleC, DV.usesL, DV.uses]
attribute [push_cast] ruleP_map ruleP_len ruleC_len ruleP_take ruleC_take ruleC_all ruleP_d0 ruleC_d0 ruleP_s0 ruleC_s0 ruleP_d1 ruleC_d1 ruleP_s1 ruleC_s1 ruleP_d2 ruleC_d2 ruleP_s2 ruleC_s2 ruleP_d3 ruleC_d3 ruleP_s3 ruleC_s3 ruleC_ren ruleC_frz ruleC_mp ruleC_uses
def ruleOk (x : Rule) : Prop := x.name.size <= 281474976710656 /\ (x.whn.length <= 281474976710656 /\ ∀ y, y ∈ x.whn -> cndOk y) /\ x.lnk.size <= 281474976710656 /\ i64ok x.setg
def hasB (l : List ByteArray) (s : ByteArray) : Bool := l.any fun y => decide (y = s)
def dupB (l : List ByteArray) : Bool := (List.range l.length).any fun i => hasB (l.take i) (l.getD i default)
theorem hasB_mem {l : List ByteArray} {s : ByteArray} : hasB l s = true ↔ s ∈ l := by
  unfold hasB;rw [List.any_eq_true];constructor
  · rintro ⟨y, hy, e⟩;rw [<- of_decide_eq_true e]; exact hy
  · exact fun h => ⟨s, h, decide_eq_true rfl⟩
def namesL (n : Net) : List ByteArray := n.nodes.map Node.name
theorem namesL_len (n : Net) : (namesL n).length = n.nodes.length := List.length_map ..
theorem namesL_at (n : Net) {i : Nat} (h : i < n.nodes.length) : (namesL n).getD i default = (n.nodes.getD i default).name := by
  unfold namesL;rw [List.getD_eq_getElem?_getD, List.getElem?_map, List.getElem?_eq_getElem h, List.getD_eq_getElem?_getD, List.getElem?_eq_getElem h]; rfl
theorem namesL_take (n : Net) {i : Nat} (h : i < n.nodes.length) : (namesL n).take (i + 1) = (namesL n).take i ++ [(n.nodes.getD i default).name] := by
  have h2 : i < (namesL n).length := by rw [namesL_len]; exact h
  rw [List.take_succ_eq_append_getElem h2, <- namesL_at n h, List.getD_eq_getElem?_getD, List.getElem?_eq_getElem h2]; rfl
theorem pvL_p : ∀ l : List PV, pvL (l.map DV.p) = some l
  | [] => rfl
  | x :: l => by rw [List.map_cons, pvL, pvL_p l]; rfl
theorem vkey_s (s t : ByteArray) : vkey (.string s) (.string t) = decide (s = t) := rfl
def setS (l : List ByteArray) : List (Value × DV) := l.map fun s => (.string s, lb true)
def mapS (l : List ByteArray) : PV := .map (l.map fun s => .string s) (l.map fun _ => .lit (.bool true))
def insS (l : List ByteArray) (s : ByteArray) : List ByteArray := if hasB l s = true then l else l ++ [s]
theorem setS_cons (x : ByteArray) (l : List ByteArray) : setS (x :: l) = (.string x, lb true) :: setS l := rfl
theorem hasB_cons (x : ByteArray) (l : List ByteArray) (s : ByteArray) : hasB (x :: l) s = (decide (x = s) || hasB l s) := rfl
theorem setS_find (s : ByteArray) : ∀ l : List ByteArray, mfind (setS l) (.string s) = if hasB l s = true then some (lb true) else none
  | [] => rfl
  | x :: l => by
    rw [setS_cons, mfind, vkey_s, setS_find s l, hasB_cons];by_cases h : s = x
    · subst h;rw [if_pos (decide_eq_true rfl), decide_eq_true rfl, Bool.true_or, if_pos rfl]
    · rw [if_neg (by simpa using h), decide_eq_false (fun e => h e.symm), Bool.false_or]
theorem setS_val (l : List ByteArray) (s : ByteArray) : (mfind (setS l) (.string s)).getD (.p (.lit (.bool false))) = lb (hasB l s) := by
  rw [setS_find];cases hasB l s <;> rfl
theorem setS_has (l : List ByteArray) (s : ByteArray) : (mfind (setS l) (.string s)).isSome = hasB l s := by
  rw [setS_find];cases hasB l s <;> rfl
theorem setS_set (s : ByteArray) : ∀ l : List ByteArray, mset (setS l) (.string s) (.p (.lit (.bool true))) = setS (insS l s)
  | [] => rfl
  | x :: l => by
    have ih := setS_set s l;unfold insS at ih ⊢;rw [setS_cons, mset, vkey_s, hasB_cons];by_cases h : s = x
    · subst h;rw [if_pos (decide_eq_true rfl), decide_eq_true rfl, Bool.true_or, if_pos rfl]; rfl
    · rw [if_neg (by simpa using h), decide_eq_false (fun e => h e.symm), Bool.false_or, ih];cases hasB l s <;> rfl
theorem setS_mem {l : List ByteArray} {e : Value × DV} (h : e ∈ setS l) : ∃ s, e = (.string s, lb true) := by
  obtain ⟨x, _, rfl⟩ := List.mem_map.1 h;exact ⟨_, rfl⟩
theorem setS_uses (U : Nat -> Prop) (l : List ByteArray) : DV.usesL U ((setS l).map (·.2)) = True :=
  propext ⟨fun _ => trivial, fun _ => usesL_iff.2 fun d hd => by
    obtain ⟨e, he, rfl⟩ := List.mem_map.1 hd;obtain ⟨s, rfl⟩ := setS_mem he;trivial⟩
theorem setS_mp (r : Nat -> Nat) (l : List ByteArray) : (setS l).map (fun e => (e.1, e.2.mp r)) = setS l := by
  unfold setS; rw [List.map_map]; exact List.map_congr_left fun z _ => rfl
theorem setS_ren (o n : Nat) (l : List ByteArray) : (setS l).map (fun e => (e.1, e.2.ren o n)) = setS l := by
  unfold setS; rw [List.map_map]; exact List.map_congr_left fun z _ => rfl
theorem setS_frz (o : Nat) (x : FV) (l : List ByteArray) : (setS l).map (fun e => (e.1, e.2.frz o x)) = setS l := by
  unfold setS; rw [List.map_map]; exact List.map_congr_left fun z _ => rfl
theorem setS_len (l : List ByteArray) : (setS l).length = l.length := List.length_map _
theorem setS_ok (l : List ByteArray) : keysOk .str (setS l) = True :=
  propext ⟨fun _ => trivial, fun _ e he => by
    obtain ⟨s, rfl⟩ := setS_mem he;rfl⟩
theorem setS_fv (l : List ByteArray) : HV.fv (.map (setS l)) = some (.mp (l.map fun s => .string s) (l.map fun _ => .lit (.bool true))) := by
  have e1 : (setS l).map (·.2) = (l.map fun _ => PV.lit (.bool true)).map DV.p := by unfold setS; rw [List.map_map, List.map_map]; rfl
  have e2 : (setS l).map (·.1) = l.map fun s => (.string s : Value) := by unfold setS; rw [List.map_map]; rfl
  simp only [HV.fv];rw [e1, e2, pvL_p]; rfl
theorem mapS_eq (l : List ByteArray) : PV.map (l.map fun s => .string s) (l.map fun _ => .lit (.bool true)) = mapS l := rfl
theorem mapS_pm (l : List ByteArray) : pmap (mapS l) = some (setS l) := by
  unfold mapS pmap setS;simp only [List.map_map];congr 1
  induction l with
  | nil => rfl
  | cons e l ih => simp only [List.map_cons, List.zip_cons_cons, ih]; rfl
attribute [push_cast] setS_val setS_has setS_set setS_uses setS_mp setS_ren setS_frz setS_len setS_ok mapS_pm
attribute [irreducible] setS mapS
def strE (l : List (ByteArray × Int)) : List (Value × DV) := l.map fun e => (.string e.1, li e.2)
def mapT (l : List (ByteArray × Int)) : PV := .map (l.map fun e => .string e.1) (l.map fun e => .lit (.int .i64 e.2))
def lookS : List (ByteArray × Int) -> ByteArray -> Option Int
  | [], _ => none
  | e :: l, s => if e.1 = s then some e.2 else lookS l s
def valS (l : List (ByteArray × Int)) (s : ByteArray) : Int := (lookS l s).getD 0
def knoS (l : List (ByteArray × Int)) (s : ByteArray) : Bool := (lookS l s).isSome
theorem strE_cons (e : ByteArray × Int) (l : List (ByteArray × Int)) : strE (e :: l) = (.string e.1, li e.2) :: strE l := rfl
theorem strE_find (s : ByteArray) : ∀ l : List (ByteArray × Int), mfind (strE l) (.string s) = (lookS l s).map li
  | [] => rfl
  | e :: l => by
    rw [strE_cons, mfind, vkey_s, strE_find s l, lookS];by_cases h : s = e.1
    · rw [if_pos (decide_eq_true h), if_pos h.symm]; rfl
    · rw [if_neg (by simpa using h), if_neg (fun c => h c.symm)]
theorem strE_val (l : List (ByteArray × Int)) (s : ByteArray) : (mfind (strE l) (.string s)).getD (.p (.lit (.int .i64 0))) = li (valS l s) := by
  rw [strE_find]; unfold valS;cases lookS l s <;> rfl
theorem strE_has (l : List (ByteArray × Int)) (s : ByteArray) : (mfind (strE l) (.string s)).isSome = knoS l s := by
  rw [strE_find]; unfold knoS;cases lookS l s <;> rfl
theorem strE_mem {l : List (ByteArray × Int)} {e : Value × DV} (h : e ∈ strE l) : ∃ s v, e = (.string s, li v) := by
  obtain ⟨x, _, rfl⟩ := List.mem_map.1 h;exact ⟨_, _, rfl⟩
theorem strE_uses (U : Nat -> Prop) (l : List (ByteArray × Int)) : DV.usesL U ((strE l).map (·.2)) = True :=
  propext ⟨fun _ => trivial, fun _ => usesL_iff.2 fun d hd => by
    obtain ⟨e, he, rfl⟩ := List.mem_map.1 hd;obtain ⟨s, v, rfl⟩ := strE_mem he;trivial⟩
theorem strE_mp (r : Nat -> Nat) (l : List (ByteArray × Int)) : (strE l).map (fun e => (e.1, e.2.mp r)) = strE l := by
  unfold strE; rw [List.map_map]; exact List.map_congr_left fun z _ => rfl
theorem strE_ren (o n : Nat) (l : List (ByteArray × Int)) : (strE l).map (fun e => (e.1, e.2.ren o n)) = strE l := by
  unfold strE; rw [List.map_map]; exact List.map_congr_left fun z _ => rfl
theorem strE_frz (o : Nat) (x : FV) (l : List (ByteArray × Int)) : (strE l).map (fun e => (e.1, e.2.frz o x)) = strE l := by
  unfold strE; rw [List.map_map]; exact List.map_congr_left fun z _ => rfl
theorem strE_len (l : List (ByteArray × Int)) : (strE l).length = l.length := List.length_map _
theorem strE_ok (l : List (ByteArray × Int)) : keysOk .str (strE l) = True :=
  propext ⟨fun _ => trivial, fun _ e he => by
    obtain ⟨s, v, rfl⟩ := strE_mem he;rfl⟩
theorem mapT_pm (l : List (ByteArray × Int)) : pmap (mapT l) = some (strE l) := by
  unfold mapT pmap strE;simp only [List.map_map];congr 1
  induction l with
  | nil => rfl
  | cons e l ih => simp only [List.map_cons, List.zip_cons_cons, ih]; rfl
attribute [push_cast] strE_val strE_has strE_uses strE_mp strE_ren strE_frz strE_len strE_ok mapT_pm
attribute [irreducible] strE mapT
class ValAt (l : List (ByteArray × Int)) (s : ByteArray) (v : outParam Int) : Prop where
  h : valS l s = v
theorem valS_at {l : List (ByteArray × Int)} {s : ByteArray} {v : Int} [h : ValAt l s v] : valS l s = v := h.h
theorem hasB_f (l : List ByteArray) (s : ByteArray) [h : Nonempty (hasB l s = false)] : hasB l s = false := h.elim id
theorem hasB_t (l : List ByteArray) (s : ByteArray) [h : Nonempty (hasB l s = true)] : hasB l s = true := h.elim id
attribute [push_cast] valS_at hasB_f hasB_t
theorem not_all {α : Type} (p : α -> Bool) (l : List α) : (!l.any fun x => !p x) = l.all p := by
  induction l with
  | nil => rfl
  | cons x l ih => rw [List.any_cons, List.all_cons, <- ih]; cases p x <;> simp
theorem any_no {α : Type} [Inhabited α] {p : α -> Bool} {l : List α} (h : ∀ j, j < l.length -> p (l.getD j default) = false) : l.any p = false := by
  rw [List.any_eq_false];intro v hv;obtain ⟨j, hj, rfl⟩ := List.mem_iff_getElem.1 hv;have := h j hj;rw [List.getD_eq_getElem?_getD, List.getElem?_eq_getElem hj] at this;rw [show p l[j] = false from this]; decide
theorem hasB_suc {l : List ByteArray} {s : ByteArray} {i : Nat} (h : i < l.length) : hasB (l.take (i + 1)) s = (hasB (l.take i) s || decide (l.getD i default = s)) := by
  unfold hasB;rw [List.take_succ_eq_append_getElem h, List.any_append, List.getD_eq_getElem?_getD, List.getElem?_eq_getElem h];simp
attribute [local irreducible] PT
theorem pt_cnd {n : Nat} {xs : List PV} (h : PT Tryz.prog (n + 2) 94 xs) : ∃ x : Cnd, xs = cndP x /\ cndOk x := by
  replace h := PT_struct (P := Tryz.prog) (t := 94) Tryz.underlying94 h
  obtain ⟨_, _, rfl, h0, _, _, rfl, h1, _, _, rfl, h2, rfl⟩ := h;obtain ⟨a0, rfl, k0⟩ := pt_str h0;obtain ⟨a1, rfl⟩ := pt_bool h1;obtain ⟨a2, rfl, k2⟩ := pt_int h2;exact ⟨⟨a0, a1, a2⟩, rfl, ⟨k0, k2⟩⟩
theorem cells_cnds : Tryz.prog.cellsOf 94 = 3 := by kernel_rfl
theorem bytes_cnds : 0 < Tryz.prog.bytesOf 94 := by rw [show Tryz.prog.bytesOf 94 = 32 from by kernel_rfl]; decide
theorem pt_cnds {n : Nat} {xs : List PV} (h : PT Tryz.prog (n + 3) 59 xs) : ∃ l : List Cnd, xs = [.dat 3 (l.map cndP)] /\ l.length <= 281474976710656 /\ ∀ x, x ∈ l -> cndOk x := by
  obtain ⟨l, rfl, hl, hr⟩ := PT_slice (P := Tryz.prog) (t := 59) Tryz.underlying59 h;obtain ⟨zs, rfl, hz⟩ := exMap cndP cndOk l fun r hr2 => by
    obtain ⟨z, rfl, hz⟩ := pt_cnd (hr r hr2);exact ⟨z, rfl, hz⟩
  rw [cells_cnds];have := len_le bytes_cnds hl;rw [List.length_map] at this;exact ⟨zs, rfl, this, hz⟩
theorem pt_rule {n : Nat} {xs : List PV} (h : PT Tryz.prog (n + 4) 61 xs) : ∃ x : Rule, xs = ruleP x /\ ruleOk x := by
  replace h := PT_struct (P := Tryz.prog) (t := 61) Tryz.underlying61 h
  obtain ⟨_, _, rfl, h0, _, _, rfl, h1, _, _, rfl, h2, _, _, rfl, h3, rfl⟩ := h;obtain ⟨a0, rfl, k0⟩ := pt_str h0;obtain ⟨a1, rfl, k1⟩ := pt_cnds h1;obtain ⟨a2, rfl, k2⟩ := pt_str h2;obtain ⟨a3, rfl, k3⟩ := pt_int h3;exact ⟨⟨a0, a1, a2, a3⟩, rfl, ⟨k0, k1, k2, k3⟩⟩
theorem cells_rules : Tryz.prog.cellsOf 61 = 4 := by kernel_rfl
theorem bytes_rules : 0 < Tryz.prog.bytesOf 61 := by rw [show Tryz.prog.bytesOf 61 = 64 from by kernel_rfl]; decide
theorem pt_rules {n : Nat} {xs : List PV} (h : PT Tryz.prog (n + 5) 27 xs) : ∃ l : List Rule, xs = [.dat 4 (l.map ruleP)] /\ l.length <= 281474976710656 /\ ∀ x, x ∈ l -> ruleOk x := by
  obtain ⟨l, rfl, hl, hr⟩ := PT_slice (P := Tryz.prog) (t := 27) Tryz.underlying27 h;obtain ⟨zs, rfl, hz⟩ := exMap ruleP ruleOk l fun r hr2 => by
    obtain ⟨z, rfl, hz⟩ := pt_rule (hr r hr2);exact ⟨z, rfl, hz⟩
  rw [cells_rules];have := len_le bytes_rules hl;rw [List.length_map] at this;exact ⟨zs, rfl, this, hz⟩
theorem dv_rules (x : List Rule) : dvT Tryz.prog 27 [.dat 4 (x.map ruleP)] = ruleL x := by unfold dvT; rw [Tryz.underlying27]; rfl
theorem dv_str (x : ByteArray) : dvT Tryz.prog 9 [.lit (.string x)] = ls x := by unfold dvT; rw [Tryz.underlying9]; rfl
def cndB (c : Cnd) : Bool := nameB c.nod && btwB c.level (-4194304) 4194304
def ruleB (r : Rule) : Bool := nameB r.name && nameB r.lnk && decide (r.whn.length <= 20) && btwB r.setg 0 1000 && r.whn.all cndB
def ruleNs (l : List Rule) : List ByteArray := l.map Rule.name
def rulesB (l : List Rule) : Bool := decide (l.length <= 60) && l.all ruleB && !dupB (ruleNs l)
theorem ruleNs_len (l : List Rule) : (ruleNs l).length = l.length := List.length_map ..
theorem ruleNs_at (l : List Rule) {i : Nat} (h : i < l.length) : (ruleNs l).getD i default = (l.getD i default).name := by
  unfold ruleNs;rw [List.getD_eq_getElem?_getD, List.getElem?_map, List.getElem?_eq_getElem h, List.getD_eq_getElem?_getD, List.getElem?_eq_getElem h]; rfl
theorem rules_hit {l : List Rule} {i : Nat} (hi : i < l.length) (h : ruleB (l.getD i default) = false ∨ hasB ((ruleNs l).take i) (l.getD i default).name = true) : (l.all ruleB && !dupB (ruleNs l)) = false := by
  rw [Bool.and_eq_false_iff];rcases h with h | h
  · exact .inl (List.all_eq_false.2 ⟨_, getD_mem hi, by rw [h]; decide⟩)
  · refine .inr ?_;have : dupB (ruleNs l) = true := List.any_eq_true.2 ⟨i, List.mem_range.2 (by rw [ruleNs_len]; exact hi), by rw [ruleNs_at l hi]; exact h⟩;rw [this]; rfl
theorem rules_all {l : List Rule} (h : ∀ j, j < l.length -> ruleB (l.getD j default) = true /\ hasB ((ruleNs l).take j) (l.getD j default).name = false) : (l.all ruleB && !dupB (ruleNs l)) = true := by
  rw [Bool.and_eq_true];constructor
  · rw [List.all_eq_true];intro r hr;obtain ⟨j, hj, rfl⟩ := List.mem_iff_getElem.1 hr;have := (h j hj).1;rw [List.getD_eq_getElem?_getD, List.getElem?_eq_getElem hj] at this;exact this
  · have : dupB (ruleNs l) = false := by
      unfold dupB;rw [List.any_eq_false];intro j hj;have hj2 : j < l.length := by have := List.mem_range.1 hj; rw [ruleNs_len] at this; exact this
      rw [ruleNs_at l hj2, (h j hj2).2]; decide
    rw [this]; rfl
def cndH (v : Int) (c : Cnd) : Bool := decide (v < c.level) == c.below
def knownR (n : Net) (r : Rule) : Bool := decide (0 <= linkIx n.links r.lnk) && r.whn.all fun c => decide (0 <= nodeIx n.nodes c.nod)
section
variable {n : Net} {lv : List Int} {l : List Rule} {before : List Int}
end
abbrev rulOk (l : List Rule) : Prop := l.length <= 281474976710656 /\ ∀ r, r ∈ l -> ruleOk r
theorem any_snoc {α : Type} (p : α -> Bool) (l : List α) (x : α) : (l ++ [x]).any p = (l.any p || p x) := by
  rw [List.any_append, List.any_cons, List.any_nil, Bool.or_false]
theorem take_snocD {α : Type} [Inhabited α] {l : List α} {i : Nat} (h : i < l.length) : l.take (i + 1) = l.take i ++ [l.getD i default] := by
  rw [List.take_succ_eq_append_getElem h, List.getD_eq_getElem?_getD, List.getElem?_eq_getElem h]; rfl
def linkNs (n : Net) : List ByteArray := n.links.map Link.name
theorem linkNs_len (n : Net) : (linkNs n).length = n.links.length := List.length_map ..
theorem linkNs_at (n : Net) {i : Nat} (h : i < n.links.length) : (linkNs n).getD i default = (n.links.getD i default).name := by
  unfold linkNs;rw [List.getD_eq_getElem?_getD, List.getElem?_map, List.getElem?_eq_getElem h, List.getD_eq_getElem?_getD, List.getElem?_eq_getElem h]; rfl
theorem nix_lt (l : List Node) (s : ByteArray) : nodeIx l s < l.length := (idxI_lt _ l).2
theorem lix_lt (l : List Link) (s : ByteArray) : linkIx l s < l.length := (idxI_lt _ l).2
theorem rulesB_60 {l : List Rule} (h : rulesB l = true) : l.length <= 60 := by
  unfold rulesB at h;simp only [Bool.and_eq_true, decide_eq_true_eq] at h;exact h.1.1
theorem find_names (n : Net) (s : ByteArray) : idxI (fun v => decide (v = s)) (namesL n) = nodeIx n.nodes s := by
  unfold namesL nodeIx idxI;rw [List.findIdx?_map];rfl
def setZ (ks : List Int) : List (Value × DV) := ks.map fun z => (.int .i64 z, lb true)
def hasZ (ks : List Int) (w : Int) : Bool := ks.any fun z => decide (z = w)
theorem vkey_z (x y : Int) : vkey (.int .i64 x) (.int .i64 y) = decide (x = y) := by
  rw [Bool.eq_iff_iff];simp [vkey]
theorem setZ_uses (U : Nat -> Prop) (ks : List Int) : DV.usesL U ((setZ ks).map (·.2)) = True :=
  propext ⟨fun _ => trivial, fun _ => usesL_iff.2 fun d hd => by
    obtain ⟨e, he, rfl⟩ := List.mem_map.1 hd;obtain ⟨z, _, rfl⟩ := List.mem_map.1 he;trivial⟩
theorem setZ_mp (r : Nat -> Nat) (ks : List Int) : (setZ ks).map (fun e => (e.1, e.2.mp r)) = setZ ks := by
  unfold setZ; rw [List.map_map]; exact List.map_congr_left fun z _ => rfl
theorem setZ_ren (o n : Nat) (ks : List Int) : (setZ ks).map (fun e => (e.1, e.2.ren o n)) = setZ ks := by
  unfold setZ; rw [List.map_map]; exact List.map_congr_left fun z _ => rfl
theorem setZ_frz (o : Nat) (x : FV) (ks : List Int) : (setZ ks).map (fun e => (e.1, e.2.frz o x)) = setZ ks := by
  unfold setZ; rw [List.map_map]; exact List.map_congr_left fun z _ => rfl
theorem setZ_len (ks : List Int) : (setZ ks).length = ks.length := List.length_map _
theorem setZ_ok (ks : List Int) : keysOk (.int .i64) (setZ ks) = True :=
  propext ⟨fun _ => trivial, fun _ e he => by
    obtain ⟨z, _, rfl⟩ := List.mem_map.1 he;rfl⟩
theorem setZ_find (w : Int) : ∀ ks : List Int, mfind (setZ ks) (.int .i64 w) = if hasZ ks w = true then some (lb true) else none
  | [] => rfl
  | z :: ks => by
    have e0 : setZ (z :: ks) = (.int .i64 z, lb true) :: setZ ks := rfl;have e1 : hasZ (z :: ks) w = (decide (z = w) || hasZ ks w) := rfl;rw [e0, mfind, vkey_z, setZ_find w ks, e1];by_cases h : w = z
    · subst h;rw [if_pos (decide_eq_true rfl), decide_eq_true rfl, Bool.true_or, if_pos rfl]
    · rw [if_neg (by simpa using h), decide_eq_false (fun e => h e.symm), Bool.false_or]
theorem setZ_val (ks : List Int) (w : Int) : (mfind (setZ ks) (.int .i64 w)).getD (.p (.lit (.bool false))) = lb (hasZ ks w) := by
  rw [setZ_find];cases hasZ ks w <;> rfl
attribute [push_cast] setZ_val setZ_uses setZ_mp setZ_ren setZ_frz setZ_len setZ_ok
attribute [irreducible] setZ
class HasZ (l : List Int) (s : Int) (b : outParam Bool) : Prop where
  h : hasZ l s = b
theorem hasZ_at {l : List Int} {s : Int} {b : Bool} [h : HasZ l s b] : hasZ l s = b := h.h
class KnoAt (l : List (ByteArray × Int)) (s : ByteArray) (b : outParam Bool) : Prop where
  h : knoS l s = b
theorem knoS_at {l : List (ByteArray × Int)} {s : ByteArray} {b : Bool} [h : KnoAt l s b] : knoS l s = b := h.h
attribute [push_cast] hasZ_at knoS_at
theorem idxCndC_f (g : FuncId) (t : TypeId) (cs : List PV) (p : Cnd -> Bool) (l : List (Cnd)) (hl : l.length <= 281474976710656) (hg : ∀ x, x ∈ l -> ∀ m, DCalls Tryz.prog g [cndD x, .ptr 0 0] (hget [(0, .blk t (cs.map .p))]) m (lb (p x)) (hget [(0, .blk t (cs.map .p))])) :
    DCalls Tryz.prog 107 [cndL l, .clo g [.ptr 0 0]] (hget [(0, .blk t (cs.map .p))]) 1 (li (idxI p l)) (hget [(0, .blk t (cs.map .p))]) := by
  refine contract (n := 19) (rs := [.tmp 4]) (ts := [3]) Tryz.func107 rfl (by decide) 1 1 [] [] [] (li (idxI p l)) [(0, .blk t (cs.map .p))] (by (exact SD)) (by (exact SD)) ?_;(repeat' first|refine stW [0,1,4,5,7,8,9,16] ?_|refine fctI fun hf=>?_|refine twI (fun hc=>?_) fun hc=>?_);refine loop_swp [0, 1, 7, 8] [0] 1 (fun q A H => ∃ i : Nat, i <= l.length /\ q = l.length - i /\ (l.take i).any p = false /\ A = [(0, cndL l), (1, .clo g [.ptr 0 0]), (7, li l.length), (8, li i)] /\ H = [(0, .blk t (cs.map .p))]) (by omega) ?_ ?_ ?_
  · rintro q A H ⟨i, h1, h2, h3, rfl, rfl⟩;exact SDD
  · refine ⟨_, 0, by omega, rfl, rfl, ?_, ?_⟩
    · exact DVR
    · exact DVR
  · rintro q A H ⟨i, h1, h2, h3, rfl, rfl⟩;(repeat' first|refine stW [0,1,4,5,7,8,9,16] ?_|(show CallQ ..;first|refine cQ (fun hcc=>(hg _ (getD_mem SC) _)) ?_|(refine lP ?_;refine lQ (fun hcc m=>(hg _ (getD_mem SC) _)) ?_))|refine fctI fun hf=>?_|refine twI (fun hc=>?_) fun hc=>?_)
    · (refine DVQ ?_);rw [idxI_hit h3 (by omega) (by assumption)]
    · (refine lN [0] ?_);exact ⟨_, by omega, i + 1, by omega, rfl, any_step h3 (by omega) (by assumption), rfl, rfl⟩
    · (refine DVQ ?_);rw [List.take_of_length_le (by omega)] at h3;rw [idxI_none h3]
theorem conCndC_f (g : FuncId) (t : TypeId) (cs : List PV) (p : Cnd -> Bool) (l : List Cnd) (hl : l.length <= 281474976710656) (hg : ∀ x, x ∈ l -> ∀ m, DCalls Tryz.prog g [cndD x, .ptr 0 0] (hget [(0, .blk t (cs.map .p))]) m (lb (p x)) (hget [(0, .blk t (cs.map .p))])) :
    DCalls Tryz.prog 48 [cndL l, .clo g [.ptr 0 0]] (hget [(0, .blk t (cs.map .p))]) 1 (lb (l.any p)) (hget [(0, .blk t (cs.map .p))]) := by
  have ci := idxCndC_f g t cs p l hl hg;refine contract (n := 9) (rs := [.tmp 4]) (ts := [4]) Tryz.func48 rfl (by decide) 1 1 [] [] [] (lb (l.any p)) [(0, .blk t (cs.map .p))] (by (exact SD)) (by (exact SD)) ?_;(repeat' first|refine stW [0,1,4] ?_|refine fctI fun hf=>?_|refine twI (fun hc=>?_) fun hc=>?_);(refine cQT [0] (fun hcc => ci) ?_);(repeat' first|refine stW [0,1,4] ?_|refine fctI fun hf=>?_|refine twI (fun hc=>?_) fun hc=>?_);(refine DVQ ?_);rw [idxI_any]
theorem uwithin_f (a b c : Int) (m : Nat) : Pu 93 [li a, li b, li c] m (lb (btwB a b c)) := by
  refine pcN 15 [.tmp 6] [4] Tryz.func93 rfl [] ?_;(repeat' first|refine stW [0,1,2,6] ?_|refine fctI fun hf=>?_|refine twI (fun hc=>?_) fun hc=>?_);(refine DVQ ?_);refine lbC ?_;unfold btwB; grind
theorem uvalid_f (r : Rule) (m : Nat) (hr : ruleOk r) : Pu 113 [ruleD r] m (lb (ruleB r)) := by
  obtain ⟨h1, ⟨h2, h3⟩, h4, _⟩ := hr;have c1 := fun m => name_f r.name m h1
  have c2 := fun m => name_f r.lnk m h4
  have c3 := fun m => uwithin_f r.setg 0 1000 m
  have e : ruleB r = (nameB r.name && nameB r.lnk && decide (r.whn.length <= 20) && btwB r.setg 0 1000 && r.whn.all cndB) := rfl;rw [e];have e20 : decide (r.whn.length <= 20) = !decide ((20 : Int) < (r.whn.length : Int)) := by
    rw [Bool.eq_iff_iff];simp only [decide_eq_true_eq, Bool.not_eq_true', decide_eq_false_iff_not]; omega
  rw [e20];generalize nameB r.name = a at *
  generalize nameB r.lnk = b at *
  generalize btwB r.setg 0 1000 = c at *
  by_cases h20 : (20 : Int) < (r.whn.length : Int)
  · rw [decide_eq_true h20, Bool.not_true, Bool.and_false, Bool.false_and, Bool.false_and];(have:=NeI h20);cases a
    · refine pcN 45 [.tmp 2] [4] Tryz.func113 rfl [] ?_;(repeat' first|refine stW [0,1,2,4,26,28,29,30,31,43] ?_|refine fctI fun hf=>?_|refine twI (fun hc=>?_) fun hc=>?_);exact DVR
    cases b
    · refine pcN 45 [.tmp 2] [4] Tryz.func113 rfl [] ?_;(repeat' first|refine stW [0,1,2,4,26,28,29,30,31,43] ?_|refine fctI fun hf=>?_|refine twI (fun hc=>?_) fun hc=>?_);exact DVR
    · refine pcN 45 [.tmp 2] [4] Tryz.func113 rfl [] ?_;(repeat' first|refine stW [0,1,2,4,26,28,29,30,31,43] ?_|refine fctI fun hf=>?_|refine twI (fun hc=>?_) fun hc=>?_);exact DVR
  rw [decide_eq_false h20, Bool.not_false, Bool.and_true];(have:=NeI h20);cases a
  · refine pcN 45 [.tmp 2] [4] Tryz.func113 rfl [] ?_;(repeat' first|refine stW [0,1,2,4,26,28,29,30,31,43] ?_|refine fctI fun hf=>?_|refine twI (fun hc=>?_) fun hc=>?_);exact DVR
  cases b
  · refine pcN 45 [.tmp 2] [4] Tryz.func113 rfl [] ?_;(repeat' first|refine stW [0,1,2,4,26,28,29,30,31,43] ?_|refine fctI fun hf=>?_|refine twI (fun hc=>?_) fun hc=>?_);exact DVR
  cases c
  · refine pcN 45 [.tmp 2] [4] Tryz.func113 rfl [] ?_;(repeat' first|refine stW [0,1,2,4,26,28,29,30,31,43] ?_|refine fctI fun hf=>?_|refine twI (fun hc=>?_) fun hc=>?_);exact DVR
  rw [show (true && true && true) = true from rfl, Bool.true_and];refine pcN 45 [.tmp 2] [4] Tryz.func113 rfl [] ?_;(repeat' first|refine stW [0,1,2,4,26,28,29,30,31,43] ?_|refine fctI fun hf=>?_|refine twI (fun hc=>?_) fun hc=>?_);refine loop_swp [28, 29, 30] [] 224 (fun q A H => ∃ i : Nat, i <= r.whn.length /\ q = r.whn.length - i /\ (∀ j, j < i -> (!cndB (r.whn.getD j default)) = false) /\ A = [(28, cndL r.whn), (29, li r.whn.length), (30, li i)] /\ H = []) (by omega) ?_ ?_ ?_
  · rintro q A H ⟨i, g1, g2, g3, rfl, rfl⟩;exact SDD
  · refine ⟨_, 0, by omega, rfl, by omega, ?_, ?_⟩
    · exact DVR
    · exact DVR
  rintro q A H ⟨i, g1, g2, g3, rfl, rfl⟩;by_cases hi : i < r.whn.length
  · have hi3 : (i : Int) < (r.whn.length : Int) := by omega
    have c4 := fun m => name_f (r.whn.getD i default).nod m (h3 _ (getD_mem hi)).1
    have c5 := fun m => uwithin_f (r.whn.getD i default).level (-4194304) 4194304 m
    have ec : cndB (r.whn.getD i default) = (nameB (r.whn.getD i default).nod && btwB (r.whn.getD i default).level (-4194304) 4194304) := rfl;have hbad : (!cndB (r.whn.getD i default)) = true -> r.whn.all cndB = false := fun h => List.all_eq_false.2 ⟨_, getD_mem hi, by rw [Bool.not_eq_true'] at h; rw [h]; decide⟩
    have hnx : (!cndB (r.whn.getD i default)) = false -> ∀ j, j < i + 1 -> (!cndB (r.whn.getD j default)) = false := fun h j hj => by
      by_cases e : j = i
      · subst e; exact h
      · exact g3 j (by omega)
    rw [ec] at hbad hnx;clear g3 ec e e20;generalize nameB (r.whn.getD i default).nod = a at *
    generalize btwB (r.whn.getD i default).level (-4194304) 4194304 = b at *
    (have:=NeI hi);(have:=NeI hi3);cases a
    · rw [hbad rfl];(repeat' first|refine stW [0,1,2,4,26,28,29,30,31,43] ?_|refine fctI fun hf=>?_|refine twI (fun hc=>?_) fun hc=>?_);exact DVR
    cases b
    · rw [hbad rfl];(repeat' first|refine stW [0,1,2,4,26,28,29,30,31,43] ?_|refine fctI fun hf=>?_|refine twI (fun hc=>?_) fun hc=>?_);exact DVR
    · replace hnx := hnx rfl
      (repeat' first|refine stW [0,1,2,4,26,28,29,30,31,43] ?_|refine fctI fun hf=>?_|refine twI (fun hc=>?_) fun hc=>?_);(refine lN [] ?_);exact ⟨_, by omega, i + 1, by omega, rfl, hnx, rfl, rfl⟩
  obtain rfl : i = r.whn.length := by omega
  have hi3 : ¬ ((r.whn.length : Int) < (r.whn.length : Int)) := by omega
  have ht : r.whn.all cndB = true := by
    rw [<- not_all, any_no g3]; rfl
  rw [ht];(have:=NeI hi3);clear g3;(repeat' first|refine stW [0,1,2,4,26,28,29,30,31,43] ?_|refine fctI fun hf=>?_|refine twI (fun hc=>?_) fun hc=>?_);exact DVR
theorem ruleNs_take (l : List Rule) {i : Nat} (h : i < l.length) : (ruleNs l).take (i + 1) = (ruleNs l).take i ++ [(l.getD i default).name] := by
  have h2 : i < (ruleNs l).length := by rw [ruleNs_len]; exact h
  rw [List.take_succ_eq_append_getElem h2, <- ruleNs_at l h, List.getD_eq_getElem?_getD, List.getElem?_eq_getElem h2]; rfl
theorem rulesB_eq {l : List Rule} (h : l.length <= 60) : rulesB l = (l.all ruleB && !dupB (ruleNs l)) := by
  unfold rulesB;rw [decide_eq_true h, Bool.true_and]
theorem rulesV_f (l : List Rule) (m : Nat) (hl : rulOk l) : Pu 53 [ruleL l] m (lb (rulesB l)) := by
  obtain ⟨hl1, hl2⟩ := hl;by_cases h60 : (60 : Int) < (l.length : Int)
  · rw [show rulesB l = false by unfold rulesB; rw [decide_eq_false (by omega), Bool.false_and, Bool.false_and]];(have:=NeI h60);refine pcN 29 [.tmp 2] [4] Tryz.func53 rfl [] ?_;(repeat' first|refine stW [0,2,3,5,8,10,11,12,13,24] ?_|refine fctI fun hf=>?_|refine twI (fun hc=>?_) fun hc=>?_);exact DVR
  rw [rulesB_eq (by omega)];(have:=NeI h60);refine pcN 29 [.tmp 2] [4] Tryz.func53 rfl [] ?_;(repeat' first|refine stW [0,2,3,5,8,10,11,12,13,24] ?_|refine fctI fun hf=>?_|refine twI (fun hc=>?_) fun hc=>?_);refine loop_swp [3, 10, 11, 12] [32] 72 (fun q A H => ∃ i : Nat, i <= l.length /\ q = l.length - i /\ (∀ j, j < i -> ruleB (l.getD j default) = true /\ hasB ((ruleNs l).take j) (l.getD j default).name = false) /\ A = [(3, .mref 32), (10, ruleL l), (11, li l.length), (12, li i)] /\ H = [(32, .map (setS ((ruleNs l).take i)))]) (by omega) ?_ ?_ ?_
  · rintro q A H ⟨i, g1, g2, g3, rfl, rfl⟩;exact SDD
  · refine ⟨_, 0, by omega, rfl, by omega, ?_, ?_⟩
    · exact DVR
    · rw [List.take_zero, show setS [] = [] from by unfold setS; rfl];exact DVR
  rintro q A H ⟨i, g1, g2, g3, rfl, rfl⟩;by_cases hi : i < l.length
  · have hi3 : (i : Int) < (l.length : Int) := by omega
    have c1 := fun m => uvalid_f (l.getD i default) m (hl2 _ (getD_mem hi))
    have hh := @rules_hit l i hi;have htk := ruleNs_take l hi;have hins : hasB ((ruleNs l).take i) (l.getD i default).name = false -> insS ((ruleNs l).take i) (l.getD i default).name = (ruleNs l).take (i + 1) := fun h => by
      unfold insS;rw [h, if_neg (by decide), htk]
    have hnx : ruleB (l.getD i default) = true -> hasB ((ruleNs l).take i) (l.getD i default).name = false -> ∀ j, j < i + 1 -> ruleB (l.getD j default) = true /\ hasB ((ruleNs l).take j) (l.getD j default).name = false := fun h1 h2 j hj => by
      by_cases e : j = i
      · subst e; exact ⟨h1, h2⟩
      · exact g3 j (by omega)
    clear g3 htk;(have:=NeI hi);(have:=NeI hi3);cases hv : ruleB (l.getD i default) <;> simp only [hv] at c1
    · rw [hh (.inl hv)];clear hnx hins hh;generalize (ruleNs l).take i = X at *
      (repeat' first|refine stW [0,2,3,5,8,10,11,12,13,24] ?_|refine fctI fun hf=>?_|refine twI (fun hc=>?_) fun hc=>?_);exact DVR
    cases hb : hasB ((ruleNs l).take i) (l.getD i default).name
    · replace hins := hins hb
      replace hnx := hnx hv hb
      (have:=NeI hb);clear hh;generalize (ruleNs l).take i = X at *
      (repeat' first|refine stW [0,2,3,5,8,10,11,12,13,24] ?_|refine fctI fun hf=>?_|refine twI (fun hc=>?_) fun hc=>?_);rw [hins];(refine lN [32] ?_);exact ⟨_, by omega, i + 1, by omega, rfl, hnx, rfl, rfl⟩
    · rw [hh (.inr hb)];(have:=NeI hb);clear hnx hins hh;generalize (ruleNs l).take i = X at *
      (repeat' first|refine stW [0,2,3,5,8,10,11,12,13,24] ?_|refine fctI fun hf=>?_|refine twI (fun hc=>?_) fun hc=>?_);exact DVR
  obtain rfl : i = l.length := by omega
  have hi3 : ¬ ((l.length : Int) < (l.length : Int)) := by omega
  rw [rules_all g3];(have:=NeI hi3);clear g3;generalize (ruleNs l).take l.length = X at *
  (repeat' first|refine stW [0,2,3,5,8,10,11,12,13,24] ?_|refine fctI fun hf=>?_|refine twI (fun hc=>?_) fun hc=>?_);exact DVR
theorem kn_hit {n : Net} {l : List Rule} {i : Nat} (hi : i < l.length) (h : knownR n (l.getD i default) = false) : l.all (knownR n) = false := List.all_eq_false.2 ⟨_, getD_mem hi, by rw [h]; decide⟩
theorem kn_all {n : Net} {l : List Rule} (h : ∀ j, j < l.length -> knownR n (l.getD j default) = true) : l.all (knownR n) = true := by
  rw [List.all_eq_true];intro r hr;obtain ⟨j, hj, rfl⟩ := List.mem_iff_getElem.1 hr;have := h j hj;rw [List.getD_eq_getElem?_getD, List.getElem?_eq_getElem hj] at this;exact this
def nodKn (n : Net) (c : Cnd) : Bool := decide (0 <= nodeIx n.nodes c.nod)
theorem knownR_eq (n : Net) (r : Rule) : knownR n r = (decide (0 <= linkIx n.links r.lnk) && r.whn.all (nodKn n)) := rfl
theorem all_takeS {α : Type} [Inhabited α] (p : α -> Bool) {l : List α} {i : Nat} (h : i < l.length) : (l.take (i + 1)).all p = ((l.take i).all p && p (l.getD i default)) := by
  rw [take_snocD h, List.all_append, List.all_cons, List.all_nil, Bool.and_true]
theorem ruleOk_at {l : List Rule} (h : rulOk l) {i : Nat} (hi : i < l.length) : (l.getD i default).whn.length <= 281474976710656 := (h.2 _ (getD_mem hi)).2.1.1
theorem rvr_f (r : Rule) (m : Nat) (hr : ruleOk r) : Pu 120 [ruleD r] m (lb (ruleB r)) := by
  obtain ⟨h1, ⟨h2, h3⟩, h4, _⟩ := hr;have c1 := fun m => rName_f r.name m h1
  have c2 := fun m => rName_f r.lnk m h4
  have e : ruleB r = (nameB r.name && nameB r.lnk && decide (r.whn.length <= 20) && btwB r.setg 0 1000 && r.whn.all cndB) := rfl;rw [e];clear e;generalize nameB r.name = a at *
  generalize nameB r.lnk = b at *
  refine pcN 57 [.tmp 2] [4] Tryz.func120 rfl [] ?_;(repeat' first|refine stW [0,1,2,3,4,30,35,56] ?_|refine fctI fun hf=>?_|refine twI (fun hc=>?_) fun hc=>?_)
  · (refine DVQ ?_);refine lbC ?_;unfold btwB; grind
  have hX : (a && b && decide (r.whn.length <= 20) && btwB r.setg 0 1000) = true := by unfold btwB; grind
  rw [hX, Bool.true_and];clear c1 c2 hX hc;refine loop_swp [1, 3] [0] 232 (fun q A H => ∃ i : Nat, i <= r.whn.length /\ q = r.whn.length - i /\ (∀ j, j < i -> (!cndB (r.whn.getD j default)) = false) /\ A = [(1, .ptr 0 0), (3, li i)] /\ H = [(0, .blk 61 (ruleC r))]) (by omega) ?_ ?_ ?_
  · rintro q A H ⟨i, g1, g2, g3, rfl, rfl⟩;exact SDD
  · refine ⟨_, 0, by omega, rfl, by omega, ?_, ?_⟩
    · exact DVR
    · exact DVR
  rintro q A H ⟨i, g1, g2, g3, rfl, rfl⟩;by_cases hi : i < r.whn.length
  · have hi3 : (i : Int) < (r.whn.length : Int) := by omega
    have c4 := fun m => rName_f (r.whn.getD i default).nod m (h3 _ (getD_mem hi)).1
    have ec : cndB (r.whn.getD i default) = (nameB (r.whn.getD i default).nod && btwB (r.whn.getD i default).level (-4194304) 4194304) := rfl;have hbad : (!cndB (r.whn.getD i default)) = true -> r.whn.all cndB = false := fun h => List.all_eq_false.2 ⟨_, getD_mem hi, by rw [Bool.not_eq_true'] at h; rw [h]; decide⟩
    have hnx : (!cndB (r.whn.getD i default)) = false -> ∀ j, j < i + 1 -> (!cndB (r.whn.getD j default)) = false := fun h j hj => by
      by_cases e : j = i
      · subst e; exact h
      · exact g3 j (by omega)
    rw [ec] at hbad hnx;clear g3 ec;generalize nameB (r.whn.getD i default).nod = a at *
    (have:=NeI hi);(have:=NeI hi3);(repeat' first|refine stW [0,1,2,3,4,30,35,56] ?_|refine fctI fun hf=>?_|refine twI (fun hc=>?_) fun hc=>?_)
    · rw [hbad (by unfold btwB; clear hbad hnx c4; grind)];exact DVR
    · (refine lN [0] ?_);exact ⟨_, by omega, i + 1, by omega, rfl, hnx (by unfold btwB; clear hbad hnx c4; grind), rfl, rfl⟩
  obtain rfl : i = r.whn.length := by omega
  have hi3 : ¬ ((r.whn.length : Int) < (r.whn.length : Int)) := by omega
  have ht : r.whn.all cndB = true := by
    rw [<- not_all, any_no g3]; rfl
  rw [ht];(have:=NeI hi3);clear g3;(repeat' first|refine stW [0,1,2,3,4,30,35,56] ?_|refine fctI fun hf=>?_|refine twI (fun hc=>?_) fun hc=>?_);exact DVR
theorem rRulesV_f (l : List Rule) (m : Nat) (hl : rulOk l) : Pu 61 [ruleL l] m (lb (rulesB l)) := by
  obtain ⟨hl1, hl2⟩ := hl;by_cases h60 : (60 : Int) < (l.length : Int)
  · rw [show rulesB l = false by unfold rulesB; rw [decide_eq_false (by omega), Bool.false_and, Bool.false_and]];(have:=NeI h60);refine pcN 36 [.tmp 2] [4] Tryz.func61 rfl [] ?_;(repeat' first|refine stW [0,2,3,4,7,11,19,22,35] ?_|refine fctI fun hf=>?_|refine twI (fun hc=>?_) fun hc=>?_);exact DVR
  rw [rulesB_eq (by omega)];(have:=NeI h60);refine pcN 36 [.tmp 2] [4] Tryz.func61 rfl [] ?_;(repeat' first|refine stW [0,2,3,4,7,11,19,22,35] ?_|refine fctI fun hf=>?_|refine twI (fun hc=>?_) fun hc=>?_);refine loop_swp [0, 3] [] 40 (fun q A H => ∃ i : Nat, i <= l.length /\ q = l.length - i /\ (∀ j, j < i -> ruleB (l.getD j default) = true /\ hasB ((ruleNs l).take j) (l.getD j default).name = false) /\ A = [(0, ruleL l), (3, li i)] /\ H = []) (by omega) ?_ ?_ ?_
  · rintro q A H ⟨i, g1, g2, g3, rfl, rfl⟩;exact SDD
  · refine ⟨_, 0, by omega, rfl, by omega, ?_, ?_⟩
    · exact DVR
    · exact DVR
  rintro q A H ⟨i, g1, g2, g3, rfl, rfl⟩;by_cases hi : i < l.length
  · have hi3 : (i : Int) < (l.length : Int) := by omega
    have c1 := fun m => rvr_f (l.getD i default) m (hl2 _ (getD_mem hi))
    have hh := @rules_hit l i hi;have hnx : ruleB (l.getD i default) = true -> hasB ((ruleNs l).take i) (l.getD i default).name = false -> ∀ j, j < i + 1 -> ruleB (l.getD j default) = true /\ hasB ((ruleNs l).take j) (l.getD j default).name = false := fun h1 h2 j hj => by
      by_cases e : j = i
      · subst e; exact ⟨h1, h2⟩
      · exact g3 j (by omega)
    clear g3;(have:=NeI hi);(have:=NeI hi3);cases hv : ruleB (l.getD i default) <;> simp only [hv] at c1
    · rw [hh (.inl hv)];clear hnx hh;(repeat' first|refine stW [0,2,3,4,7,11,19,22,35] ?_|refine fctI fun hf=>?_|refine twI (fun hc=>?_) fun hc=>?_);exact DVR
    replace hnx := hnx hv
    replace hh := fun h => hh (.inr h)
    (repeat' first|refine stW [0,2,3,4,7,11,19,22,35] ?_|refine fctI fun hf=>?_|refine twI (fun hc=>?_) fun hc=>?_);refine loop_swp [0, 3, 4] [] 128 (fun q A H => ∃ j : Nat, j <= i /\ q = i - j /\ hasB ((ruleNs l).take j) (l.getD i default).name = false /\ A = [(0, ruleL l), (3, li i), (4, li j)] /\ H = []) (by omega) ?_ ?_ ?_
    · rintro q A H ⟨j, k1, k2, k3, rfl, rfl⟩;exact SDD
    · refine ⟨_, 0, by omega, rfl, rfl, ?_, ?_⟩
      · exact DVR
      · exact DVR
    rintro q A H ⟨j, k1, k2, k3, rfl, rfl⟩;by_cases hj : j < i
    · have hj3 : (j : Int) < (i : Int) := by omega
      have hj2 : j < l.length := by omega
      have hj4 : (j : Int) < (l.length : Int) := by omega
      have hs := hasB_suc (l := ruleNs l) (s := (l.getD i default).name) (i := j) (by rw [ruleNs_len]; exact hj2);rw [k3, Bool.false_or, ruleNs_at l hj2] at hs;(have:=NeI hj3);(have:=NeI hj2);(have:=NeI hj4);by_cases e : (l.getD j default).name = (l.getD i default).name
      · have hd : hasB ((ruleNs l).take i) (l.getD i default).name = true := by
          refine hasB_mem.2 ?_;rw [<- e, <- ruleNs_at l hj2];exact List.mem_iff_getElem.2 ⟨j, by rw [List.length_take, ruleNs_len]; omega, by rw [List.getElem_take, List.getD_eq_getElem?_getD, List.getElem?_eq_getElem (by rw [ruleNs_len]; exact hj2)]; rfl⟩
        rw [hh hd];(have:=NeI e);clear hnx hh;(repeat' first|refine stW [0,2,3,4,7,11,19,22,35] ?_|refine fctI fun hf=>?_|refine twI (fun hc=>?_) fun hc=>?_);exact DVR
      · (have:=NeI e);rw [decide_eq_false e] at hs;clear hnx hh;(repeat' first|refine stW [0,2,3,4,7,11,19,22,35] ?_|refine fctI fun hf=>?_|refine twI (fun hc=>?_) fun hc=>?_);(refine lN [] ?_);exact ⟨_, by omega, j + 1, by omega, rfl, hs, rfl, rfl⟩
    obtain rfl : j = i := by omega
    have hj3 : ¬ ((j : Int) < (j : Int)) := by omega
    replace hnx := hnx k3
    (have:=NeI hj3);(repeat' first|refine stW [0,2,3,4,7,11,19,22,35] ?_|refine fctI fun hf=>?_|refine twI (fun hc=>?_) fun hc=>?_);(refine lN [] ?_);exact ⟨_, by omega, j + 1, by omega, rfl, hnx, rfl, rfl⟩
  obtain rfl : i = l.length := by omega
  have hi3 : ¬ ((l.length : Int) < (l.length : Int)) := by omega
  rw [rules_all g3];(have:=NeI hi3);clear g3;(repeat' first|refine stW [0,2,3,4,7,11,19,22,35] ?_|refine fctI fun hf=>?_|refine twI (fun hc=>?_) fun hc=>?_);exact DVR
theorem rFind41_f (l : List ByteArray) (s : ByteArray) (m : Nat) (hl : l.length <= 281474976710656) : Pu 122 [strs l, ls s] m (li (idxI (fun v => decide (v = s)) l)) := by
  refine pcN 19 [.tmp 4] [3] Tryz.func122 rfl [] ?_;(repeat' first|refine stW [0,1,4,5,9,17] ?_|refine fctI fun hf=>?_|refine twI (fun hc=>?_) fun hc=>?_);refine loop_swp [0, 1, 5] [] 16 (fun q A H => ∃ i : Nat, i <= l.length /\ q = l.length - i /\ (l.take i).any (fun v => decide (v = s)) = false /\ A = [(0, strs l), (1, ls s), (5, li i)] /\ H = []) (by omega) ?_ ?_ ?_
  · rintro q A H ⟨i, h1, h2, h3, rfl, rfl⟩;exact SDD
  · refine ⟨_, 0, by omega, rfl, rfl, ?_, ?_⟩
    · exact DVR
    · exact DVR
  rintro q A H ⟨i, h1, h2, h3, rfl, rfl⟩;by_cases hi : i < l.length
  · have hi3 : (i : Int) < (l.length : Int) := by omega
    (have:=NeI hi3);(have:=NeI hi);by_cases hx : l.getD i default = s
    · (have:=NeI hx);rw [idxI_hit h3 hi (decide_eq_true hx)];clear h3;(repeat' first|refine stW [0,1,4,5,9,17] ?_|refine fctI fun hf=>?_|refine twI (fun hc=>?_) fun hc=>?_);exact DVR
    · (have:=NeI hx);have hns := any_step h3 hi (decide_eq_false hx);clear h3;(repeat' first|refine stW [0,1,4,5,9,17] ?_|refine fctI fun hf=>?_|refine twI (fun hc=>?_) fun hc=>?_);(refine lN [] ?_);exact ⟨_, by omega, i + 1, by omega, rfl, hns, rfl, rfl⟩
  have hi3 : ¬ ((i : Int) < (l.length : Int)) := by omega
  (have:=NeI hi3);rw [List.take_of_length_le (by omega)] at h3;rw [idxI_none h3];(repeat' first|refine stW [0,1,4,5,9,17] ?_|refine fctI fun hf=>?_|refine twI (fun hc=>?_) fun hc=>?_);exact DVR
theorem rFindN_f (n : Net) (s : ByteArray) (m : Nat) (hl : n.nodes.length <= 281474976710656) : Pu 122 [strs (namesL n), ls s] m (li (nodeIx n.nodes s)) := by
  rw [<- find_names];exact rFind41_f _ s m (by rw [namesL_len]; exact hl)
theorem rNames_f (n : Net) (m : Nat) (hl : n.nodes.length <= 1048576) : Pu 121 [netD n] m (strs (namesL n)) := by
  have hnl := namesL_len n;refine pcN 22 [.tmp 2] [55] Tryz.func121 rfl [32] ?_;(repeat' first|refine stW [0,1,2,3,4,9] ?_|refine fctI fun hf=>?_|refine twI (fun hc=>?_) fun hc=>?_);(refine sN 3 9 1 ?_);refine loop_swp [1, 3, 4] [0, 32] 40 (fun q A H => ∃ i : Nat, i <= n.nodes.length /\ q = n.nodes.length - i /\ A = [(1, .ptr 0 0), (3, .gl 32), (4, li i)] /\ H = [(0, .blk 25 (netC n)), (32, strL ((namesL n).take i))]) (by omega) ?_ ?_ ?_
  · rintro q A H ⟨i, g1, g2, rfl, rfl⟩;exact SDD
  · refine ⟨_, 0, by omega, rfl, ?_, ?_⟩
    · exact DVR
    · exact DVR
  rintro q A H ⟨i, g1, g2, rfl, rfl⟩;by_cases hin : i < n.nodes.length
  · have hi3 : (i : Int) < (n.nodes.length : Int) := by omega
    have hnx := namesL_take n hin;have hlt : ((namesL n).take i).length = i := by rw [List.length_take]; omega
    generalize (namesL n).take i = X at *
    (have:=NeI hin);(have:=NeI hi3);(repeat' first|refine stW [0,1,2,3,4,9] ?_|refine fctI fun hf=>?_|refine twI (fun hc=>?_) fun hc=>?_);rw [<- hnx];(refine lN [0, 32] ?_);exact ⟨_, by omega, i + 1, by omega, rfl, rfl, rfl⟩
  obtain rfl : i = n.nodes.length := by omega
  have hi3 : ¬ ((n.nodes.length : Int) < (n.nodes.length : Int)) := by omega
  (have:=NeI hi3);rw [show (namesL n).take n.nodes.length = namesL n by rw [<- hnl, List.take_length]];(repeat' first|refine stW [0,1,2,3,4,9] ?_|refine fctI fun hf=>?_|refine twI (fun hc=>?_) fun hc=>?_);exact DVR
theorem rKnown_f (l : List Rule) (n : Net) (m : Nat) (hl : rulOk l) (no : netOk n) (hn : n.nodes.length <= 1048576) : Pu 62 [ruleL l, netD n] m (lb (l.all (knownR n))) := by
  have hl1 := hl.1;have c1 := fun m => rNames_f n m hn
  refine pcN 46 [.tmp 4] [4] Tryz.func62 rfl [] ?_;(repeat' first|refine stW [0,1,3,4,5,6,7,13,23,31,45] ?_|refine fctI fun hf=>?_|refine twI (fun hc=>?_) fun hc=>?_);refine loop_swp [0, 3, 5, 6] [0] 48 (fun q A H => ∃ i : Nat, i <= l.length /\ q = l.length - i /\ (∀ j, j < i -> knownR n (l.getD j default) = true) /\ A = [(0, ruleL l), (3, .ptr 0 0), (5, strs (namesL n)), (6, li i)] /\ H = [(0, .blk 25 (netC n))]) (by omega) ?_ ?_ ?_
  · rintro q A H ⟨i, g1, g2, g3, rfl, rfl⟩;exact SDD
  · refine ⟨_, 0, by omega, rfl, by omega, ?_, ?_⟩
    · exact DVR
    · exact DVR
  rintro q A H ⟨i, g1, g2, g3, rfl, rfl⟩;by_cases hi : i < l.length
  · have hi3 : (i : Int) < (l.length : Int) := by omega
    have hw := ruleOk_at hl hi;have hkr := knownR_eq n (l.getD i default);have hit := @kn_hit n l i hi;have c2 := fun m => rFindLink_f n (l.getD i default).lnk m no.2.1
    (have:=NeI hi);(have:=NeI hi3);by_cases h0 : linkIx n.links (l.getD i default).lnk < 0
    · rw [hit (by rw [hkr, decide_eq_false (by omega)]; rfl)];generalize linkIx n.links (l.getD i default).lnk = K at *
      (have:=NeI h0);clear g3 hit hkr;(repeat' first|refine stW [0,1,3,4,5,6,7,13,23,31,45] ?_|refine fctI fun hf=>?_|refine twI (fun hc=>?_) fun hc=>?_);exact DVR
    rw [decide_eq_true (show 0 <= linkIx n.links (l.getD i default).lnk by omega), Bool.true_and] at hkr;generalize linkIx n.links (l.getD i default).lnk = K at *
    (have:=NeI h0);(repeat' first|refine stW [0,1,3,4,5,6,7,13,23,31,45] ?_|refine fctI fun hf=>?_|refine twI (fun hc=>?_) fun hc=>?_);refine loop_swp [0, 3, 5, 6, 7] [0] 152 (fun q A H => ∃ j : Nat, j <= (l.getD i default).whn.length /\ q = (l.getD i default).whn.length - j /\ ((l.getD i default).whn.take j).all (nodKn n) = true /\ A = [(0, ruleL l), (3, .ptr 0 0), (5, strs (namesL n)), (6, li i), (7, li j)] /\ H = [(0, .blk 25 (netC n))]) (by omega) ?_ ?_ ?_
    · rintro q A H ⟨j, k1, k2, k3, rfl, rfl⟩;exact SDD
    · refine ⟨_, 0, by omega, rfl, rfl, ?_, ?_⟩
      · exact DVR
      · exact DVR
    rintro q A H ⟨j, k1, k2, k3, rfl, rfl⟩;by_cases hj : j < (l.getD i default).whn.length
    · have hj3 : (j : Int) < ((l.getD i default).whn.length : Int) := by omega
      have hs := all_takeS (nodKn n) hj;rw [k3, Bool.true_and] at hs;have c3 := fun m => rFindN_f n ((l.getD i default).whn.getD j default).nod m (by omega)
      have ek : nodKn n ((l.getD i default).whn.getD j default) = decide (0 <= nodeIx n.nodes ((l.getD i default).whn.getD j default).nod) := rfl;have hbd : nodKn n ((l.getD i default).whn.getD j default) = false -> knownR n (l.getD i default) = false := fun h => by
        rw [hkr];exact List.all_eq_false.2 ⟨_, getD_mem hj, by rw [h]; decide⟩
      (have:=NeI hj);(have:=NeI hj3);by_cases h4 : nodeIx n.nodes ((l.getD i default).whn.getD j default).nod < 0
      · rw [hit (hbd (by rw [ek, decide_eq_false (by omega)]))];generalize nodeIx n.nodes ((l.getD i default).whn.getD j default).nod = K at *
        (have:=NeI h4);clear g3 hit hkr hbd hs ek;(repeat' first|refine stW [0,1,3,4,5,6,7,13,23,31,45] ?_|refine fctI fun hf=>?_|refine twI (fun hc=>?_) fun hc=>?_);exact DVR
      · rw [ek, decide_eq_true (by omega)] at hs;generalize nodeIx n.nodes ((l.getD i default).whn.getD j default).nod = K at *
        (have:=NeI h4);clear g3 hit hkr hbd ek;(repeat' first|refine stW [0,1,3,4,5,6,7,13,23,31,45] ?_|refine fctI fun hf=>?_|refine twI (fun hc=>?_) fun hc=>?_);(refine lN [0] ?_);exact ⟨_, by omega, j + 1, by omega, rfl, hs, rfl, rfl⟩
    obtain rfl : j = (l.getD i default).whn.length := by omega
    have hj3 : ¬ (((l.getD i default).whn.length : Int) < ((l.getD i default).whn.length : Int)) := by omega
    rw [List.take_length, <- hkr] at k3;have hnx : ∀ j, j < i + 1 -> knownR n (l.getD j default) = true := fun j hj => by
      by_cases e : j = i
      · subst e; exact k3
      · exact g3 j (by omega)
    (have:=NeI hj3);clear g3 hit hkr;(repeat' first|refine stW [0,1,3,4,5,6,7,13,23,31,45] ?_|refine fctI fun hf=>?_|refine twI (fun hc=>?_) fun hc=>?_);(refine lN [0] ?_);exact ⟨_, by omega, i + 1, by omega, rfl, hnx, rfl, rfl⟩
  obtain rfl : i = l.length := by omega
  have hi3 : ¬ ((l.length : Int) < (l.length : Int)) := by omega
  rw [kn_all g3];(have:=NeI hi3);clear g3;(repeat' first|refine stW [0,1,3,4,5,6,7,13,23,31,45] ?_|refine fctI fun hf=>?_|refine twI (fun hc=>?_) fun hc=>?_);exact DVR
theorem most_cnt {t : List Knot} {y : Int} (h : tabB t = true) (h0 : (t.getD 0 default).y <= y) : ∃ I : Nat, 1 <= I /\ I <= t.length /\ (∀ j, j < I -> (t.getD j default).y <= y) /\ (∀ j, I <= j -> j < t.length -> y < (t.getD j default).y) /\
    ((I = t.length /\ mostIx t y = -1) ∨ (I < t.length /\ mostIx t y = (I : Int))) := by
  have hl := (tab_in h).1;have hm := tab_mono2 h;rcases idxI_spec (fun a : Knot => decide (y < a.y)) t with ⟨e, hn⟩ | ⟨k, e, hk, hp, hn⟩
  · refine ⟨t.length, hl, Nat.le_refl _, fun j hj => ?_, fun j h1 h2 => by omega, .inl ⟨rfl, e⟩⟩;have := of_decide_eq_false (hn j hj);omega
  · have hp := of_decide_eq_true hp;have hk0 : k ≠ 0 := fun z => by subst z; omega
    refine ⟨k, by omega, by omega, fun j hj => ?_, fun j h1 h2 => ?_, .inr ⟨hk, e⟩⟩
    · have := of_decide_eq_false (hn j hj);omega
    · have := (hm j k h1 h2).2;omega
theorem rMost_f (t : List Knot) (y : Int) (m : Nat) (h : tabB t = true) (h0 : (t.getD 0 default).y <= y) (hy : 0 <= y /\ y <= 1125899906842624) : Pu 188 [knotL t, li y] m (.tup [li (mostT t y), lb true]) := by
  have hin := tab_in h;obtain ⟨I, i1, i2, i3, i4, i5⟩ := most_cnt h h0;have hmT : mostT t y = if mostIx t y = -1 then (t.getD (t.length - 1) default).x
    else (t.getD ((mostIx t y).toNat - 1) default).x + (y - (t.getD ((mostIx t y).toNat - 1) default).y) * ((t.getD (mostIx t y).toNat default).x - (t.getD ((mostIx t y).toNat - 1) default).x) / ((t.getD (mostIx t y).toNat default).y - (t.getD ((mostIx t y).toNat - 1) default).y) := rfl
  have f0 : ¬ y < (t.getD 0 default).y := by omega
  have f1 : 0 < t.length := by omega
  (have:=NeI f0);(have:=NeI f1);generalize mostT t y = MT at *
  refine pcN 78 [.tmp 4,.tmp 5] [3,4] Tryz.func188 rfl [] ?_;(repeat' first|refine stW [0,1,4,5,6,7,8,14,18,27,33] ?_|refine fctI fun hf=>?_|refine twI (fun hc=>?_) fun hc=>?_);refine loop_swp [0, 1, 6, 7] [] 0 (fun q A H => ∃ i : Nat, i <= t.length /\ q = t.length - i /\ A = [(0, knotL t), (1, li y), (6, li ((min i I - 1 : Nat) : Int)), (7, li i)] /\ H = []) (by omega) ?_ ?_ ?_
  · rintro q A H ⟨i, g1, g2, rfl, rfl⟩;exact SDD
  · refine ⟨_, 0, by omega, rfl, ?_, ?_⟩
    · rw [show min 0 I - 1 = 0 by omega];exact DVR
    · exact DVR
  rintro q A H ⟨i, g1, g2, rfl, rfl⟩;by_cases hi : i < t.length
  · have hi3 : (i : Int) < (t.length : Int) := by omega
    (have:=NeI hi);(have:=NeI hi3);by_cases hI : i < I
    · have hle := i3 i hI;have e1 : min (i + 1) I - 1 = i := by omega
      (have:=NeI hle);clear i3 i4 hmT;(repeat' first|refine stW [0,1,4,5,6,7,8,14,18,27,33] ?_|refine fctI fun hf=>?_|refine twI (fun hc=>?_) fun hc=>?_);(refine lN [] ?_);exact ⟨_, by omega, i + 1, by omega, rfl, by rw [e1] <;> rfl, rfl⟩
    · have hle : ¬ (t.getD i default).y <= y := by have := i4 i (by omega) hi; omega
      have e1 : min (i + 1) I - 1 = min i I - 1 := by omega
      (have:=NeI hle);clear i3 i4 hmT;(repeat' first|refine stW [0,1,4,5,6,7,8,14,18,27,33] ?_|refine fctI fun hf=>?_|refine twI (fun hc=>?_) fun hc=>?_);(refine lN [] ?_);exact ⟨_, by omega, i + 1, by omega, rfl, by rw [e1] <;> rfl, rfl⟩
  obtain rfl : i = t.length := by omega
  have hi3 : ¬ ((t.length : Int) < (t.length : Int)) := by omega
  (have:=NeI hi3);rw [show min t.length I - 1 = I - 1 by omega];obtain ⟨K, rfl⟩ : ∃ K, I = K + 1 := ⟨I - 1, by omega⟩;rw [Nat.add_sub_cancel];have hKl : K < t.length := by omega
  (have:=NeI hKl);rcases i5 with ⟨e, hx⟩ | ⟨e, hx⟩
  · rw [if_pos hx, <- e, Nat.add_sub_cancel] at hmT;rw [hmT];have hk3 : (K : Int) = (t.length : Int) - 1 := by omega
    (have:=NeI hk3);clear i3 i4;(repeat' first|refine stW [0,1,4,5,6,7,8,14,18,27,33] ?_|refine fctI fun hf=>?_|refine twI (fun hc=>?_) fun hc=>?_);exact DVR
  · rw [if_neg (by omega), hx, Int.toNat_natCast, Nat.add_sub_cancel] at hmT;have hk3 : ¬ (K : Int) = (t.length : Int) - 1 := by omega
    have b1 := hin.2.2.1 K hKl;have b2 := hin.2.2.1 (K + 1) e;have a1 := hin.2.2.2 K e;have a2 := i3 K (by omega);have a3 := i4 (K + 1) (Nat.le_refl _) e;obtain ⟨N, hN⟩ : ∃ N : Nat, y - (t.getD K default).y = (N : Int) := ⟨(y - (t.getD K default).y).toNat, by omega⟩;obtain ⟨X, hX⟩ : ∃ X : Nat, (t.getD (K + 1) default).x - (t.getD K default).x = (X : Int) := ⟨((t.getD (K + 1) default).x - (t.getD K default).x).toNat, by omega⟩;obtain ⟨D, hD⟩ : ∃ D : Nat, (t.getD (K + 1) default).y - (t.getD K default).y = (D : Int) := ⟨((t.getD (K + 1) default).y - (t.getD K default).y).toNat, by omega⟩;have hQ : N * X / D <= X := by
      have := Nat.div_le_div_right (c := D) (Nat.mul_le_mul_right X (show N <= D by omega));rw [Nat.mul_div_cancel_left _ (show 0 < D by omega)] at this;exact this
    have kF := fun m => floorOf_f N X D (N * X / D) (N * X % D) m (by omega) (by omega) (by omega) (Nat.div_add_mod (N * X) D).symm (Nat.mod_lt _ (by omega)) (by omega)
    rw [hN, hX, hD, <- Int.natCast_mul, <- Int.natCast_ediv] at hmT;rw [hmT];rw [<- hN, <- hX, <- hD] at kF;generalize N * X / D = Q at *
    clear hmT i3 i4 hD;have e3 : K + 1 < t.length := e;(have:=NeI e3);(have:=NeI hk3);(repeat' first|refine stW [0,1,4,5,6,7,8,14,18,27,33] ?_|refine fctI fun hf=>?_|refine twI (fun hc=>?_) fun hc=>?_);exact DVR
theorem rLevel29_f (x : Node) (v : Int) (m : Nat) (h : nodeR x = true) (hv : 0 <= v /\ v <= 1125899906842624) : Pu 133 [nodeD x, li v] m (li (levelI x v)) := by
  have hl := levelI_in h hv.1;have a1 := lev_in (node_lev h).1;have a2 := lev_in (node_lev h).2.1;unfold levelI at hl ⊢;by_cases k : x.kind = 3
  · rw [if_pos k];(have:=NeI k);refine pcN 23 [.tmp 4] [3] Tryz.func133 rfl [] ?_;(repeat' first|refine stW [0,1,2,4,5,9] ?_|refine fctI fun hf=>?_|refine twI (fun hc=>?_) fun hc=>?_);exact DVR
  · rw [if_neg k] at hl ⊢;(have:=NeI k);have ht := nodeR_tab h k;have ct := fun m => rMost_f x.shape v m ht.1 (by omega) hv
    generalize mostT x.shape v = q at *
    refine pcN 23 [.tmp 4] [3] Tryz.func133 rfl [] ?_;(repeat' first|refine stW [0,1,2,4,5,9] ?_|refine fctI fun hf=>?_|refine twI (fun hc=>?_) fun hc=>?_);exact DVR
end Go.Proofs.YtlgfdfljnbncfaaGreat
