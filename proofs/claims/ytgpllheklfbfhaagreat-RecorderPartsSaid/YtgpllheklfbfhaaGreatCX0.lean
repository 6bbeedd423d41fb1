/-
  Contracts of functions of the program, over the engine.
  No condition.
-/
import Derived.Test.YtgpllheklfbfhaaGreatCN0N1NBNmT1T2T2eT3
import Derived.Test.YtgpllheklfbfhaaGreatCY16Y17
import Derived.Test.YtgpllheklfbfhaaGreatCL9L10L11L12L16L20RL25L27
import Derived.Test.YtgpllheklfbfhaaGreatCT8T9T9bT9cT9eT10T11
import Derived.Test.YtgpllheklfbfhaaGreatCY6T21L14Y7Y11Y9Y10Y12Y8Y14
import Derived.Test.YtgpllheklfbfhaaGreatCT5T6T6bT7T7bT7c
import Derived.Test.YtgpllheklfbfhaaGreatCT12T13T14T2IT16T15T18T20Y0Y5Y1
namespace Go.Proofs.YtgpllheklfbfhaaGreat
open Go.Eng
set_option linter.all false
attribute [local irreducible] DCallsG SWp Fct CallQ XCallQ LCallQ XLCallQ drun xrun
set_option maxHeartbeats 64000000
set_option maxRecDepth 20000

structure Infl where
  nod : ByteArray
  vols : List Int
instance : Inhabited Infl := ⟨⟨default, default⟩⟩
theorem infl_ext {x y : Infl} (h : x.nod = y.nod /\ x.vols = y.vols) : x = y := by
  cases x; cases y; simp_all
instance : DecidableEq Infl := fun x y => decidable_of_iff (x.nod = y.nod /\ x.vols = y.vols) ⟨infl_ext, fun h => by subst h; simp⟩
structure Cnd where
  nod : ByteArray
  below : Bool
  level : Int
instance : Inhabited Cnd := ⟨⟨default, default, default⟩⟩
theorem cnd_ext {x y : Cnd} (h : x.nod = y.nod /\ x.below = y.below /\ x.level = y.level) : x = y := by
  cases x; cases y; simp_all
instance : DecidableEq Cnd := fun x y => decidable_of_iff (x.nod = y.nod /\ x.below = y.below /\ x.level = y.level) ⟨cnd_ext, fun h => by subst h; simp⟩
def cndP (x : Cnd) : List PV := [.lit (.string x.nod), .lit (.bool x.below), .lit (.int .i64 x.level)]
def cndC (x : Cnd) : List DV := [.p (.lit (.string x.nod)), .p (.lit (.bool x.below)), .p (.lit (.int .i64 x.level))]
abbrev cndD (x : Cnd) : DV := .agg (cndC x)
abbrev cndL (l : List Cnd) : DV := .p (.dat 3 (l.map cndP))
theorem cndP_map (x : Cnd) : (cndP x).map DV.p = cndC x := rfl
theorem cndP_len (x : Cnd) : (cndP x).length = 3 := rfl
theorem cndC_len (x : Cnd) : (cndC x).length = 3 := rfl
theorem cndP_take (x : Cnd) : (cndP x).take 3 = cndP x := rfl
theorem cndC_take (x : Cnd) : (cndC x).take 3 = cndC x := rfl
theorem cndC_all (x : Cnd) : (cndC x).all DV.cellB = true := rfl
theorem cndP_d0 (x : Cnd) : (cndP x).getD 0 default = .lit (.string x.nod) := rfl
theorem cndC_d0 (x : Cnd) : (cndC x)[0]? = some (.p (.lit (.string x.nod))) := rfl
theorem cndP_s0 (x : Cnd) : (cndP x).take 1 = [.lit (.string x.nod)] := rfl
theorem cndC_s0 (x : Cnd) : (cndC x).take 1 = [.p (.lit (.string x.nod))] := rfl
theorem cndP_d1 (x : Cnd) : (cndP x).getD 1 default = .lit (.bool x.below) := rfl
theorem cndC_d1 (x : Cnd) : (cndC x)[1]? = some (.p (.lit (.bool x.below))) := rfl
theorem cndP_s1 (x : Cnd) : ((cndP x).drop 1).take 1 = [.lit (.bool x.below)] := rfl
theorem cndC_s1 (x : Cnd) : ((cndC x).drop 1).take 1 = [.p (.lit (.bool x.below))] := rfl
theorem cndP_d2 (x : Cnd) : (cndP x).getD 2 default = .lit (.int .i64 x.level) := rfl
theorem cndC_d2 (x : Cnd) : (cndC x)[2]? = some (.p (.lit (.int .i64 x.level))) := rfl
theorem cndP_s2 (x : Cnd) : ((cndP x).drop 2).take 1 = [.lit (.int .i64 x.level)] := rfl
theorem cndC_s2 (x : Cnd) : ((cndC x).drop 2).take 1 = [.p (.lit (.int .i64 x.level))] := rfl
theorem cndC_ren (o n : Nat) (x : Cnd) : DV.renL o n (cndC x) = cndC x := rfl
theorem cndC_frz (o : Nat) (v : FV) (x : Cnd) : DV.frzL o v (cndC x) = cndC x := rfl
theorem cndC_mp (r : Nat -> Nat) (x : Cnd) : DV.mpL r (cndC x) = cndC x := rfl
theorem cndC_uses (U : Nat -> Prop) (x : Cnd) : DV.usesL U (cndC x) = True := by simp [cndC, DV.usesL, DV.uses]
attribute [push_cast] cndP_map cndP_len cndC_len cndP_take cndC_take cndC_all cndP_d0 cndC_d0 cndP_s0 cndC_s0 cndP_d1 cndC_d1 cndP_s1 cndC_s1 cndP_d2 cndC_d2 cndP_s2 cndC_s2 cndC_ren cndC_frz cndC_mp cndC_uses
def cndOk (x : Cnd) : Prop := x.nod.size <= 281474976710656 /\ i64ok x.level
structure Rule where
  name : ByteArray
  whn : List Cnd
  lnk : ByteArray
  setg : Int
instance : Inhabited Rule := ⟨⟨default, default, default, default⟩⟩
theorem rule_ext {x y : Rule} (h : x.name = y.name /\ x.whn = y.whn /\ x.lnk = y.lnk /\ x.setg = y.setg) : x = y := by
  cases x; cases y; simp_all
instance : DecidableEq Rule := fun x y => decidable_of_iff (x.name = y.name /\ x.whn = y.whn /\ x.lnk = y.lnk /\ x.setg = y.setg) ⟨rule_ext, fun h => by subst h; simp⟩
def ruleP (x : Rule) : List PV := [.lit (.string x.name), .dat 3 (x.whn.map cndP), .lit (.string x.lnk), .lit (.int .i64 x.setg)]
def ruleC (x : Rule) : List DV := [.p (.lit (.string x.name)), .p (.dat 3 (x.whn.map cndP)), .p (.lit (.string x.lnk)), .p (.lit (.int .i64 x.setg))]
abbrev ruleD (x : Rule) : DV := .agg (ruleC x)
abbrev ruleL (l : List Rule) : DV := .p (.dat 4 (l.map ruleP))
theorem ruleP_map (x : Rule) : (ruleP x).map DV.p = ruleC x := rfl
theorem ruleP_len (x : Rule) : (ruleP x).length = 4 := rfl
theorem ruleC_len (x : Rule) : (ruleC x).length = 4 := rfl
theorem ruleP_take (x : Rule) : (ruleP x).take 4 = ruleP x := rfl
theorem ruleC_take (x : Rule) : (ruleC x).take 4 = ruleC x := rfl
theorem ruleC_all (x : Rule) : (ruleC x).all DV.cellB = true := rfl
theorem ruleP_d0 (x : Rule) : (ruleP x).getD 0 default = .lit (.string x.name) := rfl
theorem ruleC_d0 (x : Rule) : (ruleC x)[0]? = some (.p (.lit (.string x.name))) := rfl
theorem ruleP_s0 (x : Rule) : (ruleP x).take 1 = [.lit (.string x.name)] := rfl
theorem ruleC_s0 (x : Rule) : (ruleC x).take 1 = [.p (.lit (.string x.name))] := rfl
theorem ruleP_d1 (x : Rule) : (ruleP x).getD 1 default = .dat 3 (x.whn.map cndP) := rfl
theorem ruleC_d1 (x : Rule) : (ruleC x)[1]? = some (.p (.dat 3 (x.whn.map cndP))) := rfl
theorem ruleP_s1 (x : Rule) : ((ruleP x).drop 1).take 1 = [.dat 3 (x.whn.map cndP)] := rfl
theorem ruleC_s1 (x : Rule) : ((ruleC x).drop 1).take 1 = [.p (.dat 3 (x.whn.map cndP))] := rfl
theorem ruleP_d2 (x : Rule) : (ruleP x).getD 2 default = .lit (.string x.lnk) := rfl
theorem ruleC_d2 (x : Rule) : (ruleC x)[2]? = some (.p (.lit (.string x.lnk))) := rfl
theorem ruleP_s2 (x : Rule) : ((ruleP x).drop 2).take 1 = [.lit (.string x.lnk)] := rfl
theorem ruleC_s2 (x : Rule) : ((ruleC x).drop 2).take 1 = [.p (.lit (.string x.lnk))] := rfl
theorem ruleP_d3 (x : Rule) : (ruleP x).getD 3 default = .lit (.int .i64 x.setg) := rfl
theorem ruleC_d3 (x : Rule) : (ruleC x)[3]? = some (.p (.lit (.int .i64 x.setg))) := rfl
theorem ruleP_s3 (x : Rule) : ((ruleP x).drop 3).take 1 = [.lit (.int .i64 x.setg)] := rfl
theorem ruleC_s3 (x : Rule) : ((ruleC x).drop 3).take 1 = [.p (.lit (.int .i64 x.setg))] := rfl
theorem ruleC_ren (o n : Nat) (x : Rule) : DV.renL o n (ruleC x) = ruleC x := rfl
theorem ruleC_frz (o : Nat) (v : FV) (x : Rule) : DV.frzL o v (ruleC x) = ruleC x := rfl
theorem ruleC_mp (r : Nat -> Nat) (x : Rule) : DV.mpL r (ruleC x) = ruleC x := rfl
theorem ruleC_uses (U : Nat -> Prop) (x : Rule) : DV.usesL U (ruleC x) = True := by simp [ruleC, DV.usesL, DV.uses]
attribute [push_cast] ruleP_map ruleP_len ruleC_len ruleP_take ruleC_take ruleC_all ruleP_d0 ruleC_d0 ruleP_s0 ruleC_s0 ruleP_d1 ruleC_d1 ruleP_s1 ruleC_s1 ruleP_d2 ruleC_d2 ruleP_s2 ruleC_s2 ruleP_d3 ruleC_d3 ruleP_s3 ruleC_s3 ruleC_ren ruleC_frz ruleC_mp ruleC_uses
def ruleOk (x : Rule) : Prop := x.name.size <= 281474976710656 /\ (x.whn.length <= 281474976710656 /\ ∀ y, y ∈ x.whn -> cndOk y) /\ x.lnk.size <= 281474976710656 /\ i64ok x.setg
def rightI (x : Infl) : Bool := nameB x.nod && decide (x.vols.length <= 10000) && x.vols.all (fun v => btwB v 0 1125899906842624)
def hasB (l : List ByteArray) (s : ByteArray) : Bool := l.any fun y => decide (y = s)
def dupB (l : List ByteArray) : Bool := (List.range l.length).any fun i => hasB (l.take i) (l.getD i default)
def givenN (infl : List Infl) (names : List ByteArray) : Int :=
  if 1000 < infl.length ∨ 1000 < names.length then 4
  else if (infl.any fun x => !rightI x) = true then 1
  else if dupB names = true then 10
  else if (infl.any fun x => !hasB names x.nod) = true then 9 else 0
def volAt (s : ByteArray) (k : Nat) (x : Infl) : Int := if x.nod = s /\ k < x.vols.length then x.vols.getD k default else 0
def sumAt (l : List Infl) (s : ByteArray) (k : Nat) : Int := (l.map (volAt s k)).sum
def atL (l : List Infl) (names : List ByteArray) (k : Nat) : List Int := names.map fun s => sumAt l s k
def atB (l : List Infl) (names : List ByteArray) (k : Nat) : Bool := (atL l names k).all fun v => decide (v <= 1125899906842624)
theorem hasB_mem {l : List ByteArray} {s : ByteArray} : hasB l s = true ↔ s ∈ l := by
  unfold hasB;rw [List.any_eq_true];constructor
  · rintro ⟨y, hy, e⟩;rw [<- of_decide_eq_true e]; exact hy
  · exact fun h => ⟨s, h, decide_eq_true rfl⟩
def namesL (n : Net) : List ByteArray := n.nodes.map Node.name
theorem namesL_at (n : Net) {i : Nat} (h : i < n.nodes.length) : (namesL n).getD i default = (n.nodes.getD i default).name := by
  unfold namesL;rw [List.getD_eq_getElem?_getD, List.getElem?_map, List.getElem?_eq_getElem h, List.getD_eq_getElem?_getD, List.getElem?_eq_getElem h]; rfl
def stpI (n : Net) (l : List Sect) (infl : List Infl) (names : List ByteArray) (sec : Int) (k : Nat) (s : Sta) : Sta × Ledg × Int := if atB infl names k = true then stepR n l s (atL infl names k) sec else (zeroS, zeroL, 5)
structure Run where
  now : Sta
  ss : List Sta
  gs : List Ledg
  e : Int
def runI (n : Net) (l : List Sect) (infl : List Infl) (names : List ByteArray) (sec : Int) (s : Sta) : Nat -> Run
  | 0 => ⟨s, [], [], 0⟩
  | k + 1 => if (runI n l infl names sec s k).e = 0 then
      (if (stpI n l infl names sec k (runI n l infl names sec s k).now).2.2 = 0 then ⟨(stpI n l infl names sec k (runI n l infl names sec s k).now).1, (runI n l infl names sec s k).ss ++ [(stpI n l infl names sec k (runI n l infl names sec s k).now).1], (runI n l infl names sec s k).gs ++ [(stpI n l infl names sec k (runI n l infl names sec s k).now).2.1], 0⟩
       else ⟨(runI n l infl names sec s k).now, [], [], (stpI n l infl names sec k (runI n l infl names sec s k).now).2.2⟩)
    else ⟨(runI n l infl names sec s k).now, [], [], (runI n l infl names sec s k).e⟩
def runR (n : Net) (l : List Sect) (s : Sta) (infl : List Infl) (sec steps : Int) : List Sta × List Ledg × Int :=
  if (netB n && staB n s && catB l) = false then ([], [], 1)
  else if ¬ givenN infl (namesL n) = 0 then ([], [], givenN infl (namesL n))
  else if steps < 0 ∨ 10000 < steps ∨ sec < 1 ∨ 86400 < sec then ([], [], 2)
  else ((runI n l infl (namesL n) sec s steps.toNat).ss, (runI n l infl (namesL n) sec s steps.toNat).gs, (runI n l infl (namesL n) sec s steps.toNat).e)
section
variable {n : Net} {l : List Sect} {infl : List Infl} {names : List ByteArray} {sec : Int} {s : Sta}
end
def cutI (i : Nat) (x : Infl) : Infl := ⟨x.nod, x.vols.drop (min i x.vols.length)⟩
section
variable {n : Net} {l : List Sect} {infl : List Infl} {names : List ByteArray} {sec : Int} {s : Sta}
end
section
variable {n : Net} {l : List Sect} {names : List ByteArray} {sec : Int} {s : Sta}
end
theorem pvL_p : ∀ l : List PV, pvL (l.map DV.p) = some l
  | [] => rfl
  | x :: l => by rw [List.map_cons, pvL, pvL_p l]; rfl
theorem vkey_s (s t : ByteArray) : vkey (.string s) (.string t) = decide (s = t) := rfl
def setS (l : List ByteArray) : List (Value × DV) := l.map fun s => (.string s, lb true)
def mapS (l : List ByteArray) : PV := .map (l.map fun s => .string s) (l.map fun _ => .lit (.bool true))
def insS (l : List ByteArray) (s : ByteArray) : List ByteArray := if hasB l s = true then l else l ++ [s]
theorem setS_cons (x : ByteArray) (l : List ByteArray) : setS (x :: l) = (.string x, lb true) :: setS l := rfl
theorem hasB_cons (x : ByteArray) (l : List ByteArray) (s : ByteArray) : hasB (x :: l) s = (decide (x = s) || hasB l s) := rfl
theorem setS_find (s : ByteArray) : ∀ l : List ByteArray, mfind (setS l) (.string s) = if hasB l s = true then some (lb true) else none
  | [] => rfl
  | x :: l => by
    rw [setS_cons, mfind, vkey_s, setS_find s l, hasB_cons];by_cases h : s = x
    · subst h;rw [if_pos (decide_eq_true rfl), decide_eq_true rfl, Bool.true_or, if_pos rfl]
    · rw [if_neg (by simpa using h), decide_eq_false (fun e => h e.symm), Bool.false_or]
theorem setS_val (l : List ByteArray) (s : ByteArray) : (mfind (setS l) (.string s)).getD (.p (.lit (.bool false))) = lb (hasB l s) := by
  rw [setS_find];cases hasB l s <;> rfl
theorem setS_has (l : List ByteArray) (s : ByteArray) : (mfind (setS l) (.string s)).isSome = hasB l s := by
  rw [setS_find];cases hasB l s <;> rfl
theorem setS_set (s : ByteArray) : ∀ l : List ByteArray, mset (setS l) (.string s) (.p (.lit (.bool true))) = setS (insS l s)
  | [] => rfl
  | x :: l => by
    have ih := setS_set s l;unfold insS at ih ⊢;rw [setS_cons, mset, vkey_s, hasB_cons];by_cases h : s = x
    · subst h;rw [if_pos (decide_eq_true rfl), decide_eq_true rfl, Bool.true_or, if_pos rfl]; rfl
    · rw [if_neg (by simpa using h), decide_eq_false (fun e => h e.symm), Bool.false_or, ih];cases hasB l s <;> rfl
theorem setS_mem {l : List ByteArray} {e : Value × DV} (h : e ∈ setS l) : ∃ s, e = (.string s, lb true) := by
  obtain ⟨x, _, rfl⟩ := List.mem_map.1 h;exact ⟨_, rfl⟩
theorem setS_uses (U : Nat -> Prop) (l : List ByteArray) : DV.usesL U ((setS l).map (·.2)) = True :=
  propext ⟨fun _ => trivial, fun _ => usesL_iff.2 fun d hd => by
    obtain ⟨e, he, rfl⟩ := List.mem_map.1 hd;obtain ⟨s, rfl⟩ := setS_mem he;trivial⟩
theorem setS_mp (r : Nat -> Nat) (l : List ByteArray) : (setS l).map (fun e => (e.1, e.2.mp r)) = setS l := by
  unfold setS; rw [List.map_map]; exact List.map_congr_left fun z _ => rfl
theorem setS_ren (o n : Nat) (l : List ByteArray) : (setS l).map (fun e => (e.1, e.2.ren o n)) = setS l := by
  unfold setS; rw [List.map_map]; exact List.map_congr_left fun z _ => rfl
theorem setS_frz (o : Nat) (x : FV) (l : List ByteArray) : (setS l).map (fun e => (e.1, e.2.frz o x)) = setS l := by
  unfold setS; rw [List.map_map]; exact List.map_congr_left fun z _ => rfl
theorem setS_len (l : List ByteArray) : (setS l).length = l.length := List.length_map _
theorem setS_ok (l : List ByteArray) : keysOk .str (setS l) = True :=
  propext ⟨fun _ => trivial, fun _ e he => by
    obtain ⟨s, rfl⟩ := setS_mem he;rfl⟩
theorem mapS_pm (l : List ByteArray) : pmap (mapS l) = some (setS l) := by
  unfold mapS pmap setS;simp only [List.map_map];congr 1
  induction l with
  | nil => rfl
  | cons e l ih => simp only [List.map_cons, List.zip_cons_cons, ih]; rfl
attribute [push_cast] setS_val setS_has setS_set setS_uses setS_mp setS_ren setS_frz setS_len setS_ok mapS_pm
attribute [irreducible] setS mapS
def strE (l : List (ByteArray × Int)) : List (Value × DV) := l.map fun e => (.string e.1, li e.2)
def mapT (l : List (ByteArray × Int)) : PV := .map (l.map fun e => .string e.1) (l.map fun e => .lit (.int .i64 e.2))
def lookS : List (ByteArray × Int) -> ByteArray -> Option Int
  | [], _ => none
  | e :: l, s => if e.1 = s then some e.2 else lookS l s
def valS (l : List (ByteArray × Int)) (s : ByteArray) : Int := (lookS l s).getD 0
def knoS (l : List (ByteArray × Int)) (s : ByteArray) : Bool := (lookS l s).isSome
def putS : List (ByteArray × Int) -> ByteArray -> Int -> List (ByteArray × Int)
  | [], s, v => [(s, v)]
  | e :: l, s, v => if e.1 = s then (s, v) :: l else e :: putS l s v
theorem strE_cons (e : ByteArray × Int) (l : List (ByteArray × Int)) : strE (e :: l) = (.string e.1, li e.2) :: strE l := rfl
theorem strE_find (s : ByteArray) : ∀ l : List (ByteArray × Int), mfind (strE l) (.string s) = (lookS l s).map li
  | [] => rfl
  | e :: l => by
    rw [strE_cons, mfind, vkey_s, strE_find s l, lookS];by_cases h : s = e.1
    · rw [if_pos (decide_eq_true h), if_pos h.symm]; rfl
    · rw [if_neg (by simpa using h), if_neg (fun c => h c.symm)]
theorem strE_val (l : List (ByteArray × Int)) (s : ByteArray) : (mfind (strE l) (.string s)).getD (.p (.lit (.int .i64 0))) = li (valS l s) := by
  rw [strE_find]; unfold valS;cases lookS l s <;> rfl
theorem strE_has (l : List (ByteArray × Int)) (s : ByteArray) : (mfind (strE l) (.string s)).isSome = knoS l s := by
  rw [strE_find]; unfold knoS;cases lookS l s <;> rfl
theorem strE_set (s : ByteArray) (v : Int) : ∀ l : List (ByteArray × Int), mset (strE l) (.string s) (.p (.lit (.int .i64 v))) = strE (putS l s v)
  | [] => rfl
  | e :: l => by
    rw [strE_cons, mset, vkey_s, putS];by_cases h : s = e.1
    · rw [if_pos (decide_eq_true h), if_pos h.symm]; rfl
    · rw [if_neg (by simpa using h), if_neg (fun c => h c.symm), strE_set s v l]; rfl
theorem strE_mem {l : List (ByteArray × Int)} {e : Value × DV} (h : e ∈ strE l) : ∃ s v, e = (.string s, li v) := by
  obtain ⟨x, _, rfl⟩ := List.mem_map.1 h;exact ⟨_, _, rfl⟩
theorem strE_uses (U : Nat -> Prop) (l : List (ByteArray × Int)) : DV.usesL U ((strE l).map (·.2)) = True :=
  propext ⟨fun _ => trivial, fun _ => usesL_iff.2 fun d hd => by
    obtain ⟨e, he, rfl⟩ := List.mem_map.1 hd;obtain ⟨s, v, rfl⟩ := strE_mem he;trivial⟩
theorem strE_mp (r : Nat -> Nat) (l : List (ByteArray × Int)) : (strE l).map (fun e => (e.1, e.2.mp r)) = strE l := by
  unfold strE; rw [List.map_map]; exact List.map_congr_left fun z _ => rfl
theorem strE_ren (o n : Nat) (l : List (ByteArray × Int)) : (strE l).map (fun e => (e.1, e.2.ren o n)) = strE l := by
  unfold strE; rw [List.map_map]; exact List.map_congr_left fun z _ => rfl
theorem strE_frz (o : Nat) (x : FV) (l : List (ByteArray × Int)) : (strE l).map (fun e => (e.1, e.2.frz o x)) = strE l := by
  unfold strE; rw [List.map_map]; exact List.map_congr_left fun z _ => rfl
theorem strE_len (l : List (ByteArray × Int)) : (strE l).length = l.length := List.length_map _
theorem strE_ok (l : List (ByteArray × Int)) : keysOk .str (strE l) = True :=
  propext ⟨fun _ => trivial, fun _ e he => by
    obtain ⟨s, v, rfl⟩ := strE_mem he;rfl⟩
theorem strE_fv (l : List (ByteArray × Int)) : HV.fv (.map (strE l)) = some (.mp (l.map fun e => .string e.1) (l.map fun e => .lit (.int .i64 e.2))) := by
  have e1 : (strE l).map (·.2) = (l.map fun e => PV.lit (.int .i64 e.2)).map DV.p := by unfold strE; rw [List.map_map, List.map_map]; rfl
  have e2 : (strE l).map (·.1) = l.map fun e => (.string e.1 : Value) := by unfold strE; rw [List.map_map]; rfl
  simp only [HV.fv];rw [e1, e2, pvL_p]; rfl
theorem mapT_eq (l : List (ByteArray × Int)) : PV.map (l.map fun e => .string e.1) (l.map fun e => .lit (.int .i64 e.2)) = mapT l := rfl
theorem mapT_pm (l : List (ByteArray × Int)) : pmap (mapT l) = some (strE l) := by
  unfold mapT pmap strE;simp only [List.map_map];congr 1
  induction l with
  | nil => rfl
  | cons e l ih => simp only [List.map_cons, List.zip_cons_cons, ih]; rfl
attribute [push_cast] strE_val strE_has strE_set strE_uses strE_mp strE_ren strE_frz strE_len strE_ok mapT_pm
attribute [irreducible] strE mapT
def ixL (l : List ByteArray) (f : Nat -> Int) (i : Nat) : List (ByteArray × Int) := (List.range i).map fun j => (l.getD j default, f j)
theorem look_snoc (s : ByteArray) (e : ByteArray × Int) : ∀ l : List (ByteArray × Int), lookS (l ++ [e]) s = (lookS l s).or (if e.1 = s then some e.2 else none)
  | [] => rfl
  | x :: l => by
    rw [List.cons_append, lookS, lookS, look_snoc s e l];by_cases h : x.1 = s
    · rw [if_pos h, if_pos h]; rfl
    · rw [if_neg h, if_neg h]
theorem put_snoc (s : ByteArray) (v : Int) : ∀ l : List (ByteArray × Int), lookS l s = none -> putS l s v = l ++ [(s, v)]
  | [], _ => rfl
  | x :: l, h => by
    rw [lookS] at h;by_cases e : x.1 = s
    · rw [if_pos e] at h; cases h
    · rw [if_neg e] at h;rw [putS, if_neg e, put_snoc s v l h]; rfl
theorem ixL_suc (l : List ByteArray) (f : Nat -> Int) (i : Nat) : ixL l f (i + 1) = ixL l f i ++ [(l.getD i default, f i)] := by
  unfold ixL; rw [List.range_succ, List.map_append]; rfl
theorem ixL_none {l : List ByteArray} {f : Nat -> Int} {s : ByteArray} : ∀ i, (∀ j, j < i -> l.getD j default ≠ s) -> lookS (ixL l f i) s = none
  | 0, _ => rfl
  | i + 1, h => by
    rw [ixL_suc, look_snoc, ixL_none i fun j hj => h j (by omega), if_neg (h i (by omega))]; rfl
theorem ixL_some {l : List ByteArray} {f : Nat -> Int} {q : Nat} : ∀ i, q < i -> (∀ j, j < i -> l.getD j default = l.getD q default -> j = q) -> lookS (ixL l f i) (l.getD q default) = some (f q)
  | 0, h, _ => by omega
  | i + 1, h, hu => by
    rw [ixL_suc, look_snoc];by_cases e : q = i
    · subst e;rw [ixL_none q fun j hj c => by have := hu j (by omega) c; omega, if_pos rfl]; rfl
    · rw [ixL_some i (by omega) fun j hj => hu j (by omega)]; rfl
theorem ixL_put {l : List ByteArray} {f : Nat -> Int} {i : Nat} (h : ∀ j, j < i -> l.getD j default ≠ l.getD i default) : putS (ixL l f i) (l.getD i default) (f i) = ixL l f (i + 1) := by
  rw [put_snoc _ _ _ (ixL_none i h), ixL_suc]
class ValAt (l : List (ByteArray × Int)) (s : ByteArray) (v : outParam Int) : Prop where
  h : valS l s = v
theorem valS_at {l : List (ByteArray × Int)} {s : ByteArray} {v : Int} [h : ValAt l s v] : valS l s = v := h.h
theorem hasB_f (l : List ByteArray) (s : ByteArray) [h : Nonempty (hasB l s = false)] : hasB l s = false := h.elim id
theorem hasB_t (l : List ByteArray) (s : ByteArray) [h : Nonempty (hasB l s = true)] : hasB l s = true := h.elim id
attribute [push_cast] valS_at hasB_f hasB_t
theorem not_all {α : Type} (p : α -> Bool) (l : List α) : (!l.any fun x => !p x) = l.all p := by
  induction l with
  | nil => rfl
  | cons x l ih => rw [List.any_cons, List.all_cons, <- ih]; cases p x <;> simp
theorem any_no {α : Type} [Inhabited α] {p : α -> Bool} {l : List α} (h : ∀ j, j < l.length -> p (l.getD j default) = false) : l.any p = false := by
  rw [List.any_eq_false];intro v hv;obtain ⟨j, hj, rfl⟩ := List.mem_iff_getElem.1 hv;have := h j hj;rw [List.getD_eq_getElem?_getD, List.getElem?_eq_getElem hj] at this;rw [show p l[j] = false from this]; decide
theorem hasB_suc {l : List ByteArray} {s : ByteArray} {i : Nat} (h : i < l.length) : hasB (l.take (i + 1)) s = (hasB (l.take i) s || decide (l.getD i default = s)) := by
  unfold hasB;rw [List.take_succ_eq_append_getElem h, List.any_append, List.getD_eq_getElem?_getD, List.getElem?_eq_getElem h];simp
theorem staC_nrm (x : Sta) : normL [some 1, some 1, some 1, some 1] (staC x) = staC x := rfl
theorem staC_cells (x : Sta) : CellsB (staC x) = True := by
  refine propext ⟨fun _ => trivial, fun _ d hd => ?_⟩;simp only [staC, List.mem_cons, List.not_mem_nil, or_false] at hd;rcases hd with rfl | rfl | rfl | rfl <;> rfl
theorem ledgC_cells (x : Ledg) : CellsB (ledgC x) = True := by
  refine propext ⟨fun _ => trivial, fun _ d hd => ?_⟩;simp only [ledgC, List.mem_cons, List.not_mem_nil, or_false] at hd;rcases hd with rfl | rfl | rfl <;> rfl
theorem rows_staC (l : List Sta) (x : Sta) : rows staP l ++ [staC x] = rows staP (l ++ [x]) := rows_app staP l [x]
theorem staC_app4 (x y : Sta) : staC x ++ List.drop 4 (staC y) = staC x := rfl
theorem staC_rn (o n : Nat) (x : Sta) : DV.renL o n (staC x) = staC x := rfl
theorem ledgC_rn (o n : Nat) (x : Ledg) : DV.renL o n (ledgC x) = ledgC x := rfl
attribute [push_cast] staC_nrm staC_cells ledgC_cells rows_staC staC_app4 staC_rn ledgC_rn
theorem lenOk_of {n : Net} {s : Sta} (nb : netB n = true) (sb : staB n s = true) : lenOk s := (sta_hold nb sb).2.1
abbrev staLt (l : List Sta) : HV := .lst 31 4 (rows staP l)
section
variable {n : Net} {ss : List Sta} {i : Nat}
end
theorem sta_vol {n : Net} {s : Sta} (nb : netB n = true) (sb : staB n s = true) : s.vol.length = n.nodes.length /\ ∀ i, i < n.nodes.length -> 0 <= s.vol.getD i default /\ s.vol.getD i default <= 1125899906842624 := by
  obtain ⟨h1, h2, _⟩ := staB_in nb sb;refine ⟨(lensB_of h1).1, fun i hi => ?_⟩;have h := h2 i hi;have hc := capN_in nb hi;unfold okSN at h;simp only [Bool.and_eq_true] at h;have := btwB_in h.1.1;omega
theorem eqfSta_f (g : FuncId) (a b : List Sta) (m : Nat) (ha : a.length <= 281474976710656) (hb : b.length <= 281474976710656) (hg : ∀ x, x ∈ a -> ∀ y, y ∈ b -> ∀ m, Pu g [staD x, staD y] m (lb (decide (x = y)))) :
    Pu 52 [staL a, staL b, .clo g []] m (lb (decide (a = b))) := by
  by_cases hn : (a.length : Int) = (b.length : Int)
  case neg =>
    have hne : ¬ a = b := fun e => hn (by rw [e])
    rw [decide_eq_false hne];(have:=NeI hn);refine pcN 32 [.tmp 6] [4] Tryz.func52 rfl [] ?_;(repeat' first|refine stW [0,1,2,6,7,8,9,14,15,16,17,18,30] ?_|refine fctI fun hf=>?_|refine twI (fun hc=>?_) fun hc=>?_);exact DVR
  (have:=NeI hn);refine pcN 32 [.tmp 6] [4] Tryz.func52 rfl [] ?_;(repeat' first|refine stW [0,1,2,6,7,8,9,14,15,16,17,18,30] ?_|refine fctI fun hf=>?_|refine twI (fun hc=>?_) fun hc=>?_);refine loop_swp [1, 2, 15, 16, 17] [] 0 (fun q A H => ∃ i : Nat, i <= a.length /\ q = a.length - i /\ a.take i = b.take i /\ A = [(1, staL b), (2, .clo g []), (15, staL a), (16, li a.length), (17, li i)] /\ H = []) (by omega) ?_ ?_ ?_
  · rintro q A H ⟨i, g1, g2, g3, rfl, rfl⟩;exact SDD
  · refine ⟨_, 0, by omega, rfl, rfl, ?_, ?_⟩
    · exact DVR
    · exact DVR
  rintro q A H ⟨i, g1, g2, g3, rfl, rfl⟩;by_cases hi : i < a.length
  · have hi3 : (i : Int) < (a.length : Int) := by omega
    have hi4 : i < b.length := by omega
    have hi5 : (i : Int) < (b.length : Int) := by omega
    have cg := fun m => hg _ (getD_mem hi) _ (getD_mem hi4) m
    (have:=NeI hi);(have:=NeI hi3);(have:=NeI hi4);(have:=NeI hi5);clear hg;by_cases he : a.getD i default = b.getD i default
    · rw [decide_eq_true he] at cg;(repeat' first|refine stW [0,1,2,6,7,8,9,14,15,16,17,18,30] ?_|refine fctI fun hf=>?_|refine twI (fun hc=>?_) fun hc=>?_);(refine lN [] ?_);exact ⟨_, by omega, i + 1, by omega, rfl, take_next g3 (by omega) (by omega) he, rfl, rfl⟩
    · rw [decide_eq_false he] at cg;rw [decide_eq_false (fun e => he (by rw [e]))];clear he;(repeat' first|refine stW [0,1,2,6,7,8,9,14,15,16,17,18,30] ?_|refine fctI fun hf=>?_|refine twI (fun hc=>?_) fun hc=>?_);exact DVR
  obtain rfl : i = a.length := by omega
  have hi3 : ¬ ((a.length : Int) < (a.length : Int)) := by omega
  have hab : a = b := by
    have h4 := g3;rw [List.take_length, List.take_of_length_le (by omega)] at h4;exact h4
  rw [decide_eq_true hab];(have:=NeI hi3);clear hg g3 hab;(repeat' first|refine stW [0,1,2,6,7,8,9,14,15,16,17,18,30] ?_|refine fctI fun hf=>?_|refine twI (fun hc=>?_) fun hc=>?_);exact DVR
section
variable {n : Net} {l : List Sect} {infl : List Infl} {names : List ByteArray} {sec : Int} {s : Sta}
structure TwoRuns (n : Net) (l : List Sect) (s : Sta) (infl : List Infl) (sec : Int) (i k : Nat) (A B : List Sta × List Ledg × Int) : Prop where
  bad : ¬ A.2.2 = 0 -> A.1 = [] /\ (B.2.2 = 0 ∨ B.2.2 = A.2.2)
  e : A.2.2 = 0 -> B.2.2 = 0
  la : A.2.2 = 0 -> A.1.length = i + k /\ A.2.1.length = i + k /\ B.1.length = i /\ B.2.1.length = i
  t1 : A.2.2 = 0 -> A.1.take i = B.1 /\ A.2.1.take i = B.2.1
  mid : A.2.2 = 0 -> ∀ mid, mid = (if 0 < i then B.1.getD (i - 1) default else s) -> staOk mid /\ runR n l mid (infl.map (cutI i)) sec (k : Int) = (A.1.drop i, A.2.1.drop i, 0)
end
attribute [local irreducible] PT
theorem pt_cnd {n : Nat} {xs : List PV} (h : PT Tryz.prog (n + 2) 89 xs) : ∃ x : Cnd, xs = cndP x /\ cndOk x := by
  replace h := PT_struct (P := Tryz.prog) (t := 89) Tryz.underlying89 h
  obtain ⟨_, _, rfl, h0, _, _, rfl, h1, _, _, rfl, h2, rfl⟩ := h;obtain ⟨a0, rfl, k0⟩ := pt_str h0;obtain ⟨a1, rfl⟩ := pt_bool h1;obtain ⟨a2, rfl, k2⟩ := pt_int h2;exact ⟨⟨a0, a1, a2⟩, rfl, ⟨k0, k2⟩⟩
theorem cells_cnds : Tryz.prog.cellsOf 89 = 3 := by kernel_rfl
theorem bytes_cnds : 0 < Tryz.prog.bytesOf 89 := by rw [show Tryz.prog.bytesOf 89 = 32 from by kernel_rfl]; decide
theorem pt_cnds {n : Nat} {xs : List PV} (h : PT Tryz.prog (n + 3) 84 xs) : ∃ l : List Cnd, xs = [.dat 3 (l.map cndP)] /\ l.length <= 281474976710656 /\ ∀ x, x ∈ l -> cndOk x := by
  obtain ⟨l, rfl, hl, hr⟩ := PT_slice (P := Tryz.prog) (t := 84) Tryz.underlying84 h;obtain ⟨zs, rfl, hz⟩ := exMap cndP cndOk l fun r hr2 => by
    obtain ⟨z, rfl, hz⟩ := pt_cnd (hr r hr2);exact ⟨z, rfl, hz⟩
  rw [cells_cnds];have := len_le bytes_cnds hl;rw [List.length_map] at this;exact ⟨zs, rfl, this, hz⟩
theorem pt_rule {n : Nat} {xs : List PV} (h : PT Tryz.prog (n + 4) 86 xs) : ∃ x : Rule, xs = ruleP x /\ ruleOk x := by
  replace h := PT_struct (P := Tryz.prog) (t := 86) Tryz.underlying86 h
  obtain ⟨_, _, rfl, h0, _, _, rfl, h1, _, _, rfl, h2, _, _, rfl, h3, rfl⟩ := h;obtain ⟨a0, rfl, k0⟩ := pt_str h0;obtain ⟨a1, rfl, k1⟩ := pt_cnds h1;obtain ⟨a2, rfl, k2⟩ := pt_str h2;obtain ⟨a3, rfl, k3⟩ := pt_int h3;exact ⟨⟨a0, a1, a2, a3⟩, rfl, ⟨k0, k1, k2, k3⟩⟩
theorem cells_rules : Tryz.prog.cellsOf 86 = 4 := by kernel_rfl
theorem bytes_rules : 0 < Tryz.prog.bytesOf 86 := by rw [show Tryz.prog.bytesOf 86 = 64 from by kernel_rfl]; decide
theorem pt_rules {n : Nat} {xs : List PV} (h : PT Tryz.prog (n + 5) 27 xs) : ∃ l : List Rule, xs = [.dat 4 (l.map ruleP)] /\ l.length <= 281474976710656 /\ ∀ x, x ∈ l -> ruleOk x := by
  obtain ⟨l, rfl, hl, hr⟩ := PT_slice (P := Tryz.prog) (t := 27) Tryz.underlying27 h;obtain ⟨zs, rfl, hz⟩ := exMap ruleP ruleOk l fun r hr2 => by
    obtain ⟨z, rfl, hz⟩ := pt_rule (hr r hr2);exact ⟨z, rfl, hz⟩
  rw [cells_rules];have := len_le bytes_rules hl;rw [List.length_map] at this;exact ⟨zs, rfl, this, hz⟩
def cndB (c : Cnd) : Bool := nameB c.nod && btwB c.level (-4194304) 4194304
def ruleB (r : Rule) : Bool := nameB r.name && nameB r.lnk && decide (r.whn.length <= 20) && btwB r.setg 0 1000 && r.whn.all cndB
def ruleNs (l : List Rule) : List ByteArray := l.map Rule.name
def rulesB (l : List Rule) : Bool := decide (l.length <= 60) && l.all ruleB && !dupB (ruleNs l)
theorem ruleNs_len (l : List Rule) : (ruleNs l).length = l.length := List.length_map ..
theorem ruleNs_at (l : List Rule) {i : Nat} (h : i < l.length) : (ruleNs l).getD i default = (l.getD i default).name := by
  unfold ruleNs;rw [List.getD_eq_getElem?_getD, List.getElem?_map, List.getElem?_eq_getElem h, List.getD_eq_getElem?_getD, List.getElem?_eq_getElem h]; rfl
theorem rules_hit {l : List Rule} {i : Nat} (hi : i < l.length) (h : ruleB (l.getD i default) = false ∨ hasB ((ruleNs l).take i) (l.getD i default).name = true) : (l.all ruleB && !dupB (ruleNs l)) = false := by
  rw [Bool.and_eq_false_iff];rcases h with h | h
  · exact .inl (List.all_eq_false.2 ⟨_, getD_mem hi, by rw [h]; decide⟩)
  · refine .inr ?_;have : dupB (ruleNs l) = true := List.any_eq_true.2 ⟨i, List.mem_range.2 (by rw [ruleNs_len]; exact hi), by rw [ruleNs_at l hi]; exact h⟩;rw [this]; rfl
theorem rules_all {l : List Rule} (h : ∀ j, j < l.length -> ruleB (l.getD j default) = true /\ hasB ((ruleNs l).take j) (l.getD j default).name = false) : (l.all ruleB && !dupB (ruleNs l)) = true := by
  rw [Bool.and_eq_true];constructor
  · rw [List.all_eq_true];intro r hr;obtain ⟨j, hj, rfl⟩ := List.mem_iff_getElem.1 hr;have := (h j hj).1;rw [List.getD_eq_getElem?_getD, List.getElem?_eq_getElem hj] at this;exact this
  · have : dupB (ruleNs l) = false := by
      unfold dupB;rw [List.any_eq_false];intro j hj;have hj2 : j < l.length := by have := List.mem_range.1 hj; rw [ruleNs_len] at this; exact this
      rw [ruleNs_at l hj2, (h j hj2).2]; decide
    rw [this]; rfl
def lvOf (n : Net) (lv : List Int) (s : ByteArray) : Int := lv.getD (nodeIx n.nodes s).toNat default
def cndH (v : Int) (c : Cnd) : Bool := decide (v < c.level) == c.below
def holdB (n : Net) (lv : List Int) (r : Rule) : Bool := r.whn.all fun c => cndH (lvOf n lv c.nod) c
def knownR (n : Net) (r : Rule) : Bool := decide (0 <= linkIx n.links r.lnk) && r.whn.all fun c => decide (0 <= nodeIx n.nodes c.nod)
def setK (n : Net) (lv : List Int) (l : List Rule) (before : List Int) : Nat -> Option (List Int × List Bool)
  | 0 => some (before, List.replicate n.links.length false)
  | i + 1 => match setK n lv l before i with
    | none => none
    | some (o, f) => if holdB n lv (l.getD i default) = true then
        (if f.getD (linkIx n.links (l.getD i default).lnk).toNat default = true /\ ¬ o.getD (linkIx n.links (l.getD i default).lnk).toNat default = (l.getD i default).setg then none
         else some (o.set (linkIx n.links (l.getD i default).lnk).toNat (l.getD i default).setg, f.set (linkIx n.links (l.getD i default).lnk).toNat true))
      else some (o, f)
def setR (n : Net) (l : List Rule) (lv before : List Int) : List Int × Int :=
  if ¬ lv.length = n.nodes.length ∨ ¬ before.length = n.links.length then ([], 3)
  else if rangB before 1000 = false then ([], 2)
  else if l.all (knownR n) = false then ([], 9)
  else match setK n lv l before l.length with
    | none => ([], 26)
    | some (o, _) => (o, 0)
section
variable {n : Net} {lv : List Int} {l : List Rule} {before : List Int}
theorem setK_len : ∀ {i : Nat} {o : List Int} {f : List Bool}, before.length = n.links.length -> setK n lv l before i = some (o, f) -> o.length = n.links.length /\ f.length = n.links.length
  | 0, o, f, hb, h => by
    cases h;exact ⟨hb, List.length_replicate ..⟩
  | i + 1, o, f, hb, h => by
    rw [setK] at h;cases e : setK n lv l before i with
    | none => rw [e] at h; cases h
    | some p =>
      obtain ⟨o1, f1⟩ := p;rw [e] at h;have ih := setK_len hb e;simp only at h;split at h
      · split at h
        · cases h
        · cases h;rw [List.length_set, List.length_set]; exact ih
      · cases h; exact ih
theorem setK_none {i : Nat} (h : setK n lv l before i = none) : ∀ j, setK n lv l before (i + j) = none
  | 0 => h
  | j + 1 => by
    rw [<- Nat.add_assoc, setK, setK_none h j]
theorem setK_skip {i : Nat} {o : List Int} {f : List Bool} (h : setK n lv l before i = some (o, f)) (hh : holdB n lv (l.getD i default) = false) : setK n lv l before (i + 1) = some (o, f) := by
  rw [setK, h];simp only [hh]; rfl
theorem setK_bad {i : Nat} {o : List Int} {f : List Bool} (h : setK n lv l before i = some (o, f)) (hh : holdB n lv (l.getD i default) = true) (h1 : f.getD (linkIx n.links (l.getD i default).lnk).toNat default = true) (h2 : ¬ o.getD (linkIx n.links (l.getD i default).lnk).toNat default = (l.getD i default).setg) : setK n lv l before (i + 1) = none := by
  rw [setK, h];simp only;rw [if_pos hh, if_pos ⟨h1, h2⟩]
theorem setK_set {i : Nat} {o : List Int} {f : List Bool} (h : setK n lv l before i = some (o, f)) (hh : holdB n lv (l.getD i default) = true) (h1 : ¬ (f.getD (linkIx n.links (l.getD i default).lnk).toNat default = true /\ ¬ o.getD (linkIx n.links (l.getD i default).lnk).toNat default = (l.getD i default).setg)) : setK n lv l before (i + 1) = some (o.set (linkIx n.links (l.getD i default).lnk).toNat (l.getD i default).setg, f.set (linkIx n.links (l.getD i default).lnk).toNat true) := by
  rw [setK, h];simp only;rw [if_pos hh, if_neg h1]
def wantI (n : Net) (lv : List Int) (l : List Rule) (before : List Int) (k : Nat) : Nat -> Int
  | 0 => before.getD k default
  | i + 1 => if (l.getD i default).lnk = (n.links.getD k default).name /\ holdB n lv (l.getD i default) = true then (l.getD i default).setg else wantI n lv l before k i
theorem lidx_eq (nb : netB n = true) {k : Nat} (hk : k < n.links.length) (s : ByteArray) : linkIx n.links s = (k : Int) ↔ s = (n.links.getD k default).name := by
  have hok := netB_okL nb hk;unfold okL at hok;simp only [Bool.and_eq_true, decide_eq_true_eq] at hok;constructor
  · intro h;rcases idxI_spec (fun x : Link => decide (x.name = s)) n.links with ⟨e, _⟩ | ⟨q, e, hq, hp, _⟩
    · unfold linkIx at h;rw [e] at h;omega
    · unfold linkIx at h;rw [e] at h;have : q = k := by omega
      subst this;exact (of_decide_eq_true hp).symm
  · intro h;subst h;exact hok.1.1.1.2
theorem setK_want (nb : netB n = true) (hb : before.length = n.links.length) (hk : ∀ j, j < l.length -> 0 <= linkIx n.links (l.getD j default).lnk) : ∀ {i : Nat} {o : List Int} {f : List Bool}, i <= l.length -> setK n lv l before i = some (o, f) -> ∀ k, k < n.links.length -> o.getD k default = wantI n lv l before k i
  | 0, o, f, _, h, k, _ => by cases h; rfl
  | i + 1, o, f, hi, h, k, hkl => by
    rw [wantI];cases e : setK n lv l before i with
    | none => rw [setK_none e 1] at h; cases h
    | some p =>
      obtain ⟨o1, f1⟩ := p;have ih := setK_want nb hb hk (i := i) (by omega) e k hkl;obtain ⟨hl1, _⟩ := setK_len hb e;cases hh : holdB n lv (l.getD i default)
      · rw [setK_skip e hh] at h;cases h;rw [if_neg (fun c => by cases c.2)];exact ih
      · by_cases hc : f1.getD (linkIx n.links (l.getD i default).lnk).toNat default = true /\ ¬ o1.getD (linkIx n.links (l.getD i default).lnk).toNat default = (l.getD i default).setg
        · rw [setK_bad e hh hc.1 hc.2] at h; cases h
        · rw [setK_set e hh hc] at h;cases h;have h0 := hk i (by omega);by_cases hn : (l.getD i default).lnk = (n.links.getD k default).name
          · rw [if_pos ⟨hn, rfl⟩, (lidx_eq nb hkl _).2 hn, Int.toNat_natCast, List.getD_eq_getElem?_getD, List.getElem?_set_self (by omega)]; rfl
          · have hne : ¬ (linkIx n.links (l.getD i default).lnk).toNat = k := fun c => hn ((lidx_eq nb hkl _).1 (by omega))
            rw [if_neg (fun c => hn c.1), List.getD_eq_getElem?_getD, List.getElem?_set_ne hne, <- List.getD_eq_getElem?_getD];exact ih
end
section
variable {F : Nat -> Sta -> Sta × Ledg × Int} {s : Sta}
end
def stepC (n : Net) (s : List Sect) (l : List Rule) (x : Sta) (inf : List Int) (sec : Int) : Sta × Ledg × Int :=
  if (netB n && staB n x && catB s && rulesB l) = false then (zeroS, zeroL, 1)
  else if ¬ (setR n l (levelsL n x.vol) x.set).2 = 0 then (zeroS, zeroL, (setR n l (levelsL n x.vol) x.set).2)
  else stepR n s ⟨x.vol, x.pon, (setR n l (levelsL n x.vol) x.set).1, x.on⟩ inf sec
section
variable {n : Net} {s : List Sect} {l : List Rule} {infl : List Infl} {sec : Int}
theorem setR_ok {lv before : List Int} (h : (setR n l lv before).2 = 0) : lv.length = n.nodes.length /\ before.length = n.links.length /\ rangB before 1000 = true /\ l.all (knownR n) = true /\ ∃ f, setK n lv l before l.length = some ((setR n l lv before).1, f) := by
  unfold setR at h ⊢;split at h
  · cases h
  next h1 =>
  split at h
  · cases h
  next h2 =>
  split at h
  · cases h
  next h3 =>
  rw [if_neg h1, if_neg h2, if_neg h3];refine ⟨Classical.byContradiction fun c => h1 (.inl c), Classical.byContradiction fun c => h1 (.inr c), by simpa using h2, by simpa using h3, ?_⟩;cases e : setK n lv l before l.length with
  | none => rw [e] at h; cases h
  | some p =>
    obtain ⟨o, f⟩ := p;exact ⟨f, rfl⟩
theorem wantI_in {lv before : List Int} (hr : ∀ k, k < before.length -> 0 <= before.getD k default /\ before.getD k default <= 1000) (hl : ∀ j, j < l.length -> 0 <= (l.getD j default).setg /\ (l.getD j default).setg <= 1000) {k : Nat} (hk : k < before.length) : ∀ i, i <= l.length -> 0 <= wantI n lv l before k i /\ wantI n lv l before k i <= 1000
  | 0, _ => hr k hk
  | i + 1, hi => by
    rw [wantI];split
    · exact hl i (by omega)
    · exact wantI_in hr hl hk i (by omega)
theorem rulesB_at (h : rulesB l = true) {j : Nat} (hj : j < l.length) : ruleB (l.getD j default) = true := by
  unfold rulesB at h;simp only [Bool.and_eq_true, List.all_eq_true] at h;exact h.1.2 _ (getD_mem hj)
theorem ruleB_set {r : Rule} (h : ruleB r = true) : 0 <= r.setg /\ r.setg <= 1000 := by
  unfold ruleB at h;simp only [Bool.and_eq_true] at h;exact btwB_in h.1.2
theorem known_lnk (h : l.all (knownR n) = true) {j : Nat} (hj : j < l.length) : 0 <= linkIx n.links (l.getD j default).lnk := by
  rw [List.all_eq_true] at h;have := h _ (getD_mem hj);unfold knownR at this;simp only [Bool.and_eq_true, decide_eq_true_eq] at this;exact this.1
theorem setR_sta {x : Sta} (nb : netB n = true) (sb : staB n x = true) (rb : rulesB l = true) (h : (setR n l (levelsL n x.vol) x.set).2 = 0) : staB n ⟨x.vol, x.pon, (setR n l (levelsL n x.vol) x.set).1, x.on⟩ = true := by
  obtain ⟨h1, h2, h3, h4, f, h5⟩ := setR_ok h;generalize (setR n l (levelsL n x.vol) x.set).1 = O at *
  obtain ⟨a1, a2, a3⟩ := staB_in nb sb;obtain ⟨l1, l2, l3, l4⟩ := lensB_of a1;obtain ⟨o1, o2⟩ := setK_len h2 h5;have hw := setK_want (lv := levelsL n x.vol) nb h2 (fun j hj => known_lnk h4 hj) (Nat.le_refl _) h5;unfold staB lensB;simp only [Bool.and_eq_true, decide_eq_true_eq, List.all_eq_true, List.mem_range];refine ⟨⟨⟨⟨⟨l1, l2⟩, o1⟩, l4⟩, fun q hq => a2 q hq⟩, fun k hk => ?_⟩;have b1 := a3 k hk;have b2 := wantI_in (n := n) (l := l) (lv := levelsL n x.vol) (before := x.set) (fun k hk => rang_at h3 k hk) (fun j hj => ruleB_set (rulesB_at rb hj)) (k := k) (by omega) l.length (Nat.le_refl _);have b3 := hw k hk;unfold okSL at b1 ⊢;simp only [Bool.and_eq_true, Bool.not_eq_true', Bool.and_eq_false_iff, Bool.not_eq_false', decide_eq_true_eq] at b1 ⊢;refine ⟨?_, b1.2⟩;show btwB (O.getD k default) 0 1000 = true;rw [b3];unfold btwB;simp only [Bool.and_eq_true, decide_eq_true_eq];exact b2
end
section
variable {n : Net} {s : List Sect} {l : List Rule} {infl : List Infl} {sec : Int} {x : Sta}
theorem stepC_sta {t : Sta} {inf : List Int} (no : netOk n) (co : catOk s) (h : (stepC n s l t inf sec).2.2 = 0) : staB n (stepC n s l t inf sec).1 = true := by
  unfold stepC at h ⊢;split at h
  · cases h
  next h1 =>
  split at h;next h2 => exact absurd h h2
  next h2 =>
  rw [if_neg h1, if_neg h2];have he : stepE n s ⟨t.vol, t.pon, (setR n l (levelsL n t.vol) t.set).1, t.on⟩ inf sec = 0 := by
    unfold stepR at h;split at h
    · assumption
    next he => exact absurd h he
  obtain ⟨S, hf, hg⟩ := stepE_0 no co he;rw [stepR_good he];exact S.fin hf hg
end
abbrev rulOk (l : List Rule) : Prop := l.length <= 281474976710656 /\ ∀ r, r ∈ l -> ruleOk r
theorem take_snocD {α : Type} [Inhabited α] {l : List α} {i : Nat} (h : i < l.length) : l.take (i + 1) = l.take i ++ [l.getD i default] := by
  rw [List.take_succ_eq_append_getElem h, List.getD_eq_getElem?_getD, List.getElem?_eq_getElem h]; rfl
def linkNs (n : Net) : List ByteArray := n.links.map Link.name
theorem linkNs_at (n : Net) {i : Nat} (h : i < n.links.length) : (linkNs n).getD i default = (n.links.getD i default).name := by
  unfold linkNs;rw [List.getD_eq_getElem?_getD, List.getElem?_map, List.getElem?_eq_getElem h, List.getD_eq_getElem?_getD, List.getElem?_eq_getElem h]; rfl
theorem nidx_eq {n : Net} (nb : netB n = true) {k : Nat} (hk : k < n.nodes.length) (s : ByteArray) : nodeIx n.nodes s = (k : Int) ↔ s = (n.nodes.getD k default).name := by
  have hok := netB_okN nb hk;unfold okN at hok;simp only [Bool.and_eq_true, decide_eq_true_eq] at hok;constructor
  · intro h;rcases idxI_spec (fun x : Node => decide (x.name = s)) n.nodes with ⟨e, _⟩ | ⟨q, e, hq, hp, _⟩
    · unfold nodeIx at h;rw [e] at h;omega
    · unfold nodeIx at h;rw [e] at h;have : q = k := by omega
      subst this;exact (of_decide_eq_true hp).symm
  · intro h;subst h;exact hok.2
theorem namesL_ne {n : Net} (nb : netB n = true) {i : Nat} (hi : i < n.nodes.length) : ∀ j, j < i -> (namesL n).getD j default ≠ (namesL n).getD i default := fun j hj e => by
  rw [namesL_at n hi, namesL_at n (by omega)] at e;have h1 := (nidx_eq nb (show j < n.nodes.length by omega) _).2 rfl;have h2 := (nidx_eq nb hi _).2 rfl;rw [e, h2] at h1;omega
theorem linkNs_ne {n : Net} (nb : netB n = true) {i : Nat} (hi : i < n.links.length) : ∀ j, j < i -> (linkNs n).getD j default ≠ (linkNs n).getD i default := fun j hj e => by
  rw [linkNs_at n hi, linkNs_at n (by omega)] at e;have h1 := (lidx_eq nb (show j < n.links.length by omega) _).2 rfl;have h2 := (lidx_eq nb hi _).2 rfl;rw [e, h2] at h1;omega
theorem nix_lt (l : List Node) (s : ByteArray) : nodeIx l s < l.length := (idxI_lt _ l).2
theorem lix_lt (l : List Link) (s : ByteArray) : linkIx l s < l.length := (idxI_lt _ l).2
theorem look_node {n : Net} (nb : netB n = true) (f : Nat -> Int) (s : ByteArray) : lookS (ixL (namesL n) f n.nodes.length) s = if 0 <= nodeIx n.nodes s then some (f (nodeIx n.nodes s).toNat) else none := by
  by_cases h : 0 <= nodeIx n.nodes s
  · rw [if_pos h];have hlt := nix_lt n.nodes s;obtain ⟨q, hq⟩ : ∃ q : Nat, nodeIx n.nodes s = (q : Int) := ⟨_, (Int.toNat_of_nonneg h).symm⟩;have hqn : q < n.nodes.length := by omega
    have e := (nidx_eq nb hqn s).1 hq;rw [hq, Int.toNat_natCast, e, <- namesL_at n hqn];refine ixL_some n.nodes.length hqn fun j hj c => ?_
    by_cases e1 : j = q
    · exact e1
    · rcases Nat.lt_or_gt_of_ne e1 with g | g
      · exact absurd c (namesL_ne nb hqn j g)
      · exact absurd c.symm (namesL_ne nb hj q g)
  · rw [if_neg h];refine ixL_none n.nodes.length fun j hj c => h ?_
    rw [namesL_at n hj] at c;rw [(nidx_eq nb hj s).2 c.symm]; omega
theorem look_link {n : Net} (nb : netB n = true) (f : Nat -> Int) (s : ByteArray) : lookS (ixL (linkNs n) f n.links.length) s = if 0 <= linkIx n.links s then some (f (linkIx n.links s).toNat) else none := by
  by_cases h : 0 <= linkIx n.links s
  · rw [if_pos h];have hlt := lix_lt n.links s;obtain ⟨q, hq⟩ : ∃ q : Nat, linkIx n.links s = (q : Int) := ⟨_, (Int.toNat_of_nonneg h).symm⟩;have hqn : q < n.links.length := by omega
    have e := (lidx_eq nb hqn s).1 hq;rw [hq, Int.toNat_natCast, e, <- linkNs_at n hqn];refine ixL_some n.links.length hqn fun j hj c => ?_
    by_cases e1 : j = q
    · exact e1
    · rcases Nat.lt_or_gt_of_ne e1 with g | g
      · exact absurd c (linkNs_ne nb hqn j g)
      · exact absurd c.symm (linkNs_ne nb hj q g)
  · rw [if_neg h];refine ixL_none n.links.length fun j hj c => h ?_
    rw [linkNs_at n hj] at c;rw [(lidx_eq nb hj s).2 c.symm]; omega
def lvM (n : Net) (lv : List Int) : List (ByteArray × Int) := ixL (namesL n) (fun j => lv.getD j default) n.nodes.length
def lkM (n : Net) : List (ByteArray × Int) := ixL (linkNs n) (fun j => (j : Int)) n.links.length
theorem lvM_kno {n : Net} (nb : netB n = true) (lv : List Int) (s : ByteArray) : knoS (lvM n lv) s = decide (0 <= nodeIx n.nodes s) := by
  unfold knoS lvM;rw [look_node nb];by_cases h : 0 <= nodeIx n.nodes s
  · rw [if_pos h, decide_eq_true h]; rfl
  · rw [if_neg h, decide_eq_false h]; rfl
theorem lvM_val {n : Net} (nb : netB n = true) (lv : List Int) {s : ByteArray} (h : 0 <= nodeIx n.nodes s) : valS (lvM n lv) s = lvOf n lv s := by
  unfold valS lvM;rw [look_node nb, if_pos h]; rfl
theorem lkM_kno {n : Net} (nb : netB n = true) (s : ByteArray) : knoS (lkM n) s = decide (0 <= linkIx n.links s) := by
  unfold knoS lkM;rw [look_link nb];by_cases h : 0 <= linkIx n.links s
  · rw [if_pos h, decide_eq_true h]; rfl
  · rw [if_neg h, decide_eq_false h]; rfl
theorem lkM_val {n : Net} (nb : netB n = true) {s : ByteArray} (h : 0 <= linkIx n.links s) : valS (lkM n) s = linkIx n.links s := by
  unfold valS lkM;rw [look_link nb, if_pos h];show ((linkIx n.links s).toNat : Int) = _;omega
section
variable {n : Net} {s : List Sect} {l : List Rule} {x : Sta} {inf : List Int} {sec : Int}
theorem sta_rang (nb : netB n = true) (sb : staB n x = true) : rangB x.set 1000 = true := by
  obtain ⟨h1, _, h3⟩ := staB_in nb sb;obtain ⟨_, _, l3, _⟩ := lensB_of h1;unfold rangB;rw [List.all_eq_true];intro i hi;have hi := List.mem_range.1 hi;have := h3 i (by omega);unfold okSL at this;simp only [Bool.and_eq_true] at this;exact this.1
theorem levelsL_len (n : Net) (vol : List Int) : (levelsL n vol).length = n.nodes.length := rng_len _ _
theorem stepC_eq (hv : (netB n && staB n x && catB s && rulesB l) = true) : stepC n s l x inf sec = if ¬ (setR n l (levelsL n x.vol) x.set).2 = 0 then (zeroS, zeroL, (setR n l (levelsL n x.vol) x.set).2) else stepR n s ⟨x.vol, x.pon, (setR n l (levelsL n x.vol) x.set).1, x.on⟩ inf sec := if_neg (by rw [hv]; decide)
theorem hv_of (h : (netB n && staB n x && catB s && rulesB l) = true) : netB n = true /\ staB n x = true /\ catB s = true /\ rulesB l = true := by
  simp only [Bool.and_eq_true] at h;exact ⟨h.1.1.1, h.1.1.2, h.1.2, h.2⟩
end

end Go.Proofs.YtgpllheklfbfhaaGreat
