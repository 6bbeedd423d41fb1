/-
  Contracts of functions of the program, over the engine.
  No condition.
-/
import Derived.Test.YtefkhfkapnmikaaGreatCN0N1NBNmT1T2T2eT3
import Derived.Test.YtefkhfkapnmikaaGreatCY16Y17
import Derived.Test.YtefkhfkapnmikaaGreatCL9L10L11L12L16L20RL25L27
import Derived.Test.YtefkhfkapnmikaaGreatCT8T9T9bT9cT9eT10T11
import Derived.Test.YtefkhfkapnmikaaGreatCY6T21L14Y7Y11Y9Y10Y12Y8Y14
import Derived.Test.YtefkhfkapnmikaaGreatCT5T6T6bT7T7bT7c
import Derived.Test.YtefkhfkapnmikaaGreatCT12T13T14T2IT16T15T18T20Y0Y5Y1
import Derived.Test.YtefkhfkapnmikaaGreatCL1L2L2cL2oL3L4L5
namespace Go.Proofs.YtefkhfkapnmikaaGreat
open Go.Eng
set_option linter.all false
attribute [local irreducible] DCallsG SWp Fct CallQ XCallQ LCallQ XLCallQ drun xrun
set_option maxHeartbeats 64000000
set_option maxRecDepth 20000

structure Infl where
  nod : ByteArray
  vols : List Int
instance : Inhabited Infl := ⟨⟨default, default⟩⟩
theorem infl_ext {x y : Infl} (h : x.nod = y.nod /\ x.vols = y.vols) : x = y := by
  cases x; cases y; simp_all
instance : DecidableEq Infl := fun x y => decidable_of_iff (x.nod = y.nod /\ x.vols = y.vols) ⟨infl_ext, fun h => by subst h; simp⟩
def inflP (x : Infl) : List PV := [.lit (.string x.nod), .dat 1 (x.vols.map inRow)]
def inflC (x : Infl) : List DV := [.p (.lit (.string x.nod)), .p (.dat 1 (x.vols.map inRow))]
abbrev inflD (x : Infl) : DV := .agg (inflC x)
abbrev inflL (l : List Infl) : DV := .p (.dat 2 (l.map inflP))
theorem inflP_map (x : Infl) : (inflP x).map DV.p = inflC x := rfl
theorem inflP_len (x : Infl) : (inflP x).length = 2 := rfl
theorem inflC_len (x : Infl) : (inflC x).length = 2 := rfl
theorem inflP_take (x : Infl) : (inflP x).take 2 = inflP x := rfl
theorem inflC_take (x : Infl) : (inflC x).take 2 = inflC x := rfl
theorem inflC_all (x : Infl) : (inflC x).all DV.cellB = true := rfl
theorem inflP_d0 (x : Infl) : (inflP x).getD 0 default = .lit (.string x.nod) := rfl
theorem inflC_d0 (x : Infl) : (inflC x)[0]? = some (.p (.lit (.string x.nod))) := rfl
theorem inflP_s0 (x : Infl) : (inflP x).take 1 = [.lit (.string x.nod)] := rfl
theorem inflC_s0 (x : Infl) : (inflC x).take 1 = [.p (.lit (.string x.nod))] := rfl
theorem inflP_d1 (x : Infl) : (inflP x).getD 1 default = .dat 1 (x.vols.map inRow) := rfl
theorem inflC_d1 (x : Infl) : (inflC x)[1]? = some (.p (.dat 1 (x.vols.map inRow))) := rfl
theorem inflP_s1 (x : Infl) : ((inflP x).drop 1).take 1 = [.dat 1 (x.vols.map inRow)] := rfl
theorem inflC_s1 (x : Infl) : ((inflC x).drop 1).take 1 = [.p (.dat 1 (x.vols.map inRow))] := rfl
theorem inflC_ren (o n : Nat) (x : Infl) : DV.renL o n (inflC x) = inflC x := rfl
theorem inflC_frz (o : Nat) (v : FV) (x : Infl) : DV.frzL o v (inflC x) = inflC x := rfl
theorem inflC_mp (r : Nat -> Nat) (x : Infl) : DV.mpL r (inflC x) = inflC x := rfl
theorem inflC_uses (U : Nat -> Prop) (x : Infl) : DV.usesL U (inflC x) = True := by simp [inflC, DV.usesL, DV.uses]
attribute [push_cast] inflP_map inflP_len inflC_len inflP_take inflC_take inflC_all inflP_d0 inflC_d0 inflP_s0 inflC_s0 inflP_d1 inflC_d1 inflP_s1 inflC_s1 inflC_ren inflC_frz inflC_mp inflC_uses
def inflOk (x : Infl) : Prop := x.nod.size <= 281474976710656 /\ intsOk x.vols
structure Cnd where
  nod : ByteArray
  below : Bool
  level : Int
instance : Inhabited Cnd := ⟨⟨default, default, default⟩⟩
theorem cnd_ext {x y : Cnd} (h : x.nod = y.nod /\ x.below = y.below /\ x.level = y.level) : x = y := by
  cases x; cases y; simp_all
instance : DecidableEq Cnd := fun x y => decidable_of_iff (x.nod = y.nod /\ x.below = y.below /\ x.level = y.level) ⟨cnd_ext, fun h => by subst h; simp⟩
def cndP (x : Cnd) : List PV := [.lit (.string x.nod), .lit (.bool x.below), .lit (.int .i64 x.level)]
def cndC (x : Cnd) : List DV := [.p (.lit (.string x.nod)), .p (.lit (.bool x.below)), .p (.lit (.int .i64 x.level))]
abbrev cndD (x : Cnd) : DV := .agg (cndC x)
abbrev cndL (l : List Cnd) : DV := .p (.dat 3 (l.map cndP))
theorem cndP_map (x : Cnd) : (cndP x).map DV.p = cndC x := rfl
theorem cndP_len (x : Cnd) : (cndP x).length = 3 := rfl
theorem cndC_len (x : Cnd) : (cndC x).length = 3 := rfl
theorem cndP_take (x : Cnd) : (cndP x).take 3 = cndP x := rfl
theorem cndC_take (x : Cnd) : (cndC x).take 3 = cndC x := rfl
theorem cndC_all (x : Cnd) : (cndC x).all DV.cellB = true := rfl
theorem cndP_d0 (x : Cnd) : (cndP x).getD 0 default = .lit (.string x.nod) := rfl
theorem cndC_d0 (x : Cnd) : (cndC x)[0]? = some (.p (.lit (.string x.nod))) := rfl
theorem cndP_s0 (x : Cnd) : (cndP x).take 1 = [.lit (.string x.nod)] := rfl
theorem cndC_s0 (x : Cnd) : (cndC x).take 1 = [.p (.lit (.string x.nod))] := rfl
theorem cndP_d1 (x : Cnd) : (cndP x).getD 1 default = .lit (.bool x.below) := rfl
theorem cndC_d1 (x : Cnd) : (cndC x)[1]? = some (.p (.lit (.bool x.below))) := rfl
theorem cndP_s1 (x : Cnd) : ((cndP x).drop 1).take 1 = [.lit (.bool x.below)] := rfl
theorem cndC_s1 (x : Cnd) : ((cndC x).drop 1).take 1 = [.p (.lit (.bool x.below))] := rfl
theorem cndP_d2 (x : Cnd) : (cndP x).getD 2 default = .lit (.int .i64 x.level) := rfl
theorem cndC_d2 (x : Cnd) : (cndC x)[2]? = some (.p (.lit (.int .i64 x.level))) := rfl
theorem cndP_s2 (x : Cnd) : ((cndP x).drop 2).take 1 = [.lit (.int .i64 x.level)] := rfl
theorem cndC_s2 (x : Cnd) : ((cndC x).drop 2).take 1 = [.p (.lit (.int .i64 x.level))] := rfl
theorem cndC_ren (o n : Nat) (x : Cnd) : DV.renL o n (cndC x) = cndC x := rfl
theorem cndC_frz (o : Nat) (v : FV) (x : Cnd) : DV.frzL o v (cndC x) = cndC x := rfl
theorem cndC_mp (r : Nat -> Nat) (x : Cnd) : DV.mpL r (cndC x) = cndC x := rfl
theorem cndC_uses (U : Nat -> Prop) (x : Cnd) : DV.usesL U (cndC x) = True := by simp [cndC, DV.usesL, DV.uses]
attribute [push_cast] cndP_map cndP_len cndC_len cndP_take cndC_take cndC_all cndP_d0 cndC_d0 cndP_s0 cndC_s0 cndP_d1 cndC_d1 cndP_s1 cndC_s1 cndP_d2 cndC_d2 cndP_s2 cndC_s2 cndC_ren cndC_frz cndC_mp cndC_uses
def cndOk (x : Cnd) : Prop := x.nod.size <= 281474976710656 /\ i64ok x.level
structure Rule where
  name : ByteArray
  whn : List Cnd
  lnk : ByteArray
  setg : Int
instance : Inhabited Rule := ⟨⟨default, default, default, default⟩⟩
theorem rule_ext {x y : Rule} (h : x.name = y.name /\ x.whn = y.whn /\ x.lnk = y.lnk /\ x.setg = y.setg) : x = y := by
  cases x; cases y; simp_all
instance : DecidableEq Rule := fun x y => decidable_of_iff (x.name = y.name /\ x.whn = y.whn /\ x.lnk = y.lnk /\ x.setg = y.setg) ⟨rule_ext, fun h => by subst h; simp⟩
def ruleP (x : Rule) : List PV := [.lit (.string x.name), .dat 3 (x.whn.map cndP), .lit (.string x.lnk), .lit (.int .i64 x.setg)]
def ruleC (x : Rule) : List DV := [.p (.lit (.string x.name)), .p (.dat 3 (x.whn.map cndP)), .p (.lit (.string x.lnk)), .p (.lit (.int .i64 x.setg))]
abbrev ruleD (x : Rule) : DV := .agg (ruleC x)
abbrev ruleL (l : List Rule) : DV := .p (.dat 4 (l.map ruleP))
theorem ruleP_map (x : Rule) : (ruleP x).map DV.p = ruleC x := rfl
theorem ruleP_len (x : Rule) : (ruleP x).length = 4 := rfl
theorem ruleC_len (x : Rule) : (ruleC x).length = 4 := rfl
theorem ruleP_take (x : Rule) : (ruleP x).take 4 = ruleP x := rfl
theorem ruleC_take (x : Rule) : (ruleC x).take 4 = ruleC x := rfl
theorem ruleC_all (x : Rule) : (ruleC x).all DV.cellB = true := rfl
theorem ruleP_d0 (x : Rule) : (ruleP x).getD 0 default = .lit (.string x.name) := rfl
theorem ruleC_d0 (x : Rule) : (ruleC x)[0]? = some (.p (.lit (.string x.name))) := rfl
theorem ruleP_s0 (x : Rule) : (ruleP x).take 1 = [.lit (.string x.name)] := rfl
theorem ruleC_s0 (x : Rule) : (ruleC x).take 1 = [.p (.lit (.string x.name))] := rfl
theorem ruleP_d1 (x : Rule) : (ruleP x).getD 1 default = .dat 3 (x.whn.map cndP) := rfl
theorem ruleC_d1 (x : Rule) : (ruleC x)[1]? = some (.p (.dat 3 (x.whn.map cndP))) := rfl
theorem ruleP_s1 (x : Rule) : ((ruleP x).drop 1).take 1 = [.dat 3 (x.whn.map cndP)] := rfl
theorem ruleC_s1 (x : Rule) : ((ruleC x).drop 1).take 1 = [.p (.dat 3 (x.whn.map cndP))] := rfl
theorem ruleP_d2 (x : Rule) : (ruleP x).getD 2 default = .lit (.string x.lnk) := rfl
theorem ruleC_d2 (x : Rule) : (ruleC x)[2]? = some (.p (.lit (.string x.lnk))) := rfl
theorem ruleP_s2 (x : Rule) : ((ruleP x).drop 2).take 1 = [.lit (.string x.lnk)] := rfl
theorem ruleC_s2 (x : Rule) : ((ruleC x).drop 2).take 1 = [.p (.lit (.string x.lnk))] := rfl
theorem ruleP_d3 (x : Rule) : (ruleP x).getD 3 default = .lit (.int .i64 x.setg) := rfl
theorem ruleC_d3 (x : Rule) : (ruleC x)[3]? = some (.p (.lit (.int .i64 x.setg))) := rfl
theorem ruleP_s3 (x : Rule) : ((ruleP x).drop 3).take 1 = [.lit (.int .i64 x.setg)] := rfl
theorem ruleC_s3 (x : Rule) : ((ruleC x).drop 3).take 1 = [.p (.lit (.int .i64 x.setg))] := rfl
theorem ruleC_ren (o n : Nat) (x : Rule) : DV.renL o n (ruleC x) = ruleC x := rfl
theorem ruleC_frz (o : Nat) (v : FV) (x : Rule) : DV.frzL o v (ruleC x) = ruleC x := rfl
theorem ruleC_mp (r : Nat -> Nat) (x : Rule) : DV.mpL r (ruleC x) = ruleC x := rfl
theorem ruleC_uses (U : Nat -> Prop) (x : Rule) : DV.usesL U (ruleC x) = True := by simp [ruleC, DV.usesL, DV.uses]
attribute [push_cast] ruleP_map ruleP_len ruleC_len ruleP_take ruleC_take ruleC_all ruleP_d0 ruleC_d0 ruleP_s0 ruleC_s0 ruleP_d1 ruleC_d1 ruleP_s1 ruleC_s1 ruleP_d2 ruleC_d2 ruleP_s2 ruleC_s2 ruleP_d3 ruleC_d3 ruleP_s3 ruleC_s3 ruleC_ren ruleC_frz ruleC_mp ruleC_uses
def ruleOk (x : Rule) : Prop := x.name.size <= 281474976710656 /\ (x.whn.length <= 281474976710656 /\ ∀ y, y ∈ x.whn -> cndOk y) /\ x.lnk.size <= 281474976710656 /\ i64ok x.setg
def rightI (x : Infl) : Bool := nameB x.nod && decide (x.vols.length <= 10000) && x.vols.all (fun v => btwB v 0 1125899906842624)
def hasB (l : List ByteArray) (s : ByteArray) : Bool := l.any fun y => decide (y = s)
def dupB (l : List ByteArray) : Bool := (List.range l.length).any fun i => hasB (l.take i) (l.getD i default)
def givenN (infl : List Infl) (names : List ByteArray) : Int :=
  if 1000 < infl.length ∨ 1000 < names.length then 4
  else if (infl.any fun x => !rightI x) = true then 1
  else if dupB names = true then 10
  else if (infl.any fun x => !hasB names x.nod) = true then 9 else 0
def volAt (s : ByteArray) (k : Nat) (x : Infl) : Int := if x.nod = s /\ k < x.vols.length then x.vols.getD k default else 0
def sumAt (l : List Infl) (s : ByteArray) (k : Nat) : Int := (l.map (volAt s k)).sum
def atL (l : List Infl) (names : List ByteArray) (k : Nat) : List Int := names.map fun s => sumAt l s k
def atB (l : List Infl) (names : List ByteArray) (k : Nat) : Bool := (atL l names k).all fun v => decide (v <= 1125899906842624)
theorem hasB_mem {l : List ByteArray} {s : ByteArray} : hasB l s = true ↔ s ∈ l := by
  unfold hasB;rw [List.any_eq_true];constructor
  · rintro ⟨y, hy, e⟩;rw [<- of_decide_eq_true e]; exact hy
  · exact fun h => ⟨s, h, decide_eq_true rfl⟩
def stpI (n : Net) (l : List Sect) (infl : List Infl) (names : List ByteArray) (sec : Int) (k : Nat) (s : Sta) : Sta × Ledg × Int := if atB infl names k = true then stepR n l s (atL infl names k) sec else (zeroS, zeroL, 5)
structure Run where
  now : Sta
  ss : List Sta
  gs : List Ledg
  e : Int
def runI (n : Net) (l : List Sect) (infl : List Infl) (names : List ByteArray) (sec : Int) (s : Sta) : Nat -> Run
  | 0 => ⟨s, [], [], 0⟩
  | k + 1 => if (runI n l infl names sec s k).e = 0 then
      (if (stpI n l infl names sec k (runI n l infl names sec s k).now).2.2 = 0 then ⟨(stpI n l infl names sec k (runI n l infl names sec s k).now).1, (runI n l infl names sec s k).ss ++ [(stpI n l infl names sec k (runI n l infl names sec s k).now).1], (runI n l infl names sec s k).gs ++ [(stpI n l infl names sec k (runI n l infl names sec s k).now).2.1], 0⟩
       else ⟨(runI n l infl names sec s k).now, [], [], (stpI n l infl names sec k (runI n l infl names sec s k).now).2.2⟩)
    else ⟨(runI n l infl names sec s k).now, [], [], (runI n l infl names sec s k).e⟩
def namesL (n : Net) : List ByteArray := n.nodes.map Node.name
def runR (n : Net) (l : List Sect) (s : Sta) (infl : List Infl) (sec steps : Int) : List Sta × List Ledg × Int :=
  if (netB n && staB n s && catB l) = false then ([], [], 1)
  else if ¬ givenN infl (namesL n) = 0 then ([], [], givenN infl (namesL n))
  else if steps < 0 ∨ 10000 < steps ∨ sec < 1 ∨ 86400 < sec then ([], [], 2)
  else ((runI n l infl (namesL n) sec s steps.toNat).ss, (runI n l infl (namesL n) sec s steps.toNat).gs, (runI n l infl (namesL n) sec s steps.toNat).e)
section
variable {n : Net} {l : List Sect} {infl : List Infl} {names : List ByteArray} {sec : Int} {s : Sta}
end
def cutI (i : Nat) (x : Infl) : Infl := ⟨x.nod, x.vols.drop (min i x.vols.length)⟩
section
variable {n : Net} {l : List Sect} {infl : List Infl} {names : List ByteArray} {sec : Int} {s : Sta}
end
section
variable {n : Net} {l : List Sect} {names : List ByteArray} {sec : Int} {s : Sta}
end
theorem pvL_p : ∀ l : List PV, pvL (l.map DV.p) = some l
  | [] => rfl
  | x :: l => by rw [List.map_cons, pvL, pvL_p l]; rfl
theorem vkey_s (s t : ByteArray) : vkey (.string s) (.string t) = decide (s = t) := rfl
def setS (l : List ByteArray) : List (Value × DV) := l.map fun s => (.string s, lb true)
def mapS (l : List ByteArray) : PV := .map (l.map fun s => .string s) (l.map fun _ => .lit (.bool true))
def insS (l : List ByteArray) (s : ByteArray) : List ByteArray := if hasB l s = true then l else l ++ [s]
theorem setS_cons (x : ByteArray) (l : List ByteArray) : setS (x :: l) = (.string x, lb true) :: setS l := rfl
theorem hasB_cons (x : ByteArray) (l : List ByteArray) (s : ByteArray) : hasB (x :: l) s = (decide (x = s) || hasB l s) := rfl
theorem setS_find (s : ByteArray) : ∀ l : List ByteArray, mfind (setS l) (.string s) = if hasB l s = true then some (lb true) else none
  | [] => rfl
  | x :: l => by
    rw [setS_cons, mfind, vkey_s, setS_find s l, hasB_cons];by_cases h : s = x
    · subst h;rw [if_pos (decide_eq_true rfl), decide_eq_true rfl, Bool.true_or, if_pos rfl]
    · rw [if_neg (by simpa using h), decide_eq_false (fun e => h e.symm), Bool.false_or]
theorem setS_val (l : List ByteArray) (s : ByteArray) : (mfind (setS l) (.string s)).getD (.p (.lit (.bool false))) = lb (hasB l s) := by
  rw [setS_find];cases hasB l s <;> rfl
theorem setS_has (l : List ByteArray) (s : ByteArray) : (mfind (setS l) (.string s)).isSome = hasB l s := by
  rw [setS_find];cases hasB l s <;> rfl
theorem setS_set (s : ByteArray) : ∀ l : List ByteArray, mset (setS l) (.string s) (.p (.lit (.bool true))) = setS (insS l s)
  | [] => rfl
  | x :: l => by
    have ih := setS_set s l;unfold insS at ih ⊢;rw [setS_cons, mset, vkey_s, hasB_cons];by_cases h : s = x
    · subst h;rw [if_pos (decide_eq_true rfl), decide_eq_true rfl, Bool.true_or, if_pos rfl]; rfl
    · rw [if_neg (by simpa using h), decide_eq_false (fun e => h e.symm), Bool.false_or, ih];cases hasB l s <;> rfl
theorem setS_mem {l : List ByteArray} {e : Value × DV} (h : e ∈ setS l) : ∃ s, e = (.string s, lb true) := by
  obtain ⟨x, _, rfl⟩ := List.mem_map.1 h;exact ⟨_, rfl⟩
theorem setS_uses (U : Nat -> Prop) (l : List ByteArray) : DV.usesL U ((setS l).map (·.2)) = True :=
  propext ⟨fun _ => trivial, fun _ => usesL_iff.2 fun d hd => by
    obtain ⟨e, he, rfl⟩ := List.mem_map.1 hd;obtain ⟨s, rfl⟩ := setS_mem he;trivial⟩
theorem setS_mp (r : Nat -> Nat) (l : List ByteArray) : (setS l).map (fun e => (e.1, e.2.mp r)) = setS l := by
  unfold setS; rw [List.map_map]; exact List.map_congr_left fun z _ => rfl
theorem setS_ren (o n : Nat) (l : List ByteArray) : (setS l).map (fun e => (e.1, e.2.ren o n)) = setS l := by
  unfold setS; rw [List.map_map]; exact List.map_congr_left fun z _ => rfl
theorem setS_frz (o : Nat) (x : FV) (l : List ByteArray) : (setS l).map (fun e => (e.1, e.2.frz o x)) = setS l := by
  unfold setS; rw [List.map_map]; exact List.map_congr_left fun z _ => rfl
theorem setS_len (l : List ByteArray) : (setS l).length = l.length := List.length_map _
theorem setS_ok (l : List ByteArray) : keysOk .str (setS l) = True :=
  propext ⟨fun _ => trivial, fun _ e he => by
    obtain ⟨s, rfl⟩ := setS_mem he;rfl⟩
theorem mapS_pm (l : List ByteArray) : pmap (mapS l) = some (setS l) := by
  unfold mapS pmap setS;simp only [List.map_map];congr 1
  induction l with
  | nil => rfl
  | cons e l ih => simp only [List.map_cons, List.zip_cons_cons, ih]; rfl
attribute [push_cast] setS_val setS_has setS_set setS_uses setS_mp setS_ren setS_frz setS_len setS_ok mapS_pm
attribute [irreducible] setS mapS
def strE (l : List (ByteArray × Int)) : List (Value × DV) := l.map fun e => (.string e.1, li e.2)
def mapT (l : List (ByteArray × Int)) : PV := .map (l.map fun e => .string e.1) (l.map fun e => .lit (.int .i64 e.2))
def lookS : List (ByteArray × Int) -> ByteArray -> Option Int
  | [], _ => none
  | e :: l, s => if e.1 = s then some e.2 else lookS l s
def valS (l : List (ByteArray × Int)) (s : ByteArray) : Int := (lookS l s).getD 0
def knoS (l : List (ByteArray × Int)) (s : ByteArray) : Bool := (lookS l s).isSome
def putS : List (ByteArray × Int) -> ByteArray -> Int -> List (ByteArray × Int)
  | [], s, v => [(s, v)]
  | e :: l, s, v => if e.1 = s then (s, v) :: l else e :: putS l s v
theorem strE_cons (e : ByteArray × Int) (l : List (ByteArray × Int)) : strE (e :: l) = (.string e.1, li e.2) :: strE l := rfl
theorem strE_find (s : ByteArray) : ∀ l : List (ByteArray × Int), mfind (strE l) (.string s) = (lookS l s).map li
  | [] => rfl
  | e :: l => by
    rw [strE_cons, mfind, vkey_s, strE_find s l, lookS];by_cases h : s = e.1
    · rw [if_pos (decide_eq_true h), if_pos h.symm]; rfl
    · rw [if_neg (by simpa using h), if_neg (fun c => h c.symm)]
theorem strE_val (l : List (ByteArray × Int)) (s : ByteArray) : (mfind (strE l) (.string s)).getD (.p (.lit (.int .i64 0))) = li (valS l s) := by
  rw [strE_find]; unfold valS;cases lookS l s <;> rfl
theorem strE_has (l : List (ByteArray × Int)) (s : ByteArray) : (mfind (strE l) (.string s)).isSome = knoS l s := by
  rw [strE_find]; unfold knoS;cases lookS l s <;> rfl
theorem strE_set (s : ByteArray) (v : Int) : ∀ l : List (ByteArray × Int), mset (strE l) (.string s) (.p (.lit (.int .i64 v))) = strE (putS l s v)
  | [] => rfl
  | e :: l => by
    rw [strE_cons, mset, vkey_s, putS];by_cases h : s = e.1
    · rw [if_pos (decide_eq_true h), if_pos h.symm]; rfl
    · rw [if_neg (by simpa using h), if_neg (fun c => h c.symm), strE_set s v l]; rfl
theorem strE_mem {l : List (ByteArray × Int)} {e : Value × DV} (h : e ∈ strE l) : ∃ s v, e = (.string s, li v) := by
  obtain ⟨x, _, rfl⟩ := List.mem_map.1 h;exact ⟨_, _, rfl⟩
theorem strE_uses (U : Nat -> Prop) (l : List (ByteArray × Int)) : DV.usesL U ((strE l).map (·.2)) = True :=
  propext ⟨fun _ => trivial, fun _ => usesL_iff.2 fun d hd => by
    obtain ⟨e, he, rfl⟩ := List.mem_map.1 hd;obtain ⟨s, v, rfl⟩ := strE_mem he;trivial⟩
theorem strE_mp (r : Nat -> Nat) (l : List (ByteArray × Int)) : (strE l).map (fun e => (e.1, e.2.mp r)) = strE l := by
  unfold strE; rw [List.map_map]; exact List.map_congr_left fun z _ => rfl
theorem strE_ren (o n : Nat) (l : List (ByteArray × Int)) : (strE l).map (fun e => (e.1, e.2.ren o n)) = strE l := by
  unfold strE; rw [List.map_map]; exact List.map_congr_left fun z _ => rfl
theorem strE_frz (o : Nat) (x : FV) (l : List (ByteArray × Int)) : (strE l).map (fun e => (e.1, e.2.frz o x)) = strE l := by
  unfold strE; rw [List.map_map]; exact List.map_congr_left fun z _ => rfl
theorem strE_len (l : List (ByteArray × Int)) : (strE l).length = l.length := List.length_map _
theorem strE_ok (l : List (ByteArray × Int)) : keysOk .str (strE l) = True :=
  propext ⟨fun _ => trivial, fun _ e he => by
    obtain ⟨s, v, rfl⟩ := strE_mem he;rfl⟩
theorem strE_fv (l : List (ByteArray × Int)) : HV.fv (.map (strE l)) = some (.mp (l.map fun e => .string e.1) (l.map fun e => .lit (.int .i64 e.2))) := by
  have e1 : (strE l).map (·.2) = (l.map fun e => PV.lit (.int .i64 e.2)).map DV.p := by unfold strE; rw [List.map_map, List.map_map]; rfl
  have e2 : (strE l).map (·.1) = l.map fun e => (.string e.1 : Value) := by unfold strE; rw [List.map_map]; rfl
  simp only [HV.fv];rw [e1, e2, pvL_p]; rfl
theorem mapT_eq (l : List (ByteArray × Int)) : PV.map (l.map fun e => .string e.1) (l.map fun e => .lit (.int .i64 e.2)) = mapT l := rfl
theorem mapT_pm (l : List (ByteArray × Int)) : pmap (mapT l) = some (strE l) := by
  unfold mapT pmap strE;simp only [List.map_map];congr 1
  induction l with
  | nil => rfl
  | cons e l ih => simp only [List.map_cons, List.zip_cons_cons, ih]; rfl
attribute [push_cast] strE_val strE_has strE_set strE_uses strE_mp strE_ren strE_frz strE_len strE_ok mapT_pm
attribute [irreducible] strE mapT
def ixL (l : List ByteArray) (f : Nat -> Int) (i : Nat) : List (ByteArray × Int) := (List.range i).map fun j => (l.getD j default, f j)
theorem look_snoc (s : ByteArray) (e : ByteArray × Int) : ∀ l : List (ByteArray × Int), lookS (l ++ [e]) s = (lookS l s).or (if e.1 = s then some e.2 else none)
  | [] => rfl
  | x :: l => by
    rw [List.cons_append, lookS, lookS, look_snoc s e l];by_cases h : x.1 = s
    · rw [if_pos h, if_pos h]; rfl
    · rw [if_neg h, if_neg h]
theorem put_snoc (s : ByteArray) (v : Int) : ∀ l : List (ByteArray × Int), lookS l s = none -> putS l s v = l ++ [(s, v)]
  | [], _ => rfl
  | x :: l, h => by
    rw [lookS] at h;by_cases e : x.1 = s
    · rw [if_pos e] at h; cases h
    · rw [if_neg e] at h;rw [putS, if_neg e, put_snoc s v l h]; rfl
theorem ixL_suc (l : List ByteArray) (f : Nat -> Int) (i : Nat) : ixL l f (i + 1) = ixL l f i ++ [(l.getD i default, f i)] := by
  unfold ixL; rw [List.range_succ, List.map_append]; rfl
theorem ixL_none {l : List ByteArray} {f : Nat -> Int} {s : ByteArray} : ∀ i, (∀ j, j < i -> l.getD j default ≠ s) -> lookS (ixL l f i) s = none
  | 0, _ => rfl
  | i + 1, h => by
    rw [ixL_suc, look_snoc, ixL_none i fun j hj => h j (by omega), if_neg (h i (by omega))]; rfl
theorem ixL_some {l : List ByteArray} {f : Nat -> Int} {q : Nat} : ∀ i, q < i -> (∀ j, j < i -> l.getD j default = l.getD q default -> j = q) -> lookS (ixL l f i) (l.getD q default) = some (f q)
  | 0, h, _ => by omega
  | i + 1, h, hu => by
    rw [ixL_suc, look_snoc];by_cases e : q = i
    · subst e;rw [ixL_none q fun j hj c => by have := hu j (by omega) c; omega, if_pos rfl]; rfl
    · rw [ixL_some i (by omega) fun j hj => hu j (by omega)]; rfl
theorem ixL_put {l : List ByteArray} {f : Nat -> Int} {i : Nat} (h : ∀ j, j < i -> l.getD j default ≠ l.getD i default) : putS (ixL l f i) (l.getD i default) (f i) = ixL l f (i + 1) := by
  rw [put_snoc _ _ _ (ixL_none i h), ixL_suc]
class ValAt (l : List (ByteArray × Int)) (s : ByteArray) (v : outParam Int) : Prop where
  h : valS l s = v
theorem valS_at {l : List (ByteArray × Int)} {s : ByteArray} {v : Int} [h : ValAt l s v] : valS l s = v := h.h
theorem hasB_f (l : List ByteArray) (s : ByteArray) [h : Nonempty (hasB l s = false)] : hasB l s = false := h.elim id
theorem hasB_t (l : List ByteArray) (s : ByteArray) [h : Nonempty (hasB l s = true)] : hasB l s = true := h.elim id
attribute [push_cast] valS_at hasB_f hasB_t
theorem idxInfl_f (g : FuncId) (p : Infl -> Bool) (l : List (Infl)) (m : Nat) (hl : l.length <= 281474976710656) (hg : ∀ x, x ∈ l -> ∀ m, Pu g [inflD x] m (lb (p x))) :
    Pu 131 [inflL l, .clo g []] m (li (idxI p l)) := by
  refine pcN 19 [.tmp 4] [3] Tryz.func131 rfl [] ?_;(repeat' first|refine stW [0,1,4,5,7,8,9,16] ?_|refine fctI fun hf=>?_|refine twI (fun hc=>?_) fun hc=>?_);refine loop_swp [0, 1, 7, 8] [] 0 (fun q A H => ∃ i : Nat, i <= l.length /\ q = l.length - i /\ (l.take i).any p = false /\ A = [(0, inflL l), (1, .clo g []), (7, li l.length), (8, li i)] /\ H = []) (by omega) ?_ ?_ ?_
  · rintro q A H ⟨i, h1, h2, h3, rfl, rfl⟩;exact SDD
  · refine ⟨_, 0, by omega, rfl, rfl, ?_, ?_⟩
    · exact DVR
    · exact DVR
  · rintro q A H ⟨i, h1, h2, h3, rfl, rfl⟩;(repeat' first|refine stW [0,1,4,5,7,8,9,16] ?_|(show CallQ ..;first|refine cQ (fun hcc=>(hg _ (getD_mem SC) _)) ?_|(refine lP ?_;refine lQ (fun hcc m=>(hg _ (getD_mem SC) _)) ?_))|refine fctI fun hf=>?_|refine twI (fun hc=>?_) fun hc=>?_)
    · (refine DVQ ?_);rw [idxI_hit h3 (by omega) (by assumption)]
    · (refine lN [] ?_);exact ⟨_, by omega, i + 1, by omega, rfl, any_step h3 (by omega) (by assumption), rfl, rfl⟩
    · (refine DVQ ?_);rw [List.take_of_length_le (by omega)] at h3;rw [idxI_none h3]
theorem conInfl_f (g : FuncId) (p : Infl -> Bool) (l : List (Infl)) (m : Nat) (hl : l.length <= 281474976710656) (hg : ∀ x, x ∈ l -> ∀ m, Pu g [inflD x] m (lb (p x))) :
    Pu 72 [inflL l, .clo g []] m (lb (l.any p)) := by
  refine pcN 9 [.tmp 4] [4] Tryz.func72 rfl [] ?_;(repeat' first|refine stW [0,1,4] ?_|(show CallQ ..;first|refine cQ (fun hcc=>(idxInfl_f g p l _ hl hg)) ?_|(refine lP ?_;refine lQ (fun hcc m=>(idxInfl_f g p l _ hl hg)) ?_))|refine fctI fun hf=>?_|refine twI (fun hc=>?_) fun hc=>?_);(refine DVQ ?_);rw [idxI_any]
theorem not_all {α : Type} (p : α -> Bool) (l : List α) : (!l.any fun x => !p x) = l.all p := by
  induction l with
  | nil => rfl
  | cons x l ih => rw [List.any_cons, List.all_cons, <- ih]; cases p x <;> simp
theorem any_no {α : Type} [Inhabited α] {p : α -> Bool} {l : List α} (h : ∀ j, j < l.length -> p (l.getD j default) = false) : l.any p = false := by
  rw [List.any_eq_false];intro v hv;obtain ⟨j, hj, rfl⟩ := List.mem_iff_getElem.1 hv;have := h j hj;rw [List.getD_eq_getElem?_getD, List.getElem?_eq_getElem hj] at this;rw [show p l[j] = false from this]; decide
theorem any_yes {α : Type} [Inhabited α] {p : α -> Bool} {l : List α} {j : Nat} (hj : j < l.length) (h : p (l.getD j default) = true) : l.any p = true := List.any_eq_true.2 ⟨_, getD_mem hj, h⟩
theorem hasB_suc {l : List ByteArray} {s : ByteArray} {i : Nat} (h : i < l.length) : hasB (l.take (i + 1)) s = (hasB (l.take i) s || decide (l.getD i default = s)) := by
  unfold hasB;rw [List.take_succ_eq_append_getElem h, List.any_append, List.getD_eq_getElem?_getD, List.getElem?_eq_getElem h];simp
theorem staC_nrm (x : Sta) : normL [some 1, some 1, some 1, some 1] (staC x) = staC x := rfl
theorem staC_cells (x : Sta) : CellsB (staC x) = True := by
  refine propext ⟨fun _ => trivial, fun _ d hd => ?_⟩;simp only [staC, List.mem_cons, List.not_mem_nil, or_false] at hd;rcases hd with rfl | rfl | rfl | rfl <;> rfl
theorem ledgC_cells (x : Ledg) : CellsB (ledgC x) = True := by
  refine propext ⟨fun _ => trivial, fun _ d hd => ?_⟩;simp only [ledgC, List.mem_cons, List.not_mem_nil, or_false] at hd;rcases hd with rfl | rfl | rfl <;> rfl
theorem rows_staC (l : List Sta) (x : Sta) : rows staP l ++ [staC x] = rows staP (l ++ [x]) := rows_app staP l [x]
theorem rows_ledgC (l : List Ledg) (x : Ledg) : rows ledgP l ++ [ledgC x] = rows ledgP (l ++ [x]) := rows_app ledgP l [x]
theorem staC_app4 (x y : Sta) : staC x ++ List.drop 4 (staC y) = staC x := rfl
theorem staC_rn (o n : Nat) (x : Sta) : DV.renL o n (staC x) = staC x := rfl
theorem ledgC_rn (o n : Nat) (x : Ledg) : DV.renL o n (ledgC x) = ledgC x := rfl
attribute [push_cast] staC_nrm staC_cells ledgC_cells rows_staC rows_ledgC staC_app4 staC_rn ledgC_rn
theorem stepR_ok {n : Net} {l : List Sect} {s : Sta} {inf : List Int} {sec : Int} (no : netOk n) (co : catOk l) (h : stepE n l s inf sec = 0) : staB n (stepR n l s inf sec).1 = true /\ netB n = true := by
  obtain ⟨S, hf, hg⟩ := stepE_0 no co h;rw [stepR_good h];exact ⟨S.fin hf hg, S.nb⟩
theorem lenOk_of {n : Net} {s : Sta} (nb : netB n = true) (sb : staB n s = true) : lenOk s := (sta_hold nb sb).2.1
theorem namesL_len (n : Net) : (namesL n).length = n.nodes.length := List.length_map ..
theorem namesL_at (n : Net) {i : Nat} (h : i < n.nodes.length) : (namesL n).getD i default = (n.nodes.getD i default).name := by
  unfold namesL;rw [List.getD_eq_getElem?_getD, List.getElem?_map, List.getElem?_eq_getElem h, List.getD_eq_getElem?_getD, List.getElem?_eq_getElem h]; rfl
theorem namesL_take (n : Net) {i : Nat} (h : i < n.nodes.length) : (namesL n).take (i + 1) = (namesL n).take i ++ [(n.nodes.getD i default).name] := by
  have h2 : i < (namesL n).length := by rw [namesL_len]; exact h
  rw [List.take_succ_eq_append_getElem h2, <- namesL_at n h, List.getD_eq_getElem?_getD, List.getElem?_eq_getElem h2]; rfl
abbrev staLt (l : List Sta) : HV := .lst 31 4 (rows staP l)
abbrev ledgLt (l : List Ledg) : HV := .lst 38 3 (rows ledgP l)
theorem stepR_pas {n : Net} {l : List Sect} {s : Sta} {inf : List Int} {sec : Int} : (stepR n l s inf sec).2.1.passed.length = n.links.length ∨ (stepR n l s inf sec).2.1.passed.length = 0 := by
  unfold stepR;split
  · exact .inl (limR_len ..)
  · exact .inr rfl
section
variable {n : Net} {ss : List Sta} {i : Nat}
end
theorem sta_vol {n : Net} {s : Sta} (nb : netB n = true) (sb : staB n s = true) : s.vol.length = n.nodes.length /\ ∀ i, i < n.nodes.length -> 0 <= s.vol.getD i default /\ s.vol.getD i default <= 1125899906842624 := by
  obtain ⟨h1, h2, _⟩ := staB_in nb sb;refine ⟨(lensB_of h1).1, fun i hi => ?_⟩;have h := h2 i hi;have hc := capN_in nb hi;unfold okSN at h;simp only [Bool.and_eq_true] at h;have := btwB_in h.1.1;omega
theorem eqfSta_f (g : FuncId) (a b : List Sta) (m : Nat) (ha : a.length <= 281474976710656) (hb : b.length <= 281474976710656) (hg : ∀ x, x ∈ a -> ∀ y, y ∈ b -> ∀ m, Pu g [staD x, staD y] m (lb (decide (x = y)))) :
    Pu 22 [staL a, staL b, .clo g []] m (lb (decide (a = b))) := by
  by_cases hn : (a.length : Int) = (b.length : Int)
  case neg =>
    have hne : ¬ a = b := fun e => hn (by rw [e])
    rw [decide_eq_false hne];(have:=NeI hn);refine pcN 32 [.tmp 6] [4] Tryz.func22 rfl [] ?_;(repeat' first|refine stW [0,1,2,6,7,8,9,14,15,16,17,18,30] ?_|refine fctI fun hf=>?_|refine twI (fun hc=>?_) fun hc=>?_);exact DVR
  (have:=NeI hn);refine pcN 32 [.tmp 6] [4] Tryz.func22 rfl [] ?_;(repeat' first|refine stW [0,1,2,6,7,8,9,14,15,16,17,18,30] ?_|refine fctI fun hf=>?_|refine twI (fun hc=>?_) fun hc=>?_);refine loop_swp [1, 2, 15, 16, 17] [] 0 (fun q A H => ∃ i : Nat, i <= a.length /\ q = a.length - i /\ a.take i = b.take i /\ A = [(1, staL b), (2, .clo g []), (15, staL a), (16, li a.length), (17, li i)] /\ H = []) (by omega) ?_ ?_ ?_
  · rintro q A H ⟨i, g1, g2, g3, rfl, rfl⟩;exact SDD
  · refine ⟨_, 0, by omega, rfl, rfl, ?_, ?_⟩
    · exact DVR
    · exact DVR
  rintro q A H ⟨i, g1, g2, g3, rfl, rfl⟩;by_cases hi : i < a.length
  · have hi3 : (i : Int) < (a.length : Int) := by omega
    have hi4 : i < b.length := by omega
    have hi5 : (i : Int) < (b.length : Int) := by omega
    have cg := fun m => hg _ (getD_mem hi) _ (getD_mem hi4) m
    (have:=NeI hi);(have:=NeI hi3);(have:=NeI hi4);(have:=NeI hi5);clear hg;by_cases he : a.getD i default = b.getD i default
    · rw [decide_eq_true he] at cg;(repeat' first|refine stW [0,1,2,6,7,8,9,14,15,16,17,18,30] ?_|refine fctI fun hf=>?_|refine twI (fun hc=>?_) fun hc=>?_);(refine lN [] ?_);exact ⟨_, by omega, i + 1, by omega, rfl, take_next g3 (by omega) (by omega) he, rfl, rfl⟩
    · rw [decide_eq_false he] at cg;rw [decide_eq_false (fun e => he (by rw [e]))];clear he;(repeat' first|refine stW [0,1,2,6,7,8,9,14,15,16,17,18,30] ?_|refine fctI fun hf=>?_|refine twI (fun hc=>?_) fun hc=>?_);exact DVR
  obtain rfl : i = a.length := by omega
  have hi3 : ¬ ((a.length : Int) < (a.length : Int)) := by omega
  have hab : a = b := by
    have h4 := g3;rw [List.take_length, List.take_of_length_le (by omega)] at h4;exact h4
  rw [decide_eq_true hab];(have:=NeI hi3);clear hg g3 hab;(repeat' first|refine stW [0,1,2,6,7,8,9,14,15,16,17,18,30] ?_|refine fctI fun hf=>?_|refine twI (fun hc=>?_) fun hc=>?_);exact DVR
theorem eqfLedg_f (g : FuncId) (a b : List Ledg) (m : Nat) (ha : a.length <= 281474976710656) (hb : b.length <= 281474976710656) (hg : ∀ x, x ∈ a -> ∀ y, y ∈ b -> ∀ m, Pu g [ledgD x, ledgD y] m (lb (decide (x = y)))) :
    Pu 23 [ledgL a, ledgL b, .clo g []] m (lb (decide (a = b))) := by
  by_cases hn : (a.length : Int) = (b.length : Int)
  case neg =>
    have hne : ¬ a = b := fun e => hn (by rw [e])
    rw [decide_eq_false hne];(have:=NeI hn);refine pcN 32 [.tmp 6] [4] Tryz.func23 rfl [] ?_;(repeat' first|refine stW [0,1,2,6,7,8,9,14,15,16,17,18,30] ?_|refine fctI fun hf=>?_|refine twI (fun hc=>?_) fun hc=>?_);exact DVR
  (have:=NeI hn);refine pcN 32 [.tmp 6] [4] Tryz.func23 rfl [] ?_;(repeat' first|refine stW [0,1,2,6,7,8,9,14,15,16,17,18,30] ?_|refine fctI fun hf=>?_|refine twI (fun hc=>?_) fun hc=>?_);refine loop_swp [1, 2, 15, 16, 17] [] 0 (fun q A H => ∃ i : Nat, i <= a.length /\ q = a.length - i /\ a.take i = b.take i /\ A = [(1, ledgL b), (2, .clo g []), (15, ledgL a), (16, li a.length), (17, li i)] /\ H = []) (by omega) ?_ ?_ ?_
  · rintro q A H ⟨i, g1, g2, g3, rfl, rfl⟩;exact SDD
  · refine ⟨_, 0, by omega, rfl, rfl, ?_, ?_⟩
    · exact DVR
    · exact DVR
  rintro q A H ⟨i, g1, g2, g3, rfl, rfl⟩;by_cases hi : i < a.length
  · have hi3 : (i : Int) < (a.length : Int) := by omega
    have hi4 : i < b.length := by omega
    have hi5 : (i : Int) < (b.length : Int) := by omega
    have cg := fun m => hg _ (getD_mem hi) _ (getD_mem hi4) m
    (have:=NeI hi);(have:=NeI hi3);(have:=NeI hi4);(have:=NeI hi5);clear hg;by_cases he : a.getD i default = b.getD i default
    · rw [decide_eq_true he] at cg;(repeat' first|refine stW [0,1,2,6,7,8,9,14,15,16,17,18,30] ?_|refine fctI fun hf=>?_|refine twI (fun hc=>?_) fun hc=>?_);(refine lN [] ?_);exact ⟨_, by omega, i + 1, by omega, rfl, take_next g3 (by omega) (by omega) he, rfl, rfl⟩
    · rw [decide_eq_false he] at cg;rw [decide_eq_false (fun e => he (by rw [e]))];clear he;(repeat' first|refine stW [0,1,2,6,7,8,9,14,15,16,17,18,30] ?_|refine fctI fun hf=>?_|refine twI (fun hc=>?_) fun hc=>?_);exact DVR
  obtain rfl : i = a.length := by omega
  have hi3 : ¬ ((a.length : Int) < (a.length : Int)) := by omega
  have hab : a = b := by
    have h4 := g3;rw [List.take_length, List.take_of_length_le (by omega)] at h4;exact h4
  rw [decide_eq_true hab];(have:=NeI hi3);clear hg g3 hab;(repeat' first|refine stW [0,1,2,6,7,8,9,14,15,16,17,18,30] ?_|refine fctI fun hf=>?_|refine twI (fun hc=>?_) fun hc=>?_);exact DVR
section
variable {n : Net} {l : List Sect} {infl : List Infl} {names : List ByteArray} {sec : Int} {s : Sta}
structure TwoRuns (n : Net) (l : List Sect) (s : Sta) (infl : List Infl) (sec : Int) (i k : Nat) (A B : List Sta × List Ledg × Int) : Prop where
  bad : ¬ A.2.2 = 0 -> A.1 = [] /\ (B.2.2 = 0 ∨ B.2.2 = A.2.2)
  e : A.2.2 = 0 -> B.2.2 = 0
  la : A.2.2 = 0 -> A.1.length = i + k /\ A.2.1.length = i + k /\ B.1.length = i /\ B.2.1.length = i
  t1 : A.2.2 = 0 -> A.1.take i = B.1 /\ A.2.1.take i = B.2.1
  mid : A.2.2 = 0 -> ∀ mid, mid = (if 0 < i then B.1.getD (i - 1) default else s) -> staOk mid /\ runR n l mid (infl.map (cutI i)) sec (k : Int) = (A.1.drop i, A.2.1.drop i, 0)
end
theorem netC_nrm (x : Net) : normL [some 9, some 11] (netC x) = netC x := rfl
attribute [push_cast] netC_nrm
attribute [local irreducible] PT
theorem pt_infl {n : Nat} {xs : List PV} (h : PT Tryz.prog (n + 3) 71 xs) : ∃ x : Infl, xs = inflP x /\ inflOk x := by
  replace h := PT_struct (P := Tryz.prog) (t := 71) Tryz.underlying71 h
  obtain ⟨_, _, rfl, h0, _, _, rfl, h1, rfl⟩ := h;obtain ⟨a0, rfl, k0⟩ := pt_str h0;obtain ⟨a1, rfl, k1⟩ := pt_ints h1;exact ⟨⟨a0, a1⟩, rfl, ⟨k0, k1⟩⟩
theorem cells_infls : Tryz.prog.cellsOf 71 = 2 := by kernel_rfl
theorem bytes_infls : 0 < Tryz.prog.bytesOf 71 := by rw [show Tryz.prog.bytesOf 71 = 40 from by kernel_rfl]; decide
theorem pt_infls {n : Nat} {xs : List PV} (h : PT Tryz.prog (n + 4) 59 xs) : ∃ l : List Infl, xs = [.dat 2 (l.map inflP)] /\ l.length <= 281474976710656 /\ ∀ x, x ∈ l -> inflOk x := by
  obtain ⟨l, rfl, hl, hr⟩ := PT_slice (P := Tryz.prog) (t := 59) Tryz.underlying59 h;obtain ⟨zs, rfl, hz⟩ := exMap inflP inflOk l fun r hr2 => by
    obtain ⟨z, rfl, hz⟩ := pt_infl (hr r hr2);exact ⟨z, rfl, hz⟩
  rw [cells_infls];have := len_le bytes_infls hl;rw [List.length_map] at this;exact ⟨zs, rfl, this, hz⟩
theorem cells_stas : Tryz.prog.cellsOf 31 = 4 := by kernel_rfl
theorem bytes_stas : 0 < Tryz.prog.bytesOf 31 := by rw [show Tryz.prog.bytesOf 31 = 96 from by kernel_rfl]; decide
theorem pt_stas {n : Nat} {xs : List PV} (h : PT Tryz.prog (n + 4) 61 xs) : ∃ l : List Sta, xs = [.dat 4 (l.map staP)] /\ l.length <= 281474976710656 /\ ∀ x, x ∈ l -> staOk x := by
  obtain ⟨l, rfl, hl, hr⟩ := PT_slice (P := Tryz.prog) (t := 61) Tryz.underlying61 h;obtain ⟨zs, rfl, hz⟩ := exMap staP staOk l fun r hr2 => by
    obtain ⟨z, rfl, hz⟩ := pt_sta (hr r hr2);exact ⟨z, rfl, hz⟩
  rw [cells_stas];have := len_le bytes_stas hl;rw [List.length_map] at this;exact ⟨zs, rfl, this, hz⟩
theorem pt_cnd {n : Nat} {xs : List PV} (h : PT Tryz.prog (n + 2) 109 xs) : ∃ x : Cnd, xs = cndP x /\ cndOk x := by
  replace h := PT_struct (P := Tryz.prog) (t := 109) Tryz.underlying109 h
  obtain ⟨_, _, rfl, h0, _, _, rfl, h1, _, _, rfl, h2, rfl⟩ := h;obtain ⟨a0, rfl, k0⟩ := pt_str h0;obtain ⟨a1, rfl⟩ := pt_bool h1;obtain ⟨a2, rfl, k2⟩ := pt_int h2;exact ⟨⟨a0, a1, a2⟩, rfl, ⟨k0, k2⟩⟩
theorem cells_cnds : Tryz.prog.cellsOf 109 = 3 := by kernel_rfl
theorem bytes_cnds : 0 < Tryz.prog.bytesOf 109 := by rw [show Tryz.prog.bytesOf 109 = 32 from by kernel_rfl]; decide
theorem pt_cnds {n : Nat} {xs : List PV} (h : PT Tryz.prog (n + 3) 52 xs) : ∃ l : List Cnd, xs = [.dat 3 (l.map cndP)] /\ l.length <= 281474976710656 /\ ∀ x, x ∈ l -> cndOk x := by
  obtain ⟨l, rfl, hl, hr⟩ := PT_slice (P := Tryz.prog) (t := 52) Tryz.underlying52 h;obtain ⟨zs, rfl, hz⟩ := exMap cndP cndOk l fun r hr2 => by
    obtain ⟨z, rfl, hz⟩ := pt_cnd (hr r hr2);exact ⟨z, rfl, hz⟩
  rw [cells_cnds];have := len_le bytes_cnds hl;rw [List.length_map] at this;exact ⟨zs, rfl, this, hz⟩
theorem pt_rule {n : Nat} {xs : List PV} (h : PT Tryz.prog (n + 4) 54 xs) : ∃ x : Rule, xs = ruleP x /\ ruleOk x := by
  replace h := PT_struct (P := Tryz.prog) (t := 54) Tryz.underlying54 h
  obtain ⟨_, _, rfl, h0, _, _, rfl, h1, _, _, rfl, h2, _, _, rfl, h3, rfl⟩ := h;obtain ⟨a0, rfl, k0⟩ := pt_str h0;obtain ⟨a1, rfl, k1⟩ := pt_cnds h1;obtain ⟨a2, rfl, k2⟩ := pt_str h2;obtain ⟨a3, rfl, k3⟩ := pt_int h3;exact ⟨⟨a0, a1, a2, a3⟩, rfl, ⟨k0, k1, k2, k3⟩⟩
theorem cells_rules : Tryz.prog.cellsOf 54 = 4 := by kernel_rfl
theorem bytes_rules : 0 < Tryz.prog.bytesOf 54 := by rw [show Tryz.prog.bytesOf 54 = 64 from by kernel_rfl]; decide
theorem pt_rules {n : Nat} {xs : List PV} (h : PT Tryz.prog (n + 5) 27 xs) : ∃ l : List Rule, xs = [.dat 4 (l.map ruleP)] /\ l.length <= 281474976710656 /\ ∀ x, x ∈ l -> ruleOk x := by
  obtain ⟨l, rfl, hl, hr⟩ := PT_slice (P := Tryz.prog) (t := 27) Tryz.underlying27 h;obtain ⟨zs, rfl, hz⟩ := exMap ruleP ruleOk l fun r hr2 => by
    obtain ⟨z, rfl, hz⟩ := pt_rule (hr r hr2);exact ⟨z, rfl, hz⟩
  rw [cells_rules];have := len_le bytes_rules hl;rw [List.length_map] at this;exact ⟨zs, rfl, this, hz⟩
theorem dv_infls (x : List Infl) : dvT Tryz.prog 59 [.dat 2 (x.map inflP)] = inflL x := by unfold dvT; rw [Tryz.underlying59]; rfl
theorem dv_stas (x : List Sta) : dvT Tryz.prog 61 [.dat 4 (x.map staP)] = staL x := by unfold dvT; rw [Tryz.underlying61]; rfl
theorem dv_str (x : ByteArray) : dvT Tryz.prog 9 [.lit (.string x)] = ls x := by unfold dvT; rw [Tryz.underlying9]; rfl
def cndB (c : Cnd) : Bool := nameB c.nod && btwB c.level (-4194304) 4194304
def ruleB (r : Rule) : Bool := nameB r.name && nameB r.lnk && decide (r.whn.length <= 20) && btwB r.setg 0 1000 && r.whn.all cndB
def ruleNs (l : List Rule) : List ByteArray := l.map Rule.name
def rulesB (l : List Rule) : Bool := decide (l.length <= 60) && l.all ruleB && !dupB (ruleNs l)
theorem ruleNs_len (l : List Rule) : (ruleNs l).length = l.length := List.length_map ..
theorem ruleNs_at (l : List Rule) {i : Nat} (h : i < l.length) : (ruleNs l).getD i default = (l.getD i default).name := by
  unfold ruleNs;rw [List.getD_eq_getElem?_getD, List.getElem?_map, List.getElem?_eq_getElem h, List.getD_eq_getElem?_getD, List.getElem?_eq_getElem h]; rfl
theorem rules_hit {l : List Rule} {i : Nat} (hi : i < l.length) (h : ruleB (l.getD i default) = false ∨ hasB ((ruleNs l).take i) (l.getD i default).name = true) : (l.all ruleB && !dupB (ruleNs l)) = false := by
  rw [Bool.and_eq_false_iff];rcases h with h | h
  · exact .inl (List.all_eq_false.2 ⟨_, getD_mem hi, by rw [h]; decide⟩)
  · refine .inr ?_;have : dupB (ruleNs l) = true := List.any_eq_true.2 ⟨i, List.mem_range.2 (by rw [ruleNs_len]; exact hi), by rw [ruleNs_at l hi]; exact h⟩;rw [this]; rfl
theorem rules_all {l : List Rule} (h : ∀ j, j < l.length -> ruleB (l.getD j default) = true /\ hasB ((ruleNs l).take j) (l.getD j default).name = false) : (l.all ruleB && !dupB (ruleNs l)) = true := by
  rw [Bool.and_eq_true];constructor
  · rw [List.all_eq_true];intro r hr;obtain ⟨j, hj, rfl⟩ := List.mem_iff_getElem.1 hr;have := (h j hj).1;rw [List.getD_eq_getElem?_getD, List.getElem?_eq_getElem hj] at this;exact this
  · have : dupB (ruleNs l) = false := by
      unfold dupB;rw [List.any_eq_false];intro j hj;have hj2 : j < l.length := by have := List.mem_range.1 hj; rw [ruleNs_len] at this; exact this
      rw [ruleNs_at l hj2, (h j hj2).2]; decide
    rw [this]; rfl
def lvOf (n : Net) (lv : List Int) (s : ByteArray) : Int := lv.getD (nodeIx n.nodes s).toNat default
def cndH (v : Int) (c : Cnd) : Bool := decide (v < c.level) == c.below
def holdB (n : Net) (lv : List Int) (r : Rule) : Bool := r.whn.all fun c => cndH (lvOf n lv c.nod) c
def knownR (n : Net) (r : Rule) : Bool := decide (0 <= linkIx n.links r.lnk) && r.whn.all fun c => decide (0 <= nodeIx n.nodes c.nod)
def setK (n : Net) (lv : List Int) (l : List Rule) (before : List Int) : Nat -> Option (List Int × List Bool)
  | 0 => some (before, List.replicate n.links.length false)
  | i + 1 => match setK n lv l before i with
    | none => none
    | some (o, f) => if holdB n lv (l.getD i default) = true then
        (if f.getD (linkIx n.links (l.getD i default).lnk).toNat default = true /\ ¬ o.getD (linkIx n.links (l.getD i default).lnk).toNat default = (l.getD i default).setg then none
         else some (o.set (linkIx n.links (l.getD i default).lnk).toNat (l.getD i default).setg, f.set (linkIx n.links (l.getD i default).lnk).toNat true))
      else some (o, f)
def setR (n : Net) (l : List Rule) (lv before : List Int) : List Int × Int :=
  if ¬ lv.length = n.nodes.length ∨ ¬ before.length = n.links.length then ([], 3)
  else if rangB before 1000 = false then ([], 2)
  else if l.all (knownR n) = false then ([], 9)
  else match setK n lv l before l.length with
    | none => ([], 26)
    | some (o, _) => (o, 0)
section
variable {n : Net} {lv : List Int} {l : List Rule} {before : List Int}
theorem setK_len : ∀ {i : Nat} {o : List Int} {f : List Bool}, before.length = n.links.length -> setK n lv l before i = some (o, f) -> o.length = n.links.length /\ f.length = n.links.length
  | 0, o, f, hb, h => by
    cases h;exact ⟨hb, List.length_replicate ..⟩
  | i + 1, o, f, hb, h => by
    rw [setK] at h;cases e : setK n lv l before i with
    | none => rw [e] at h; cases h
    | some p =>
      obtain ⟨o1, f1⟩ := p;rw [e] at h;have ih := setK_len hb e;simp only at h;split at h
      · split at h
        · cases h
        · cases h;rw [List.length_set, List.length_set]; exact ih
      · cases h; exact ih
theorem setK_none {i : Nat} (h : setK n lv l before i = none) : ∀ j, setK n lv l before (i + j) = none
  | 0 => h
  | j + 1 => by
    rw [<- Nat.add_assoc, setK, setK_none h j]
theorem setK_skip {i : Nat} {o : List Int} {f : List Bool} (h : setK n lv l before i = some (o, f)) (hh : holdB n lv (l.getD i default) = false) : setK n lv l before (i + 1) = some (o, f) := by
  rw [setK, h];simp only [hh]; rfl
theorem setK_bad {i : Nat} {o : List Int} {f : List Bool} (h : setK n lv l before i = some (o, f)) (hh : holdB n lv (l.getD i default) = true) (h1 : f.getD (linkIx n.links (l.getD i default).lnk).toNat default = true) (h2 : ¬ o.getD (linkIx n.links (l.getD i default).lnk).toNat default = (l.getD i default).setg) : setK n lv l before (i + 1) = none := by
  rw [setK, h];simp only;rw [if_pos hh, if_pos ⟨h1, h2⟩]
theorem setK_set {i : Nat} {o : List Int} {f : List Bool} (h : setK n lv l before i = some (o, f)) (hh : holdB n lv (l.getD i default) = true) (h1 : ¬ (f.getD (linkIx n.links (l.getD i default).lnk).toNat default = true /\ ¬ o.getD (linkIx n.links (l.getD i default).lnk).toNat default = (l.getD i default).setg)) : setK n lv l before (i + 1) = some (o.set (linkIx n.links (l.getD i default).lnk).toNat (l.getD i default).setg, f.set (linkIx n.links (l.getD i default).lnk).toNat true) := by
  rw [setK, h];simp only;rw [if_pos hh, if_neg h1]
def wantI (n : Net) (lv : List Int) (l : List Rule) (before : List Int) (k : Nat) : Nat -> Int
  | 0 => before.getD k default
  | i + 1 => if (l.getD i default).lnk = (n.links.getD k default).name /\ holdB n lv (l.getD i default) = true then (l.getD i default).setg else wantI n lv l before k i
theorem lidx_eq (nb : netB n = true) {k : Nat} (hk : k < n.links.length) (s : ByteArray) : linkIx n.links s = (k : Int) ↔ s = (n.links.getD k default).name := by
  have hok := netB_okL nb hk;unfold okL at hok;simp only [Bool.and_eq_true, decide_eq_true_eq] at hok;constructor
  · intro h;rcases idxI_spec (fun x : Link => decide (x.name = s)) n.links with ⟨e, _⟩ | ⟨q, e, hq, hp, _⟩
    · unfold linkIx at h;rw [e] at h;omega
    · unfold linkIx at h;rw [e] at h;have : q = k := by omega
      subst this;exact (of_decide_eq_true hp).symm
  · intro h;subst h;exact hok.1.1.1.2
theorem setK_want (nb : netB n = true) (hb : before.length = n.links.length) (hk : ∀ j, j < l.length -> 0 <= linkIx n.links (l.getD j default).lnk) : ∀ {i : Nat} {o : List Int} {f : List Bool}, i <= l.length -> setK n lv l before i = some (o, f) -> ∀ k, k < n.links.length -> o.getD k default = wantI n lv l before k i
  | 0, o, f, _, h, k, _ => by cases h; rfl
  | i + 1, o, f, hi, h, k, hkl => by
    rw [wantI];cases e : setK n lv l before i with
    | none => rw [setK_none e 1] at h; cases h
    | some p =>
      obtain ⟨o1, f1⟩ := p;have ih := setK_want nb hb hk (i := i) (by omega) e k hkl;obtain ⟨hl1, _⟩ := setK_len hb e;cases hh : holdB n lv (l.getD i default)
      · rw [setK_skip e hh] at h;cases h;rw [if_neg (fun c => by cases c.2)];exact ih
      · by_cases hc : f1.getD (linkIx n.links (l.getD i default).lnk).toNat default = true /\ ¬ o1.getD (linkIx n.links (l.getD i default).lnk).toNat default = (l.getD i default).setg
        · rw [setK_bad e hh hc.1 hc.2] at h; cases h
        · rw [setK_set e hh hc] at h;cases h;have h0 := hk i (by omega);by_cases hn : (l.getD i default).lnk = (n.links.getD k default).name
          · rw [if_pos ⟨hn, rfl⟩, (lidx_eq nb hkl _).2 hn, Int.toNat_natCast, List.getD_eq_getElem?_getD, List.getElem?_set_self (by omega)]; rfl
          · have hne : ¬ (linkIx n.links (l.getD i default).lnk).toNat = k := fun c => hn ((lidx_eq nb hkl _).1 (by omega))
            rw [if_neg (fun c => hn c.1), List.getD_eq_getElem?_getD, List.getElem?_set_ne hne, <- List.getD_eq_getElem?_getD];exact ih
end
def runG (F : Nat -> Sta -> Sta × Ledg × Int) (s : Sta) : Nat -> Run
  | 0 => ⟨s, [], [], 0⟩
  | k + 1 => if (runG F s k).e = 0 then
      (if (F k (runG F s k).now).2.2 = 0 then ⟨(F k (runG F s k).now).1, (runG F s k).ss ++ [(F k (runG F s k).now).1], (runG F s k).gs ++ [(F k (runG F s k).now).2.1], 0⟩
       else ⟨(runG F s k).now, [], [], (F k (runG F s k).now).2.2⟩)
    else ⟨(runG F s k).now, [], [], (runG F s k).e⟩
section
variable {F : Nat -> Sta -> Sta × Ledg × Int} {s : Sta}
theorem runG_good {k : Nat} (h1 : (runG F s k).e = 0) (h2 : (F k (runG F s k).now).2.2 = 0) : runG F s (k + 1) = ⟨(F k (runG F s k).now).1, (runG F s k).ss ++ [(F k (runG F s k).now).1], (runG F s k).gs ++ [(F k (runG F s k).now).2.1], 0⟩ := by
  rw [runG, if_pos h1, if_pos h2]
theorem runG_bad {k : Nat} (h1 : (runG F s k).e = 0) (h2 : ¬ (F k (runG F s k).now).2.2 = 0) : runG F s (k + 1) = ⟨(runG F s k).now, [], [], (F k (runG F s k).now).2.2⟩ := by
  rw [runG, if_pos h1, if_neg h2]
theorem runG_err {k : Nat} (h1 : ¬ (runG F s k).e = 0) : runG F s (k + 1) = ⟨(runG F s k).now, [], [], (runG F s k).e⟩ := by
  rw [runG, if_neg h1]
theorem runG_stay {k : Nat} (h : ¬ (runG F s k).e = 0) : ∀ j, (runG F s (k + j)).e = (runG F s k).e
  | 0 => rfl
  | j + 1 => by
    have ih := runG_stay h j;rw [<- Nat.add_assoc, runG_err (by rw [ih]; exact h), ih]
theorem runG_down {k j : Nat} (h : (runG F s (k + j)).e = 0) : (runG F s k).e = 0 := by
  by_cases h1 : (runG F s k).e = 0
  · exact h1
  · rw [runG_stay h1 j] at h; exact absurd h h1
theorem runG_len : ∀ {k : Nat}, (runG F s k).e = 0 -> (runG F s k).ss.length = k /\ (runG F s k).gs.length = k
  | 0, _ => ⟨rfl, rfl⟩
  | k + 1, h => by
    have h1 := runG_down (k := k) (j := 1) h;obtain ⟨a, b⟩ := runG_len h1;by_cases h2 : (F k (runG F s k).now).2.2 = 0
    · rw [runG_good h1 h2];exact ⟨by simp [a], by simp [b]⟩
    · rw [runG_bad h1 h2] at h;exact absurd h h2
theorem runG_nil : ∀ {k : Nat}, ¬ (runG F s k).e = 0 -> (runG F s k).ss = [] /\ (runG F s k).gs = []
  | 0, h => absurd rfl h
  | k + 1, h => by
    by_cases h1 : (runG F s k).e = 0
    · by_cases h2 : (F k (runG F s k).now).2.2 = 0
      · rw [runG_good h1 h2] at h; exact absurd rfl h
      · rw [runG_bad h1 h2]; exact ⟨rfl, rfl⟩
    · rw [runG_err h1]; exact ⟨rfl, rfl⟩
theorem runG_last {k : Nat} (h : (runG F s k).e = 0) (hk : 0 < k) : (runG F s k).ss.getD (k - 1) default = (runG F s k).now := by
  obtain ⟨j, rfl⟩ : ∃ j, k = j + 1 := ⟨k - 1, by omega⟩;have h1 := runG_down (k := j) (j := 1) h;obtain ⟨a, _⟩ := runG_len h1;by_cases h2 : (F j (runG F s j).now).2.2 = 0
  · rw [runG_good h1 h2, Nat.add_sub_cancel, List.getD_eq_getElem?_getD];show ((runG F s j).ss ++ [_])[j]?.getD default = _;rw [List.getElem?_append_right (by omega), a, Nat.sub_self]; rfl
  · rw [runG_bad h1 h2] at h; exact absurd h h2
theorem runG_parts {G : Nat -> Sta -> Sta × Ledg × Int} {i : Nat} (hG : ∀ j t, G j t = F (i + j) t) (h : (runG F s i).e = 0) : ∀ j, (runG G (runG F s i).now j).now = (runG F s (i + j)).now /\ (runG G (runG F s i).now j).e = (runG F s (i + j)).e /\
    ((runG F s (i + j)).e = 0 -> (runG F s (i + j)).ss = (runG F s i).ss ++ (runG G (runG F s i).now j).ss /\ (runG F s (i + j)).gs = (runG F s i).gs ++ (runG G (runG F s i).now j).gs)
  | 0 => ⟨rfl, h.symm, fun _ => ⟨(List.append_nil _).symm, (List.append_nil _).symm⟩⟩
  | j + 1 => by
    obtain ⟨h1, h2, h3⟩ := runG_parts hG h j;rw [<- Nat.add_assoc];by_cases e1 : (runG F s (i + j)).e = 0
    · have e1' := h2.trans e1;have hst := hG j (runG F s (i + j)).now;rw [<- h1] at hst;obtain ⟨h4, h5⟩ := h3 e1;by_cases e2 : (F (i + j) (runG F s (i + j)).now).2.2 = 0
      · have e2' : (G j (runG G (runG F s i).now j).now).2.2 = 0 := by rw [hst, h1]; exact e2
        rw [runG_good e1 e2, runG_good e1' e2', hst, h1];exact ⟨rfl, rfl, fun _ => ⟨by show _ ++ [_] = _; rw [h4, List.append_assoc], by show _ ++ [_] = _; rw [h5, List.append_assoc]⟩⟩
      · have e2' : ¬ (G j (runG G (runG F s i).now j).now).2.2 = 0 := by rw [hst, h1]; exact e2
        rw [runG_bad e1 e2, runG_bad e1' e2', hst, h1];exact ⟨rfl, rfl, fun c => absurd c e2⟩
    · have e1' : ¬ (runG G (runG F s i).now j).e = 0 := by rw [h2]; exact e1
      rw [runG_err e1, runG_err e1'];exact ⟨h1, h2, fun c => absurd c e1⟩
theorem runG_inv {Q : Sta -> Prop} (hQ : ∀ k t, Q t -> (F k t).2.2 = 0 -> Q (F k t).1) (h0 : Q s) : ∀ k, Q (runG F s k).now /\ ∀ x, x ∈ (runG F s k).ss -> Q x
  | 0 => ⟨h0, fun x hx => by cases hx⟩
  | k + 1 => by
    obtain ⟨i1, i2⟩ := runG_inv hQ h0 k;by_cases h1 : (runG F s k).e = 0
    · by_cases h2 : (F k (runG F s k).now).2.2 = 0
      · rw [runG_good h1 h2];refine ⟨hQ _ _ i1 h2, fun x hx => ?_⟩;rcases List.mem_append.1 hx with hx | hx
        · exact i2 x hx
        · rw [List.mem_singleton.1 hx]; exact hQ _ _ i1 h2
      · rw [runG_bad h1 h2];exact ⟨i1, fun x hx => by cases hx⟩
    · rw [runG_err h1];exact ⟨i1, fun x hx => by cases hx⟩
theorem runG_gs {R : Ledg -> Prop} (hR : ∀ k t, (F k t).2.2 = 0 -> R (F k t).2.1) : ∀ k, ∀ x, x ∈ (runG F s k).gs -> R x
  | 0 => fun x hx => by cases hx
  | k + 1 => by
    have ih := runG_gs hR k;by_cases h1 : (runG F s k).e = 0
    · by_cases h2 : (F k (runG F s k).now).2.2 = 0
      · rw [runG_good h1 h2];intro x hx;rcases List.mem_append.1 hx with hx | hx
        · exact ih x hx
        · rw [List.mem_singleton.1 hx]; exact hR _ _ h2
      · rw [runG_bad h1 h2];exact fun x hx => by cases hx
    · rw [runG_err h1];exact fun x hx => by cases hx
end
def stepC (n : Net) (s : List Sect) (l : List Rule) (x : Sta) (inf : List Int) (sec : Int) : Sta × Ledg × Int :=
  if (netB n && staB n x && catB s && rulesB l) = false then (zeroS, zeroL, 1)
  else if ¬ (setR n l (levelsL n x.vol) x.set).2 = 0 then (zeroS, zeroL, (setR n l (levelsL n x.vol) x.set).2)
  else stepR n s ⟨x.vol, x.pon, (setR n l (levelsL n x.vol) x.set).1, x.on⟩ inf sec
def inK (n : Net) (infl : List Infl) (k : Nat) : Nat -> List Int
  | 0 => List.replicate n.nodes.length 0
  | i + 1 => if k < (infl.getD i default).vols.length /\ 0 <= nodeIx n.nodes (infl.getD i default).nod then (inK n infl k i).set (nodeIx n.nodes (infl.getD i default).nod).toNat ((infl.getD i default).vols.getD k default) else inK n infl k i
def nodsL (infl : List Infl) : List ByteArray := infl.map Infl.nod
def wrongC (n : Net) (infl : List Infl) : Int :=
  if (infl.any fun x => decide (nodeIx n.nodes x.nod < 0)) = true then 9
  else if dupB (nodsL infl) = true then 10
  else if (infl.any fun x => decide (10000 < x.vols.length)) = true then 4 else 0
def goC (n : Net) (s : List Sect) (l : List Rule) (infl : List Infl) (sec : Int) (k : Nat) (t : Sta) : Sta × Ledg × Int := stepC n s l t (inK n infl k infl.length) sec
def runC (n : Net) (s : List Sect) (l : List Rule) (x : Sta) (infl : List Infl) (sec steps : Int) : List Sta × List Ledg × Int :=
  if (netB n && staB n x && catB s && rulesB l) = false then ([], [], 1)
  else if steps < 0 ∨ 10000 < steps then ([], [], 2)
  else if ¬ wrongC n infl = 0 then ([], [], wrongC n infl)
  else ((runG (goC n s l infl sec) x steps.toNat).ss, (runG (goC n s l infl sec) x steps.toNat).gs, (runG (goC n s l infl sec) x steps.toNat).e)
section
variable {n : Net} {s : List Sect} {l : List Rule} {infl : List Infl} {sec : Int}
theorem inK_len (k : Nat) : ∀ i, (inK n infl k i).length = n.nodes.length
  | 0 => List.length_replicate ..
  | i + 1 => by
    rw [inK];split
    · rw [List.length_set]; exact inK_len k i
    · exact inK_len k i
theorem setR_ok {lv before : List Int} (h : (setR n l lv before).2 = 0) : lv.length = n.nodes.length /\ before.length = n.links.length /\ rangB before 1000 = true /\ l.all (knownR n) = true /\ ∃ f, setK n lv l before l.length = some ((setR n l lv before).1, f) := by
  unfold setR at h ⊢;split at h
  · cases h
  next h1 =>
  split at h
  · cases h
  next h2 =>
  split at h
  · cases h
  next h3 =>
  rw [if_neg h1, if_neg h2, if_neg h3];refine ⟨Classical.byContradiction fun c => h1 (.inl c), Classical.byContradiction fun c => h1 (.inr c), by simpa using h2, by simpa using h3, ?_⟩;cases e : setK n lv l before l.length with
  | none => rw [e] at h; cases h
  | some p =>
    obtain ⟨o, f⟩ := p;exact ⟨f, rfl⟩
theorem wantI_in {lv before : List Int} (hr : ∀ k, k < before.length -> 0 <= before.getD k default /\ before.getD k default <= 1000) (hl : ∀ j, j < l.length -> 0 <= (l.getD j default).setg /\ (l.getD j default).setg <= 1000) {k : Nat} (hk : k < before.length) : ∀ i, i <= l.length -> 0 <= wantI n lv l before k i /\ wantI n lv l before k i <= 1000
  | 0, _ => hr k hk
  | i + 1, hi => by
    rw [wantI];split
    · exact hl i (by omega)
    · exact wantI_in hr hl hk i (by omega)
theorem rulesB_at (h : rulesB l = true) {j : Nat} (hj : j < l.length) : ruleB (l.getD j default) = true := by
  unfold rulesB at h;simp only [Bool.and_eq_true, List.all_eq_true] at h;exact h.1.2 _ (getD_mem hj)
theorem ruleB_set {r : Rule} (h : ruleB r = true) : 0 <= r.setg /\ r.setg <= 1000 := by
  unfold ruleB at h;simp only [Bool.and_eq_true] at h;exact btwB_in h.1.2
theorem known_lnk (h : l.all (knownR n) = true) {j : Nat} (hj : j < l.length) : 0 <= linkIx n.links (l.getD j default).lnk := by
  rw [List.all_eq_true] at h;have := h _ (getD_mem hj);unfold knownR at this;simp only [Bool.and_eq_true, decide_eq_true_eq] at this;exact this.1
theorem setR_sta {x : Sta} (nb : netB n = true) (sb : staB n x = true) (rb : rulesB l = true) (h : (setR n l (levelsL n x.vol) x.set).2 = 0) : staB n ⟨x.vol, x.pon, (setR n l (levelsL n x.vol) x.set).1, x.on⟩ = true := by
  obtain ⟨h1, h2, h3, h4, f, h5⟩ := setR_ok h;generalize (setR n l (levelsL n x.vol) x.set).1 = O at *
  obtain ⟨a1, a2, a3⟩ := staB_in nb sb;obtain ⟨l1, l2, l3, l4⟩ := lensB_of a1;obtain ⟨o1, o2⟩ := setK_len h2 h5;have hw := setK_want (lv := levelsL n x.vol) nb h2 (fun j hj => known_lnk h4 hj) (Nat.le_refl _) h5;unfold staB lensB;simp only [Bool.and_eq_true, decide_eq_true_eq, List.all_eq_true, List.mem_range];refine ⟨⟨⟨⟨⟨l1, l2⟩, o1⟩, l4⟩, fun q hq => a2 q hq⟩, fun k hk => ?_⟩;have b1 := a3 k hk;have b2 := wantI_in (n := n) (l := l) (lv := levelsL n x.vol) (before := x.set) (fun k hk => rang_at h3 k hk) (fun j hj => ruleB_set (rulesB_at rb hj)) (k := k) (by omega) l.length (Nat.le_refl _);have b3 := hw k hk;unfold okSL at b1 ⊢;simp only [Bool.and_eq_true, Bool.not_eq_true', Bool.and_eq_false_iff, Bool.not_eq_false', decide_eq_true_eq] at b1 ⊢;refine ⟨?_, b1.2⟩;show btwB (O.getD k default) 0 1000 = true;rw [b3];unfold btwB;simp only [Bool.and_eq_true, decide_eq_true_eq];exact b2
end
section
variable {n : Net} {s : List Sect} {l : List Rule} {infl : List Infl} {sec : Int} {x : Sta}
theorem stepC_sta {t : Sta} {inf : List Int} (no : netOk n) (co : catOk s) (h : (stepC n s l t inf sec).2.2 = 0) : staB n (stepC n s l t inf sec).1 = true := by
  unfold stepC at h ⊢;split at h
  · cases h
  next h1 =>
  split at h;next h2 => exact absurd h h2
  next h2 =>
  rw [if_neg h1, if_neg h2];have he : stepE n s ⟨t.vol, t.pon, (setR n l (levelsL n t.vol) t.set).1, t.on⟩ inf sec = 0 := by
    unfold stepR at h;split at h
    · assumption
    next he => exact absurd h he
  obtain ⟨S, hf, hg⟩ := stepE_0 no co he;rw [stepR_good he];exact S.fin hf hg
theorem stepC_pas {t : Sta} {inf : List Int} : (stepC n s l t inf sec).2.1.passed.length = n.links.length ∨ (stepC n s l t inf sec).2.1.passed.length = 0 := by
  unfold stepC;split
  · exact .inr rfl
  split
  · exact .inr rfl
  · unfold stepR;split
    · exact .inl (limR_len ..)
    · exact .inr rfl
end
abbrev rulOk (l : List Rule) : Prop := l.length <= 281474976710656 /\ ∀ r, r ∈ l -> ruleOk r
abbrev stasOk (l : List Sta) : Prop := l.length <= 281474976710656 /\ ∀ x, x ∈ l -> staOk x
abbrev inflsOk (l : List Infl) : Prop := l.length <= 281474976710656 /\ ∀ x, x ∈ l -> inflOk x
theorem any_iff {α : Type} {p q : α -> Bool} {l : List α} (h : ∀ x, x ∈ l -> p x = q x) : l.any p = l.any q := by
  rw [Bool.eq_iff_iff];simp only [List.any_eq_true];exact ⟨fun ⟨x, hx, e⟩ => ⟨x, hx, by rw [<- h x hx]; exact e⟩, fun ⟨x, hx, e⟩ => ⟨x, hx, by rw [h x hx]; exact e⟩⟩
theorem any_snoc {α : Type} (p : α -> Bool) (l : List α) (x : α) : (l ++ [x]).any p = (l.any p || p x) := by
  rw [List.any_append, List.any_cons, List.any_nil, Bool.or_false]
theorem take_snocD {α : Type} [Inhabited α] {l : List α} {i : Nat} (h : i < l.length) : l.take (i + 1) = l.take i ++ [l.getD i default] := by
  rw [List.take_succ_eq_append_getElem h, List.getD_eq_getElem?_getD, List.getElem?_eq_getElem h]; rfl
def linkNs (n : Net) : List ByteArray := n.links.map Link.name
theorem linkNs_at (n : Net) {i : Nat} (h : i < n.links.length) : (linkNs n).getD i default = (n.links.getD i default).name := by
  unfold linkNs;rw [List.getD_eq_getElem?_getD, List.getElem?_map, List.getElem?_eq_getElem h, List.getD_eq_getElem?_getD, List.getElem?_eq_getElem h]; rfl
theorem nidx_eq {n : Net} (nb : netB n = true) {k : Nat} (hk : k < n.nodes.length) (s : ByteArray) : nodeIx n.nodes s = (k : Int) ↔ s = (n.nodes.getD k default).name := by
  have hok := netB_okN nb hk;unfold okN at hok;simp only [Bool.and_eq_true, decide_eq_true_eq] at hok;constructor
  · intro h;rcases idxI_spec (fun x : Node => decide (x.name = s)) n.nodes with ⟨e, _⟩ | ⟨q, e, hq, hp, _⟩
    · unfold nodeIx at h;rw [e] at h;omega
    · unfold nodeIx at h;rw [e] at h;have : q = k := by omega
      subst this;exact (of_decide_eq_true hp).symm
  · intro h;subst h;exact hok.2
theorem namesL_ne {n : Net} (nb : netB n = true) {i : Nat} (hi : i < n.nodes.length) : ∀ j, j < i -> (namesL n).getD j default ≠ (namesL n).getD i default := fun j hj e => by
  rw [namesL_at n hi, namesL_at n (by omega)] at e;have h1 := (nidx_eq nb (show j < n.nodes.length by omega) _).2 rfl;have h2 := (nidx_eq nb hi _).2 rfl;rw [e, h2] at h1;omega
theorem linkNs_ne {n : Net} (nb : netB n = true) {i : Nat} (hi : i < n.links.length) : ∀ j, j < i -> (linkNs n).getD j default ≠ (linkNs n).getD i default := fun j hj e => by
  rw [linkNs_at n hi, linkNs_at n (by omega)] at e;have h1 := (lidx_eq nb (show j < n.links.length by omega) _).2 rfl;have h2 := (lidx_eq nb hi _).2 rfl;rw [e, h2] at h1;omega
theorem nix_lt (l : List Node) (s : ByteArray) : nodeIx l s < l.length := (idxI_lt _ l).2
theorem lix_lt (l : List Link) (s : ByteArray) : linkIx l s < l.length := (idxI_lt _ l).2
theorem look_node {n : Net} (nb : netB n = true) (f : Nat -> Int) (s : ByteArray) : lookS (ixL (namesL n) f n.nodes.length) s = if 0 <= nodeIx n.nodes s then some (f (nodeIx n.nodes s).toNat) else none := by
  by_cases h : 0 <= nodeIx n.nodes s
  · rw [if_pos h];have hlt := nix_lt n.nodes s;obtain ⟨q, hq⟩ : ∃ q : Nat, nodeIx n.nodes s = (q : Int) := ⟨_, (Int.toNat_of_nonneg h).symm⟩;have hqn : q < n.nodes.length := by omega
    have e := (nidx_eq nb hqn s).1 hq;rw [hq, Int.toNat_natCast, e, <- namesL_at n hqn];refine ixL_some n.nodes.length hqn fun j hj c => ?_
    by_cases e1 : j = q
    · exact e1
    · rcases Nat.lt_or_gt_of_ne e1 with g | g
      · exact absurd c (namesL_ne nb hqn j g)
      · exact absurd c.symm (namesL_ne nb hj q g)
  · rw [if_neg h];refine ixL_none n.nodes.length fun j hj c => h ?_
    rw [namesL_at n hj] at c;rw [(nidx_eq nb hj s).2 c.symm]; omega
theorem look_link {n : Net} (nb : netB n = true) (f : Nat -> Int) (s : ByteArray) : lookS (ixL (linkNs n) f n.links.length) s = if 0 <= linkIx n.links s then some (f (linkIx n.links s).toNat) else none := by
  by_cases h : 0 <= linkIx n.links s
  · rw [if_pos h];have hlt := lix_lt n.links s;obtain ⟨q, hq⟩ : ∃ q : Nat, linkIx n.links s = (q : Int) := ⟨_, (Int.toNat_of_nonneg h).symm⟩;have hqn : q < n.links.length := by omega
    have e := (lidx_eq nb hqn s).1 hq;rw [hq, Int.toNat_natCast, e, <- linkNs_at n hqn];refine ixL_some n.links.length hqn fun j hj c => ?_
    by_cases e1 : j = q
    · exact e1
    · rcases Nat.lt_or_gt_of_ne e1 with g | g
      · exact absurd c (linkNs_ne nb hqn j g)
      · exact absurd c.symm (linkNs_ne nb hj q g)
  · rw [if_neg h];refine ixL_none n.links.length fun j hj c => h ?_
    rw [linkNs_at n hj] at c;rw [(lidx_eq nb hj s).2 c.symm]; omega
def lvM (n : Net) (lv : List Int) : List (ByteArray × Int) := ixL (namesL n) (fun j => lv.getD j default) n.nodes.length
def lkM (n : Net) : List (ByteArray × Int) := ixL (linkNs n) (fun j => (j : Int)) n.links.length
theorem lvM_kno {n : Net} (nb : netB n = true) (lv : List Int) (s : ByteArray) : knoS (lvM n lv) s = decide (0 <= nodeIx n.nodes s) := by
  unfold knoS lvM;rw [look_node nb];by_cases h : 0 <= nodeIx n.nodes s
  · rw [if_pos h, decide_eq_true h]; rfl
  · rw [if_neg h, decide_eq_false h]; rfl
theorem lvM_val {n : Net} (nb : netB n = true) (lv : List Int) {s : ByteArray} (h : 0 <= nodeIx n.nodes s) : valS (lvM n lv) s = lvOf n lv s := by
  unfold valS lvM;rw [look_node nb, if_pos h]; rfl
theorem lkM_kno {n : Net} (nb : netB n = true) (s : ByteArray) : knoS (lkM n) s = decide (0 <= linkIx n.links s) := by
  unfold knoS lkM;rw [look_link nb];by_cases h : 0 <= linkIx n.links s
  · rw [if_pos h, decide_eq_true h]; rfl
  · rw [if_neg h, decide_eq_false h]; rfl
theorem lkM_val {n : Net} (nb : netB n = true) {s : ByteArray} (h : 0 <= linkIx n.links s) : valS (lkM n) s = linkIx n.links s := by
  unfold valS lkM;rw [look_link nb, if_pos h];show ((linkIx n.links s).toNat : Int) = _;omega
theorem rulesB_60 {l : List Rule} (h : rulesB l = true) : l.length <= 60 := by
  unfold rulesB at h;simp only [Bool.and_eq_true, decide_eq_true_eq] at h;exact h.1.1
theorem find_names (n : Net) (s : ByteArray) : idxI (fun v => decide (v = s)) (namesL n) = nodeIx n.nodes s := by
  unfold namesL nodeIx idxI;rw [List.findIdx?_map];rfl
def rankE (e : Int) : Int := idxI (fun v => decide (e = v)) [4, 10, 9]
def worseE (e f : Int) : Int := if rankE e < rankE f then f else e
def nodU (n : Net) (x : Infl) : Bool := decide (nodeIx n.nodes x.nod < 0)
def volU (x : Infl) : Bool := decide (10000 < x.vols.length)
def worse1 (b : Bool) (e f : Int) : Int := if b = true then worseE e f else e
def wrK (n : Net) (infl : List Infl) : Nat -> Int
  | 0 => 0
  | i + 1 => worse1 (volU (infl.getD i default)) (worse1 (hasB (nodsL (infl.take i)) (infl.getD i default).nod) (worse1 (nodU n (infl.getD i default)) (wrK n infl i) 9) 10) 4
theorem dupB_snoc (l : List ByteArray) (x : ByteArray) : dupB (l ++ [x]) = (dupB l || hasB l x) := by
  unfold dupB;rw [List.length_append, List.length_singleton, List.range_succ, List.any_append, List.any_cons, List.any_nil, Bool.or_false];have e1 : ((l ++ [x]).take l.length) = l := by rw [List.take_left]
  have e2 : (l ++ [x]).getD l.length default = x := by
    rw [List.getD_eq_getElem?_getD, List.getElem?_append_right (Nat.le_refl _), Nat.sub_self]; rfl
  rw [e1, e2];congr 1
  refine any_iff fun i hi => ?_
  have hi := List.mem_range.1 hi;rw [List.take_append_of_le_length (by omega), List.getD_eq_getElem?_getD, List.getElem?_append_left hi, <- List.getD_eq_getElem?_getD]
def errW (a b c : Bool) : Int := if a = true then 9 else if b = true then 10 else if c = true then 4 else 0
theorem wrongC_errW (n : Net) (infl : List Infl) : wrongC n infl = errW (infl.any (nodU n)) (dupB (nodsL infl)) (infl.any volU) := rfl
theorem errW_step (A B D a b d : Bool) : worse1 d (worse1 b (worse1 a (errW A B D) 9) 10) 4 = errW (A || a) (B || b) (D || d) := by
  cases A <;> cases B <;> cases D <;> cases a <;> cases b <;> cases d <;> rfl
theorem wrK_eq (n : Net) (infl : List Infl) : ∀ i, i <= infl.length -> wrK n infl i = wrongC n (infl.take i)
  | 0, _ => rfl
  | i + 1, h => by
    rw [wrK, wrK_eq n infl i (by omega), wrongC_errW, wrongC_errW, errW_step, take_snocD (show i < infl.length by omega), any_snoc, any_snoc];have e : nodsL (infl.take i ++ [infl.getD i default]) = nodsL (infl.take i) ++ [(infl.getD i default).nod] := by unfold nodsL; rw [List.map_append]; rfl
    rw [e, dupB_snoc]
theorem wrK_end (n : Net) (infl : List Infl) : wrK n infl infl.length = wrongC n infl := by rw [wrK_eq n infl _ (Nat.le_refl _), List.take_length]
def seenK (infl : List Infl) : Nat -> List ByteArray
  | 0 => []
  | i + 1 => insS (seenK infl i) (infl.getD i default).nod
theorem insS_has (l : List ByteArray) (s t : ByteArray) : hasB (insS l s) t = (hasB l t || decide (s = t)) := by
  unfold insS;cases h : hasB l s
  · rw [if_neg (by decide)];unfold hasB;rw [any_snoc]
  · rw [if_pos rfl];by_cases e : s = t
    · subst e; rw [h]; rfl
    · rw [decide_eq_false e, Bool.or_false]
theorem seenK_has (infl : List Infl) (s : ByteArray) : ∀ i, i <= infl.length -> hasB (seenK infl i) s = hasB (nodsL (infl.take i)) s
  | 0, _ => rfl
  | i + 1, h => by
    rw [seenK, insS_has, seenK_has infl s i (by omega), take_snocD (show i < infl.length by omega)];unfold nodsL hasB;rw [List.map_append, List.map_cons, List.map_nil, any_snoc]
theorem wrong_0 {n : Net} {infl : List Infl} (h : wrongC n infl = 0) : (∀ x, x ∈ infl -> 0 <= nodeIx n.nodes x.nod) /\ dupB (nodsL infl) = false /\ ∀ x, x ∈ infl -> x.vols.length <= 10000 := by
  unfold wrongC at h;split at h
  · cases h
  next h1 =>
  split at h
  · cases h
  next h2 =>
  split at h
  · cases h
  next h3 =>
  refine ⟨fun x hx => ?_, by simpa using h2, fun x hx => ?_⟩
  · refine Classical.byContradiction fun c => h1 (List.any_eq_true.2 ⟨x, hx, decide_eq_true ?_⟩)
    omega
  · refine Classical.byContradiction fun c => h3 (List.any_eq_true.2 ⟨x, hx, decide_eq_true ?_⟩)
    omega
theorem inK_at {n : Net} {infl : List Infl} {k i : Nat} (h1 : k < (infl.getD i default).vols.length) (h2 : 0 <= nodeIx n.nodes (infl.getD i default).nod) : inK n infl k (i + 1) = (inK n infl k i).set (nodeIx n.nodes (infl.getD i default).nod).toNat ((infl.getD i default).vols.getD k default) := by
  rw [inK, if_pos ⟨h1, h2⟩]
theorem inK_skip {n : Net} {infl : List Infl} {k i : Nat} (h1 : ¬ (k < (infl.getD i default).vols.length /\ 0 <= nodeIx n.nodes (infl.getD i default).nod)) : inK n infl k (i + 1) = inK n infl k i := by
  rw [inK, if_neg h1]
section
variable {n : Net} {s : List Sect} {l : List Rule} {x : Sta} {inf : List Int} {sec : Int}
theorem sta_rang (nb : netB n = true) (sb : staB n x = true) : rangB x.set 1000 = true := by
  obtain ⟨h1, _, h3⟩ := staB_in nb sb;obtain ⟨_, _, l3, _⟩ := lensB_of h1;unfold rangB;rw [List.all_eq_true];intro i hi;have hi := List.mem_range.1 hi;have := h3 i (by omega);unfold okSL at this;simp only [Bool.and_eq_true] at this;exact this.1
theorem levelsL_len (n : Net) (vol : List Int) : (levelsL n vol).length = n.nodes.length := rng_len _ _
theorem stepC_eq (hv : (netB n && staB n x && catB s && rulesB l) = true) : stepC n s l x inf sec = if ¬ (setR n l (levelsL n x.vol) x.set).2 = 0 then (zeroS, zeroL, (setR n l (levelsL n x.vol) x.set).2) else stepR n s ⟨x.vol, x.pon, (setR n l (levelsL n x.vol) x.set).1, x.on⟩ inf sec := if_neg (by rw [hv]; decide)
theorem hv_of (h : (netB n && staB n x && catB s && rulesB l) = true) : netB n = true /\ staB n x = true /\ catB s = true /\ rulesB l = true := by
  simp only [Bool.and_eq_true] at h;exact ⟨h.1.1.1, h.1.1.2, h.1.2, h.2⟩
end
structure Cas where
  net : Net
  cat : List Sect
  rul : List Rule
  sta : Sta
  sec : Int
instance : Inhabited Cas := ⟨⟨default, default, default, default, default⟩⟩
theorem cas_ext {x y : Cas} (h : x.net = y.net /\ x.cat = y.cat /\ x.rul = y.rul /\ x.sta = y.sta /\ x.sec = y.sec) : x = y := by
  cases x; cases y; simp_all
instance : DecidableEq Cas := fun x y => decidable_of_iff (x.net = y.net /\ x.cat = y.cat /\ x.rul = y.rul /\ x.sta = y.sta /\ x.sec = y.sec) ⟨cas_ext, fun h => by subst h; simp⟩
def casP (x : Cas) : List PV := [.dat 9 (x.net.nodes.map nodeP), .dat 11 (x.net.links.map linkP), .dat 5 (x.cat.map sectP), .dat 4 (x.rul.map ruleP), .dat 1 (x.sta.vol.map inRow), .dat 1 (x.sta.pon.map inRow), .dat 1 (x.sta.set.map inRow), .dat 1 (x.sta.on.map boRow), .lit (.int .i64 x.sec)]
def casC (x : Cas) : List DV := [.p (.dat 9 (x.net.nodes.map nodeP)), .p (.dat 11 (x.net.links.map linkP)), .p (.dat 5 (x.cat.map sectP)), .p (.dat 4 (x.rul.map ruleP)), .p (.dat 1 (x.sta.vol.map inRow)), .p (.dat 1 (x.sta.pon.map inRow)), .p (.dat 1 (x.sta.set.map inRow)), .p (.dat 1 (x.sta.on.map boRow)), .p (.lit (.int .i64 x.sec))]
abbrev casD (x : Cas) : DV := .agg (casC x)
theorem casP_map (x : Cas) : (casP x).map DV.p = casC x := rfl
theorem casP_len (x : Cas) : (casP x).length = 9 := rfl
theorem casC_len (x : Cas) : (casC x).length = 9 := rfl
theorem casP_take (x : Cas) : (casP x).take 9 = casP x := rfl
theorem casC_take (x : Cas) : (casC x).take 9 = casC x := rfl
theorem casC_all (x : Cas) : (casC x).all DV.cellB = true := rfl
theorem casP_d0 (x : Cas) : (casP x).getD 0 default = .dat 9 (x.net.nodes.map nodeP) := rfl
theorem casC_d0 (x : Cas) : (casC x)[0]? = some (.p (.dat 9 (x.net.nodes.map nodeP))) := rfl
theorem casP_s0 (x : Cas) : (casP x).take 1 = [.dat 9 (x.net.nodes.map nodeP)] := rfl
theorem casC_s0 (x : Cas) : (casC x).take 1 = [.p (.dat 9 (x.net.nodes.map nodeP))] := rfl
theorem casP_d1 (x : Cas) : (casP x).getD 1 default = .dat 11 (x.net.links.map linkP) := rfl
theorem casC_d1 (x : Cas) : (casC x)[1]? = some (.p (.dat 11 (x.net.links.map linkP))) := rfl
theorem casP_s1 (x : Cas) : ((casP x).drop 1).take 1 = [.dat 11 (x.net.links.map linkP)] := rfl
theorem casC_s1 (x : Cas) : ((casC x).drop 1).take 1 = [.p (.dat 11 (x.net.links.map linkP))] := rfl
theorem casP_d2 (x : Cas) : (casP x).getD 2 default = .dat 5 (x.cat.map sectP) := rfl
theorem casC_d2 (x : Cas) : (casC x)[2]? = some (.p (.dat 5 (x.cat.map sectP))) := rfl
theorem casP_s2 (x : Cas) : ((casP x).drop 2).take 1 = [.dat 5 (x.cat.map sectP)] := rfl
theorem casC_s2 (x : Cas) : ((casC x).drop 2).take 1 = [.p (.dat 5 (x.cat.map sectP))] := rfl
theorem casP_d3 (x : Cas) : (casP x).getD 3 default = .dat 4 (x.rul.map ruleP) := rfl
theorem casC_d3 (x : Cas) : (casC x)[3]? = some (.p (.dat 4 (x.rul.map ruleP))) := rfl
theorem casP_s3 (x : Cas) : ((casP x).drop 3).take 1 = [.dat 4 (x.rul.map ruleP)] := rfl
theorem casC_s3 (x : Cas) : ((casC x).drop 3).take 1 = [.p (.dat 4 (x.rul.map ruleP))] := rfl
theorem casP_d4 (x : Cas) : (casP x).getD 4 default = .dat 1 (x.sta.vol.map inRow) := rfl
theorem casC_d4 (x : Cas) : (casC x)[4]? = some (.p (.dat 1 (x.sta.vol.map inRow))) := rfl
theorem casP_s4 (x : Cas) : ((casP x).drop 4).take 1 = [.dat 1 (x.sta.vol.map inRow)] := rfl
theorem casC_s4 (x : Cas) : ((casC x).drop 4).take 1 = [.p (.dat 1 (x.sta.vol.map inRow))] := rfl
theorem casP_d5 (x : Cas) : (casP x).getD 5 default = .dat 1 (x.sta.pon.map inRow) := rfl
theorem casC_d5 (x : Cas) : (casC x)[5]? = some (.p (.dat 1 (x.sta.pon.map inRow))) := rfl
theorem casP_s5 (x : Cas) : ((casP x).drop 5).take 1 = [.dat 1 (x.sta.pon.map inRow)] := rfl
theorem casC_s5 (x : Cas) : ((casC x).drop 5).take 1 = [.p (.dat 1 (x.sta.pon.map inRow))] := rfl
theorem casP_d6 (x : Cas) : (casP x).getD 6 default = .dat 1 (x.sta.set.map inRow) := rfl
theorem casC_d6 (x : Cas) : (casC x)[6]? = some (.p (.dat 1 (x.sta.set.map inRow))) := rfl
theorem casP_s6 (x : Cas) : ((casP x).drop 6).take 1 = [.dat 1 (x.sta.set.map inRow)] := rfl
theorem casC_s6 (x : Cas) : ((casC x).drop 6).take 1 = [.p (.dat 1 (x.sta.set.map inRow))] := rfl
theorem casP_d7 (x : Cas) : (casP x).getD 7 default = .dat 1 (x.sta.on.map boRow) := rfl
theorem casC_d7 (x : Cas) : (casC x)[7]? = some (.p (.dat 1 (x.sta.on.map boRow))) := rfl
theorem casP_s7 (x : Cas) : ((casP x).drop 7).take 1 = [.dat 1 (x.sta.on.map boRow)] := rfl
theorem casC_s7 (x : Cas) : ((casC x).drop 7).take 1 = [.p (.dat 1 (x.sta.on.map boRow))] := rfl
theorem casP_d8 (x : Cas) : (casP x).getD 8 default = .lit (.int .i64 x.sec) := rfl
theorem casC_d8 (x : Cas) : (casC x)[8]? = some (.p (.lit (.int .i64 x.sec))) := rfl
theorem casP_s8 (x : Cas) : ((casP x).drop 8).take 1 = [.lit (.int .i64 x.sec)] := rfl
theorem casC_s8 (x : Cas) : ((casC x).drop 8).take 1 = [.p (.lit (.int .i64 x.sec))] := rfl
theorem casP_t0 (x : Cas) : (casP x).take 2 = netP x.net := rfl
theorem casC_t0 (x : Cas) : (casC x).take 2 = netC x.net := rfl
theorem casP_t4 (x : Cas) : ((casP x).drop 4).take 4 = staP x.sta := rfl
theorem casC_t4 (x : Cas) : ((casC x).drop 4).take 4 = staC x.sta := rfl
theorem casC_ren (o n : Nat) (x : Cas) : DV.renL o n (casC x) = casC x := rfl
theorem casC_frz (o : Nat) (v : FV) (x : Cas) : DV.frzL o v (casC x) = casC x := rfl
theorem casC_mp (r : Nat -> Nat) (x : Cas) : DV.mpL r (casC x) = casC x := rfl
theorem casC_uses (U : Nat -> Prop) (x : Cas) : DV.usesL U (casC x) = True := by simp [casC, DV.usesL, DV.uses]
attribute [push_cast] casP_map casP_len casC_len casP_take casC_take casC_all casP_d0 casC_d0 casP_s0 casC_s0 casP_d1 casC_d1 casP_s1 casC_s1 casP_d2 casC_d2 casP_s2 casC_s2 casP_d3 casC_d3 casP_s3 casC_s3 casP_d4 casC_d4 casP_s4 casC_s4 casP_d5 casC_d5 casP_s5 casC_s5 casP_d6 casC_d6 casP_s6 casC_s6 casP_d7 casC_d7 casP_s7 casC_s7 casP_d8 casC_d8 casP_s8 casC_s8 casP_t0 casC_t0 casP_t4 casC_t4 casC_ren casC_frz casC_mp casC_uses
def casOk (x : Cas) : Prop := netOk x.net /\ catOk x.cat /\ (x.rul.length <= 281474976710656 /\ ∀ y, y ∈ x.rul -> ruleOk y) /\ staOk x.sta /\ i64ok x.sec
theorem pt_cas {n : Nat} {xs : List PV} (h : PT Tryz.prog (n + 7) 33 xs) : ∃ x : Cas, xs = casP x /\ casOk x := by
  replace h := PT_struct (P := Tryz.prog) (t := 33) Tryz.underlying33 h
  obtain ⟨_, _, rfl, h0, _, _, rfl, h1, _, _, rfl, h2, _, _, rfl, h3, _, _, rfl, h4, rfl⟩ := h;obtain ⟨a0, rfl, k0⟩ := pt_net h0;obtain ⟨a1, rfl, k1⟩ := pt_sects h1;obtain ⟨a2, rfl, k2⟩ := pt_rules h2;obtain ⟨a3, rfl, k3⟩ := pt_sta h3;obtain ⟨a4, rfl, k4⟩ := pt_int h4;exact ⟨⟨a0, a1, a2, a3, a4⟩, rfl, ⟨k0, k1, k2, k3, k4⟩⟩
theorem dv_cas (x : Cas) : dvT Tryz.prog 33 (casP x) = casD x := by unfold dvT; rw [Tryz.underlying33]; rfl
theorem runC_ok {n : Net} {s : List Sect} {l : List Rule} {x : Sta} {infl : List Infl} {sec : Int} (no : netOk n) (co : catOk s) (steps : Int) : (runC n s l x infl sec steps).1.length <= 10000 /\ (runC n s l x infl sec steps).2.1.length <= 10000 /\ (∀ y, y ∈ (runC n s l x infl sec steps).1 -> staB n y = true /\ staOk y) /\ ∀ g, g ∈ (runC n s l x infl sec steps).2.1 -> g.passed.length <= 281474976710656 := by
  unfold runC;split
  · exact ⟨Nat.zero_le _, Nat.zero_le _, fun y hy => (by cases hy), fun g hg => (by cases hg)⟩
  next hv =>
  split
  · exact ⟨Nat.zero_le _, Nat.zero_le _, fun y hy => (by cases hy), fun g hg => (by cases hg)⟩
  next hb =>
  split
  · exact ⟨Nat.zero_le _, Nat.zero_le _, fun y hy => (by cases hy), fun g hg => (by cases hg)⟩
  next hw =>
  have hv : (netB n && staB n x && catB s && rulesB l) = true := Bool.not_eq_false _ ▸ hv;obtain ⟨nb, sb, cb, rb⟩ := hv_of hv;have hinv := (runG_inv (F := goC n s l infl sec) (s := x) (Q := fun t => staB n t = true) (fun k t _ h => stepC_sta no co h) sb steps.toNat).2;have hnn := netB_len nb;have hgs := runG_gs (F := goC n s l infl sec) (s := x) (R := fun g => g.passed.length <= 281474976710656) (fun k t _ => by
    have := @stepC_pas n s l sec t (inK n infl k infl.length);show (stepC n s l t (inK n infl k infl.length) sec).2.1.passed.length <= _;omega) steps.toNat
  have hst : steps.toNat <= 10000 := by omega
  by_cases he : (runG (goC n s l infl sec) x steps.toNat).e = 0
  · obtain ⟨l1, l2⟩ := runG_len he;exact ⟨by show (runG _ _ _).ss.length <= _; omega, by show (runG _ _ _).gs.length <= _; omega, fun y hy => ⟨hinv y hy, staOk_of nb (hinv y hy)⟩, hgs⟩
  · obtain ⟨l1, l2⟩ := runG_nil he;exact ⟨by show (runG _ _ _).ss.length <= _; rw [l1]; decide, by show (runG _ _ _).gs.length <= _; rw [l2]; decide, fun y hy => ⟨hinv y hy, staOk_of nb (hinv y hy)⟩, hgs⟩

end Go.Proofs.YtefkhfkapnmikaaGreat
