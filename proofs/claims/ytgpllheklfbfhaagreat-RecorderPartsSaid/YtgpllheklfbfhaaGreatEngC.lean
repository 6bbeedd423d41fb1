/-
  A part of the engine that reckons calls at the level of data.
  No condition.
-/

import Derived.Test.YtgpllheklfbfhaaGreatEngB
namespace Go.Eng
set_option linter.all false
def sliceCells (P : Program) : Nat -> TypeId -> List (Option Nat)
  | 0, _ => []
  | n + 1, t => match P.underlying t with
    | some (.struct fs) => fs.toList.flatMap fun f => sliceCells P n f.type
    | some (.slice e) => [some (P.cellsOf e)]
    | _ => [none]
inductive TK where
  | struct (fs : List (Nat × TypeId))
  | arr (n : Nat) (e : TypeId)
  | slice (e : TypeId)
  | int (k : IntKind)
  | bool
  | str
  | ptr (e : TypeId)
  | map (k e : TypeId)
  | bad
  | other
structure TD where
  size : Nat
  bytes : Nat
  zero : List Value
  held : Bool
  eqg : Bool
  fok : Bool
  sc : List (Option Nat)
  k : TK
def tkOf : TypeDesc -> TK
  | .struct fs => if fs.toList.all fun f => f.name != "_" then .struct (fs.toList.map fun f => (f.offset, f.type)) else .bad
  | .array n e => .arr n e
  | .slice e => .slice e
  | .int k => .int k
  | .bool => .bool
  | .string => .str
  | .pointer e => .ptr e
  | .map k e => .map k e
  | _ => .other
def td (P : Program) (t : TypeId) : Option TD :=
  match P.info? t, P.underlying t with
  | some i, some d => match i.zero with
    | some z => some { size := i.size, bytes := i.bytes, zero := z.cells.toList, held := P.stoodInHeld t, eqg := P.eqGuardType P.depth t, fok := (match d with | .struct fs => fs.toList.all fun f => (P.info? f.type).isSome | _ => vcell z), sc := sliceCells P 20 t, k := tkOf d }
    | none => none
  | _, _ => none
def TK.isAgg : TK -> Bool
  | .struct _ | .arr .. | .bad => true
  | _ => false
def TK.isArr : TK -> Bool
  | .arr .. => true
  | _ => false
def cdv (v : Value) : DV :=
  if vcell v then .p (.lit v) else
  match v with
  | .agg cs => if cs.toList.all vcell then .agg (cs.toList.map fun c => .p (.lit c)) else .junk
  | _ => .junk
def ev (f : Nat -> DV) : Operand -> DV
  | .tmp t => f t
  | .const v => cdv v
  | .func g => .clo g []
  | .global _ => .junk
def DV.un : DV -> DV
  | .opt _ d => d
  | d => d
def DV.okB : DV -> Bool
  | .opt b _ => b
  | _ => true
def cellsD : DV -> List DV
  | .agg cs => cs
  | d => [d]
inductive Eff where
  | no
  | add (id : Nat) (v : HV)
  | set (id : Nat) (v : HV)
  | app (old : Nat) (v : HV)
def Eff.quiet : Eff -> Bool
  | .no => true
  | _ => false
structure Out where
  pre : Prop
  fact : Prop
  d : DV
  e : Eff
def li (n : Int) : DV := .p (.lit (.int .i64 n))
def lb (b : Bool) : DV := .p (.lit (.bool b))
def ls (s : ByteArray) : DV := .p (.lit (.string s))
def lv (v : Value) : DV := .p (.lit v)
def idx {α : Type} (l : List (List α)) (i : Int) : List α := l.getD i.toNat []
def pure1 (d : DV) : Option Out := some { pre := True, fact := True, d, e := .no }
def dbin (op : BinOp) : Value -> Value -> Option (Prop × Value)
  | .int k a, .int k' b =>
    match op with
    | .shl => some (0 <= b, .int k (k.wrap (a * 2 ^ (min b.toNat k.bits))))
    | .shr => some (0 <= b, .int k (a.fdiv (2 ^ (min b.toNat k.bits))))
    | .add => if k = k' then some (True, .int k (k.wrap (a + b))) else none
    | .sub => if k = k' then some (True, .int k (k.wrap (a - b))) else none
    | .mul => if k = k' then some (True, .int k (k.wrap (a * b))) else none
    | .quo => if k = k' then some (b ≠ 0, .int k (k.wrap (a.tdiv b))) else none
    | .rem => if k = k' then some (b ≠ 0, .int k (a.tmod b)) else none
    | .and => if k = k' then some (True, .int k (k.wrap (BitVec.ofInt k.bits a &&& BitVec.ofInt k.bits b).toNat)) else none
    | .or => if k = k' then some (True, .int k (k.wrap (BitVec.ofInt k.bits a ||| BitVec.ofInt k.bits b).toNat)) else none
    | .xor => if k = k' then some (True, .int k (k.wrap (BitVec.ofInt k.bits a ^^^ BitVec.ofInt k.bits b).toNat)) else none
    | .andNot => if k = k' then some (True, .int k (k.wrap (BitVec.ofInt k.bits a &&& ~~~(BitVec.ofInt k.bits b)).toNat)) else none
    | .eql => if k = k' then some (True, .bool (a == b)) else none
    | .neq => if k = k' then some (True, .bool (a != b)) else none
    | .lss => if k = k' then some (True, .bool (decide (a < b))) else none
    | .leq => if k = k' then some (True, .bool (decide (a <= b))) else none
    | .gtr => if k = k' then some (True, .bool (decide (b < a))) else none
    | .geq => if k = k' then some (True, .bool (decide (b <= a))) else none
  | .string a, .string b =>
    match op with
    | .add => some (a.size + b.size <= BL, .string (a ++ b))
    | .eql => some (True, .bool (decide (a = b)))
    | .neq => some (True, .bool (!decide (a = b)))
    | .lss => some (True, .bool (Op.bytesLess a.toList b.toList))
    | .gtr => some (True, .bool (!(Op.bytesLess a.toList b.toList || decide (a = b))))
    | .leq => some (True, .bool (Op.bytesLess a.toList b.toList || decide (a = b)))
    | .geq => some (True, .bool (!Op.bytesLess a.toList b.toList))
    | _ => none
  | _, _ => none
def veq : TK -> Value -> Value -> Option Bool
  | .int _, .int k a, .int k' b => if k = k' then some (a == b) else none
  | .str, .string a, .string b => some (decide (a = b))
  | .bool, .bool a, .bool b => some (a == b)
  | _, _, _ => none
def deqF (P : Program) (g : TypeId -> List DV -> List DV -> Option Bool) (xs ys : List DV) : List (Nat × TypeId) -> Option Bool
  | [] => some true
  | (off, ft) :: fs => match td P ft with
    | some F => if off + F.size <= xs.length /\ off + F.size <= ys.length then (match g ft ((xs.drop off).take F.size) ((ys.drop off).take F.size), deqF P g xs ys fs with
      | some x, some y => some (x && y)
      | _, _ => none) else none
    | none => none
def deq (P : Program) : Nat -> TypeId -> List DV -> List DV -> Option Bool
  | 0, _, _, _ => none
  | n + 1, t, xs, ys => match td P t with
    | some T => match T.k with
      | .struct fs => if T.held then none else deqF P (deq P n) xs ys fs
      | k => match xs, ys with
        | [.p (.lit a)], [.p (.lit b)] => veq k a b
        | _, _ => none
    | none => none
def nilc (l : List (List PV)) (b : Bool) : DV := if l.isEmpty = true then .p .ub else lb b
def isNilP : PV -> Bool
  | .lit (.slice none 0 0) => true
  | _ => false
def dnilcmp (op : BinOp) (k : Option TK) (l : List (List PV)) : Option Out :=
  match op, k with
  | .eql, some (.slice _) => pure1 (nilc l false)
  | .neq, some (.slice _) => pure1 (nilc l true)
  | _, _ => none
def dbinop (P : Program) (op : BinOp) (t : TypeId) (x y : DV) : Option Out :=
  match x, y with
  | .p (.lit a), .p (.lit b) => match dbin op a b with
    | some (q, v) => some { pre := q, fact := True, d := .p (.lit v), e := .no }
    | none => match a, b with
      | .bool p, .bool q => match op, (td P t).map TD.k with
        | .eql, some TK.bool => pure1 (lb (p == q))
        | .neq, some TK.bool => pure1 (lb (!(p == q)))
        | _, _ => none
      | _, _ => none
  | .agg xs, .agg ys => match td P t with
    | some T => if T.eqg || !T.k.isAgg then none else match op, deq P 20 t xs ys with
      | .eql, some r => pure1 (lb r)
      | .neq, some r => pure1 (lb (!r))
      | _, _ => none
    | none => none
  | .p (.dat _ l), .p y => if isNilP y then dnilcmp op ((td P t).map TD.k) l else none
  | _, _ => none
def dun (op : UnOp) : Value -> Option Value
  | .int k n => match op with
    | .neg => some (.int k (k.wrap (0 - n)))
    | _ => none
  | .bool b => match op with
    | .not => some (.bool (!b))
    | _ => none
  | _ => none
def dload (T : TD) (d : DV) (h : Nat -> Option HV) : Option Out :=
  match d with
  | .ptr id off => match h id with
    | some (.blk _ cs) =>
      if T.k.isAgg then (if off + T.size <= cs.length then pure1 (.agg ((cs.drop off).take T.size)) else none)
      else match cs[off]? with
        | some x => pure1 x
        | none => none
    | some (.lent _ (r :: _)) =>
      if T.k.isAgg then some { pre := T.size <= (r.drop off).length, fact := True, d := .agg (((r.drop off).take T.size).map .p), e := .no }
      else some { pre := 0 < (r.drop off).length, fact := True, d := .p ((r.drop off).getD 0 default), e := .no }
    | _ => none
  | .eptr id n i j => match h id with
    | some (.lst _ m l) => if m = n then
        (if T.k.isAgg then (if j + T.size <= n then some { pre := i < l.length, fact := True, d := .agg (((l.getD i []).drop j).take T.size), e := .no } else none)
        else if j < n then some { pre := i < l.length, fact := True, d := (l.getD i []).getD j .junk, e := .no } else none)
      else none
    | _ => none
  | .p (.ptr cs) =>
    if T.k.isAgg then some { pre := T.size <= cs.length, fact := True, d := .agg ((cs.take T.size).map .p), e := .no }
    else some { pre := 0 < cs.length, fact := True, d := .p (cs.getD 0 default), e := .no }
  | _ => none
def putL (l : List DV) (off : Nat) (xs : List DV) : List DV := l.take off ++ xs ++ l.drop (off + xs.length)
def dstore (T : TD) (d x : DV) (h : Nat -> Option HV) : Option Out :=
  if (cellsD x).length = T.size /\ (cellsD x).all DV.cellB = true then
  match d with
  | .ptr id off => match h id with
    | some (.blk t cs) => if off + T.size <= cs.length then some { pre := True, fact := True, d := .junk, e := .set id (.blk t (putL cs off (cellsD x))) } else none
    | _ => none
  | .eptr id n i j => match h id with
    | some (.lst t m l) => if m = n /\ j + T.size <= n then
        some { pre := i < l.length, fact := True, d := .junk, e := .set id (.lst t m (l.set i (putL (l.getD i []) j (cellsD x)))) }
      else none
    | _ => none
  | _ => none
  else none
def dfieldAddr (off : Nat) : DV -> Option DV
  | .ptr id o => some (.ptr id (o + off))
  | .eptr id n i j => some (.eptr id n i (j + off))
  | .p (.ptr cs) => some (.p (.ptr (cs.drop off)))
  | _ => none
def dindexAddr (n : Nat) (x : DV) (i : Int) (h : Nat -> Option HV) : Option Out :=
  match x with
  | .p (.dat m l) => if m = n then some { pre := 0 <= i /\ i < l.length, fact := (idx l i).length = n, d := .p (.ptr (idx l i)), e := .no } else none
  | .gl id => match h id with
    | some (.lst _ m l) => if m = n then some { pre := 0 <= i /\ i < l.length, fact := True, d := .eptr id n i.toNat 0, e := .no } else none
    | some (.lent m l) => if m = n then some { pre := 0 <= i /\ i < l.length, fact := (idx l i).length = n, d := .p (.ptr (idx l i)), e := .no } else none
    | _ => none
  | _ => none
def dlen (x : DV) (h : Nat -> Option HV) : Option Out :=
  match x with
  | .p (.dat _ l) => some { pre := True, fact := l.length <= BL, d := li l.length, e := .no }
  | .p (.lit (.string s)) => pure1 (li s.size)
  | .p (.lit (.slice none 0 0)) => pure1 (li 0)
  | .gl id => match h id with
    | some (.lst _ _ l) => some { pre := True, fact := l.length <= BL, d := li l.length, e := .no }
    | some (.lent _ l) => some { pre := True, fact := l.length <= BL, d := li l.length, e := .no }
    | _ => none
  | _ => none
def srcD (n : Nat) (x : DV) (h : Nat -> Option HV) : Option (List (List DV)) :=
  match x with
  | .p (.dat m l) => if m = n then some (l.map (List.map .p)) else none
  | .gl id => match h id with
    | some (.lst _ m l) => if m = n then some l else none
    | _ => none
  | .p (.lit (.slice none 0 0)) => some []
  | .p (.lit (.string s)) => if n = 1 then some (s.data.toList.map fun c => [lv (.int .u8 c.toNat)]) else none
  | _ => none
def CellsB (l : List DV) : Prop := ∀ d, d ∈ l -> d.cellB = true
def isNilD : DV -> Bool
  | .p (.lit (.slice none 0 0)) => true
  | _ => false
def glId : DV -> Option Nat
  | .gl id => some id
  | _ => none
def dappend (T : TD) (e : TypeId) (nid pin : Nat) (s x : DV) (h : Nat -> Option HV) : Option Out :=
  match srcD T.size x h with
  | none => none
  | some xs =>
    if isNilD s then some { pre := xs.length * T.bytes <= 2 ^ 46 /\ xs.length <= 2 ^ 46 /\ CellsB xs.flatten, fact := True, d := .gl nid, e := .add nid (.lst e T.size xs) }
    else match glId s with
    | none => none
    | some id => match h id with
      | some (.lst e' m l) => if m = T.size /\ e' = e /\ pin <= id then
          some { pre := (l.length + xs.length) * T.bytes <= 2 ^ 46 /\ l.length + xs.length <= 2 ^ 46 /\ DV.usesL (fun i => i ≠ id) l.flatten /\ DV.usesL (fun i => i ≠ id) xs.flatten /\ CellsB xs.flatten, fact := True, d := .gl id, e := .app id (.lst e m (l ++ xs)) } else none
      | _ => none
def dslice (x : DV) (lo hi : Option Int) : Option Out :=
  match x with
  | .p (.lit (.string s)) => some { pre := 0 <= lo.getD 0 /\ lo.getD 0 <= hi.getD s.size /\ hi.getD s.size <= s.size, fact := True, d := ls (s.extract (lo.getD 0).toNat (hi.getD s.size).toNat), e := .no }
  | .p (.dat n l) => some { pre := 0 <= lo.getD 0 /\ lo.getD 0 <= hi.getD l.length /\ hi.getD l.length <= l.length, fact := True, d := .p (.dat n ((l.drop (lo.getD 0).toNat).take ((hi.getD l.length).toNat - (lo.getD 0).toNat))), e := .no }
  | _ => none
def fillD (zs : List DV) : List (Nat × DV) -> Option (List DV)
  | [] => some zs
  | (off, d) :: r => if off + (cellsD d).length <= zs.length /\ (cellsD d).all DV.cellB = true then fillD (putL zs off (cellsD d)) r else none
def partsD (place : Nat -> Option (Nat × Nat)) : List (Nat × DV) -> Option (List (Nat × DV))
  | [] => some []
  | (i, d) :: r => match place i, partsD place r with
    | some (off, size), some l => if (cellsD d).length = size then some ((off, d) :: l) else none
    | _, _ => none
def placeD (P : Program) (fs : List (Nat × TypeId)) (i : Nat) : Option (Nat × Nat) :=
  match fs[i]? with
  | some (off, ft) => match td P ft with
    | some F => some (off, F.size)
    | none => none
  | none => none
def fillS (l : List (List DV)) (n : Nat) : List (Nat × DV) -> Option (List (List DV))
  | [] => some l
  | (i, d) :: r => if i < l.length /\ (cellsD d).length = n /\ (cellsD d).all DV.cellB = true then fillS (l.set i (cellsD d)) n r else none
def asI : DV -> Option Int
  | .p (.lit (.int _ n)) => some n
  | _ => none
def asIO (ρ : Operand -> DV) : Option Operand -> Option (Option Int)
  | none => some none
  | some x => (asI (ρ x).un).map some
def rowInt : List PV -> Int
  | [.lit (.int _ n)] => n
  | _ => 0
def bytesOf (l : List (List PV)) : List UInt8 := l.map fun r => UInt8.ofNat (rowInt r).toNat
def isByteRow : List PV -> Prop
  | [.lit (.int .u8 _)] => True
  | _ => False
def byteStr (l : List (List PV)) : ByteArray := ⟨(bytesOf l).toArray⟩
def byteRows (l : List (List PV)) : Prop := ∀ r, r ∈ l -> isByteRow r
def datRows : DV -> Option (List (List PV))
  | .p (.dat 1 l) => some l
  | _ => none
def tkByte (P : Program) : TK -> Bool
  | .slice e => match td P e with
    | some F => (match F.k with
      | .int .u8 => true
      | _ => false)
    | none => false
  | _ => false
def tkStr : TK -> Bool
  | .str => true
  | _ => false
def byRow (b : UInt8) : List PV := [.lit (.int .u8 b.toNat)]
def dstrB : DV -> Option Out
  | .p (.lit (.string s)) => some { pre := s.size <= BL, fact := True, d := .p (.dat 1 (s.data.toList.map byRow)), e := .no }
  | _ => none
def cv (l : List Value) : List DV := l.map fun v => .p (.lit v)
def dconv : TK -> DV -> Option Out
  | .int k, .p (.lit (.int _ n)) => pure1 (lv (.int k (k.wrap n)))
  | .str, .p (.lit (.string s)) => pure1 (ls s)
  | _, _ => none
def dminmax (mx : Bool) (x y : DV) : Option Out :=
  match x, y with
  | .p (.lit (.int k a)), .p (.lit (.int k' b)) => if k = k' then pure1 (lv (.int k (if mx then (if a < b then b else a) else (if b < a then b else a)))) else none
  | _, _ => none
def dnil : DV -> Option Out
  | .ptr id off => pure1 (.ptr id off)
  | .eptr id n i j => pure1 (.eptr id n i j)
  | .p (.ptr cs) => pure1 (.p (.ptr cs))
  | .clo g c => pure1 (.clo g c)
  | _ => none
def dunop (op : UnOp) : DV -> Option Out
  | .p (.lit v) => match dun op v with
    | some r => pure1 (lv r)
    | none => none
  | _ => none
def dext (x : DV) (i : Nat) : Option Out :=
  match x with
  | .tup cs => match cs[i]? with
    | some d => pure1 d
    | none => none
  | _ => none
def dindex (x : DV) (n : Int) : Option Out :=
  match x with
  | .p (.lit (.string s)) => some { pre := 0 <= n /\ n < s.size, fact := True, d := lv (.int .u8 ((s.data.toList.getD n.toNat 0).toNat : Int)), e := .no }
  | _ => none
def dfield (F : TD) (off : Nat) : DV -> Option Out
  | .agg cs => if F.k.isAgg then (if off + F.size <= cs.length then pure1 (.agg ((cs.drop off).take F.size)) else none) else
    match cs[off]? with
    | some d => pure1 d
    | none => none
  | _ => none
def dslice1 (n : Nat) (x : DV) (lo hi : Option Int) : Option Out :=
  match x with
  | .p (.dat m d) => if n = m then dslice (.p (.dat m d)) lo hi else none
  | _ => none
def dpick (t : Bool) (x y : DV) : DV :=
  match x, y with
  | .p (.lit (.bool p)), .p (.lit (.bool q)) => lb (bif t then p else q)
  | x, y => bif t then x else y
def isPick : Op -> Bool
  | .pick .. => true
  | _ => false
def oksD (f : Nat -> DV) (o : Op) : Bool :=
  match o with
  | .pick c a b => (ev f c).okB && (match (ev f c).un with
    | .p (.lit (.bool t)) => bif t then (ev f a).okB else (ev f b).okB
    | _ => false)
  | o => o.operands.toList.all fun x => (ev f x).okB
theorem oksD_all {f : Nat -> DV} {o : Op} (hp : isPick o = false) (h : oksD f o = true) : ∀ x, x ∈ o.operands.toList -> (ev f x).okB = true := fun x hx => by
  cases o with
  | pick => cases hp
  | _ => exact List.all_eq_true.1 h x hx
def isStr : DV -> Bool
  | .p (.lit (.string _)) => true
  | _ => false
def vkey : Value -> Value -> Bool
  | .int _ a, .int _ b => a == b
  | .string a, .string b => decide (a = b)
  | .bool a, .bool b => a == b
  | _, _ => false
def tkV : TK -> Value -> Bool
  | .int k, .int k' _ => decide (k' = k)
  | .str, .string _ => true
  | .bool, .bool _ => true
  | _, _ => false
def mfind : List (Value × DV) -> Value -> Option DV
  | [], _ => none
  | (k, d) :: r, x => if vkey x k then some d else mfind r x
def mset : List (Value × DV) -> Value -> DV -> List (Value × DV)
  | [], x, v => [(x, v)]
  | (k, d) :: r, x, v => if vkey x k then (x, v) :: r else (k, d) :: mset r x v
def keysOk (K : TK) (es : List (Value × DV)) : Prop := ∀ e, e ∈ es -> tkV K e.1 = true
def litsOf : List DV -> Option (List Value)
  | [] => some []
  | .p (.lit v) :: r => match litsOf r with
    | some l => some (v :: l)
    | none => none
  | _ :: _ => none
def flatKey (P : Program) (vs : List Value) : List (Nat × TypeId) -> Bool
  | [] => true
  | (off, ft) :: r => (match td P ft with
    | some F => decide (F.size = 1) && !F.k.isAgg && decide (off < vs.length) && tkV F.k (vs.getD off default)
    | none => false) && flatKey P vs r
def isNilL : List (Value × DV) -> Bool
  | [] => true
  | _ => false
def dkey (P : Program) (kt : TypeId) (es : List (Value × DV)) (d : DV) : Option Value :=
  match td P kt with
  | some K => match d with
    | .p (.lit v) => if tkV K.k v then some v else none
    | .agg cs => match K.k, litsOf cs with
      | .struct fs, some vs => if isNilL es && flatKey P vs fs then some (.agg vs.toArray) else none
      | _, _ => none
    | _ => none
  | none => none
def pmap : PV -> Option (List (Value × DV))
  | .lit (.map none) => some []
  | .map ks xs => some (ks.zip (xs.map .p))
  | _ => none
theorem pmap_nil : pmap (.lit (.map none)) = some [] := rfl
def mapOf (x : DV) (h : Nat -> Option HV) : Option (List (Value × DV)) :=
  match x with
  | .mref id => match h id with
    | some (.map es) => some es
    | _ => none
  | .p y => pmap y
  | _ => none
def tkOf' (P : Program) (t : TypeId) : TK := match td P t with
  | some T => T.k
  | none => .bad
def dlookup (P : Program) (kt et : TypeId) (x k : DV) (ok : Bool) (h : Nat -> Option HV) : Option Out :=
  match td P et, mapOf x h with
  | some E, some es => match E.zero, dkey P kt es k with
    | [z], some kv => if E.k.isAgg then none else if E.fok && vcell z then some { pre := keysOk (tkOf' P kt) es, fact := True, d := if ok then .tup [(mfind es kv).getD (.p (.lit z)), lb (mfind es kv).isSome] else (mfind es kv).getD (.p (.lit z)), e := .no } else none
    | _, _ => none
  | _, _ => none
def dmapset (P : Program) (kt : TypeId) (x k v : DV) (h : Nat -> Option HV) : Option Out :=
  match x with
  | .mref id => match h id with
    | some (.map es) => match dkey P kt es k with
      | some kv => if v.cellB then some { pre := keysOk (tkOf' P kt) es, fact := True, d := .junk, e := .set id (.map (mset es kv v)) } else none
      | none => none
    | _ => none
  | _ => none
def dmaplen (x : DV) (h : Nat -> Option HV) : Option Out :=
  match mapOf x h with
  | some es => pure1 (li es.length)
  | none => none
def dop (P : Program) (nid pin : Nat) (o : Op) (ρ : Operand -> DV) (h : Nat -> Option HV) : Option Out :=
  match o with
  | .move x | .assign x => pure1 (ρ x).un
  | .pick c a b => match (ρ c).un with
    | .p (.lit (.bool t)) => pure1 (dpick t (ρ a).un (ρ b).un)
    | _ => none
  | .box e x => match td P e with
    | some _ => if (cellsD (ρ x).un).all DV.cellB then some { pre := True, fact := True, d := .ptr nid 0, e := .add nid (.blk e (cellsD (ρ x).un)) } else none
    | none => none
  | .alloc e => match td P e with
    | some T => if T.zero.all vcell then some { pre := True, fact := True, d := .ptr nid 0, e := .add nid (.blk e (cv T.zero)) } else none
    | none => none
  | .build t parts => match td P t with
    | some T => if T.zero.all vcell && (T.fok || T.k.isArr) then match T.k with
      | .struct fs => match partsD (placeD P fs) (parts.toList.map fun (i, x) => (i, (ρ x).un)) with
        | some l => match fillD (cv T.zero) l with
          | some cs => pure1 (.agg cs)
          | none => none
        | none => none
      | .arr _ e => match td P e with
        | some F => match partsD (fun i => some (i * F.size, F.size)) (parts.toList.map fun (i, x) => (i, (ρ x).un)) with
          | some l => match fillD (cv T.zero) l with
            | some cs => pure1 (.agg cs)
            | none => none
          | none => none
        | none => none
      | _ => none else none
    | none => none
  | .makeSlice t x y => match td P t with
    | some T => match T.k, asI (ρ x).un, asI (ρ y).un with
      | .slice e, some n, some m => match td P e with
        | some E => if E.zero.all vcell /\ E.zero.length = E.size /\ 0 < E.size then
            some { pre := 0 <= n /\ m = n /\ n <= 2 ^ 40 /\ n * (E.bytes : Int) <= 2 ^ 46, fact := True, d := .gl nid, e := .add nid (.lst e E.size (List.replicate n.toNat (cv E.zero))) } else none
        | none => none
      | _, _, _ => none
    | none => none
  | .buildSlice t len parts => match td P t with
    | some T => match T.k with
      | .slice e => match td P e with
        | some E => if E.zero.all vcell /\ E.zero.length = E.size /\ 0 < E.size /\ len * E.size <= 2 ^ 24 then
          match fillS (List.replicate len (cv E.zero)) E.size (parts.toList.map fun (i, x) => (i, (ρ x).un)) with
          | some l => some { pre := True, fact := True, d := .gl nid, e := .add nid (.lst e E.size l) }
          | none => none else none
        | none => none
      | _ => none
    | none => none
  | .load t x => match td P t with
    | some T => dload T (ρ x).un h
    | none => none
  | .store t x y => match td P t with
    | some T => dstore T (ρ x).un (ρ y).un h
    | none => none
  | .nilCheck x => dnil (ρ x).un
  | .binOp op t x y _ => dbinop P op t (ρ x).un (ρ y).un
  | .unOp op _ x => dunop op (ρ x).un
  | .convert src dst x => match td P src, td P dst with
    | some S, some T => (match datRows (ρ x).un with
      | some l => if tkByte P S.k && tkStr T.k then some { pre := byteRows l, fact := True, d := ls (byteStr l), e := .no } else none
      | none => if tkStr S.k && tkByte P T.k then dstrB (ρ x).un else dconv T.k (ρ x).un)
    | _, _ => none
  | .makeFunc (.func g) first caps => if first.size = 0 then pure1 (.clo g (caps.toList.map fun x => (ρ x).un)) else none
  | .slice t x lo hi none => match td P t with
    | some T => match T.k, asIO ρ lo, asIO ρ hi with
      | .str, some l, some r => if isStr (ρ x).un then dslice (ρ x).un l r else none
      | .slice e, some l, some r => match td P e with
        | some E => dslice1 E.size (ρ x).un l r
        | none => none
      | _, _, _ => none
    | none => none
  | .fieldAddr t x f => match td P t with
    | some T => match T.k with
      | .struct fs => match fs[f]? with
        | some (off, ft) => match td P ft with
          | some F => if F.size ≠ 0 then (match dfieldAddr off (ρ x).un with
            | some d => pure1 d
            | none => none) else none
          | none => none
        | none => none
      | _ => none
    | none => none
  | .field t x f => match td P t with
    | some T => match T.k with
      | .struct fs => match fs[f]? with
        | some (off, ft) => match td P ft with
          | some F => dfield F off (ρ x).un
          | none => none
        | none => none
      | _ => none
    | none => none
  | .indexAddr t x i => match td P t with
    | some T => match T.k, asI (ρ i).un with
      | .slice e, some n => match td P e with
        | some E => dindexAddr E.size (ρ x).un n h
        | none => none
      | .arr k e, some n => match td P e with
        | some E => match dfieldAddr (n.toNat * E.size) (ρ x).un with
          | some d => some { pre := 0 <= n /\ n < k, fact := True, d := d, e := .no }
          | none => none
        | none => none
      | _, _ => none
    | none => none
  | .index t x i => match td P t with
    | some T => match T.k, asI (ρ i).un with
      | .str, some n => dindex (ρ x).un n
      | _, _ => none
    | none => none
  | .extract x i => dext (ρ x).un i
  | .call { callee := .builtin .len, args, argTypes } => match args.toList, argTypes.toList with
    | [x], [t] => match td P t with
      | some T => match T.k with
        | .slice _ => if isStr (ρ x).un then none else dlen (ρ x).un h
        | .str => if isStr (ρ x).un then dlen (ρ x).un h else none
        | .map _ _ => dmaplen (ρ x).un h
        | _ => none
      | none => none
    | _, _ => none
  | .call { callee := .builtin .append, args, argTypes } => match args.toList, argTypes.toList with
    | [s, x], [t, u] => match td P t, td P u with
      | some T, some V => match T.k, V.k with
        | .slice _, .int _ => none
        | .slice e, _ => match td P e with
          | some E => if E.zero.length = E.size /\ E.bytes <= 2 ^ 38 then dappend E e nid pin (ρ s).un (ρ x).un h else none
          | none => none
        | _, _ => none
      | _, _ => none
    | _, _ => none
  | .call { callee := .builtin .min, args, argTypes := _ } => match args.toList with
    | [x, y] => dminmax false (ρ x).un (ρ y).un
    | _ => none
  | .call { callee := .builtin .max, args, argTypes := _ } => match args.toList with
    | [x, y] => dminmax true (ρ x).un (ρ y).un
    | _ => none
  | .makeMap _ none => some { pre := True, fact := True, d := .mref nid, e := .add nid (.map []) }
  | .lookup t x k ok => match td P t with
    | some T => match T.k with
      | .map kt et => dlookup P kt et (ρ x).un (ρ k).un ok h
      | _ => none
    | none => none
  | .mapUpdate t x k v => match td P t with
    | some T => match T.k with
      | .map kt _ => dmapset P kt (ρ x).un (ρ k).un (ρ v).un h
      | _ => none
    | none => none
  | .insert t x k v => match td P t with
    | some T => match T.k with
      | .map kt _ => dmapset P kt (ρ x).un (ρ k).un (ρ v).un h
      | _ => none
    | none => none
  | _ => none
end Go.Eng
