/- A part of the proof of a law of this seat: no condition. -/
import GoSem.Step
import Derived.Tactics2
set_option linter.unusedVariables false
set_option linter.unusedSimpArgs false
namespace Go.Ax

/-- An object's name: made by an operation; handed in; a row once more, grown; what a call brought. -/
inductive Oid where
 | loc (t : Nat)
 | par (j : Nat)
 | alt (o : Oid)
 | sub (t j : Nat)
 | hole (i : Nat)
 deriving DecidableEq
def Oid.root : Oid → Oid
 | .alt o => o.root
 | o => o

inductive V where
 | any
 | nils
 | int (k : IntKind) (n : Int)
 | bool (b : Bool)
 | str (s : List UInt8)
 | nilp
 | nilfn
 | fn (f : FuncId)
 | agg (cs : List V)
 | slice (sz : Nat) (xs : List V)
 | own (sz : Nat) (xs : List V)
 | ref (o : Oid) (off : Nat)
 | eptr (cs : List V) (off : Nat)
 | clo (f : FuncId) (first caps : List V)
 | tup (vs : List V)
 | sl (sz : Nat) (o : Oid) (n : Nat)
 | mp (o : Oid)
 deriving Inhabited

def V.cells : V → List V
 | .agg cs => cs
 | v => [v]
def V.weak1 : V → V
 | .own sz xs => .slice sz xs
 | v => v
def V.weak : V → V
 | .own sz xs => .slice sz xs
 | .agg cs => .agg (cs.map V.weak1)
 | v => v
def V.isTup : V → Bool
 | .tup _ => true
 | _ => false
/-- May it stand in an object? -/
def V.storable : V → Bool
 | .any | .tup _ | .clo .. => false
 | _ => true
def V.pure1 : V → Bool
 | .any | .nils | .ref .. | .eptr .. | .clo .. | .tup _ | .agg _ | .sl .. | .mp _ => false
 | _ => true
/-- Data: nothing that leads to an object. -/
def V.pure : V → Bool
 | .agg cs => cs.all V.pure1
 | v => v.pure1
/-- The cells of what is stored. -/
def V.scells : V → List V
 | .agg cs => cs.map V.weak1
 | v => [v]
def V.isOwn : V → Bool
 | .own .. => true
 | _ => false

/-- What is told of a type. -/
structure TI where
 size : Nat
 bytes : Nat
 isAgg : Bool
 zero : List V
 esz : Option (Nat × Nat)
 flds : List (Nat × Nat)
 isStr : Bool
 eqk : List Nat
 ez : List V := []
 arr : Option (Nat × Nat) := none
 kv : Option (Nat × V) := none
 ik : Option IntKind := none
 isB : Bool := false
 keep : Bool := false
 deriving Inhabited

/-- The nil slice, typed. -/
def fixT (ti : Option TI) (v : V) : V :=
 match v with
 | .nils => match ti.bind (·.esz) with
  | some (n, _) => .own n []
  | none => .nils
 | v => v

def ofConst : Value → V
 | .int k n => .int k n
 | .bool b => .bool b
 | .string s => .str s.data.toList
 | .pointer none => .nilp
 | .slice none 0 0 => .nils
 | .nilFunc => .nilfn
 | _ => .any

/-- An object: a block of cells (a row's lead to no object); a map, its entries numbered from a base on; what nobody may use any more. -/
inductive Ob where
 | cells (row : Bool) (l : List V)
 | map (base : Nat) (l : List (V × V))
 | dead
def Ob.alive : Ob → Bool
 | .dead => false
 | _ => true

structure St where
 env : List (Nat × V)
 obs : List (Oid × Ob)

def look (t : Nat) : List (Nat × V) → V
 | [] => .any
 | (u, v) :: r => if u = t then v else look t r
def lookO (o : Oid) : List (Oid × Ob) → Option Ob
 | [] => none
 | (u, v) :: r => if u = o then some v else lookO o r
def St.tm (st : St) (t : Nat) : V := look t st.env
def St.ob (st : St) (o : Oid) : Option Ob := lookO o st.obs
def St.put (st : St) (t : Nat) (v : V) : St := { st with env := (t, v) :: st.env }
def St.putO (st : St) (o : Oid) (x : Ob) : St := { st with obs := (o, x) :: st.obs }

inductive Rd (α : Type) where
 | ret (a : α)
 | fail
 | tm (t : Nat) (k : V → Rd α)
 | ob (o : Oid) (k : Option Ob → Rd α)
def Rd.bind {α β : Type} : Rd α → (α → Rd β) → Rd β
 | .ret a, f => f a
 | .fail, _ => .fail
 | .tm t k, f => .tm t fun v => (k v).bind f
 | .ob o k, f => .ob o fun v => (k v).bind f
instance : Monad Rd where
 pure := Rd.ret
 bind := Rd.bind
def Rd.run {α : Type} (st : St) : Rd α → Option α
 | .ret a => some a
 | .fail => none
 | .tm t k => (k (st.tm t)).run st
 | .ob o k => (k (st.ob o)).run st

inductive Wr where
 | t (t : Nat) (v : V)
 | o (o : Oid) (x : Ob)
def St.app (st : St) : List Wr → St
 | [] => st
 | .t t v :: r => (st.put t v).app r
 | .o o x :: r => (st.putO o x).app r

/-- A call as the caller sees it: what it gives up, the objects that it passes, those of them that may lie elsewhere then, how many new ones it may get. -/
structure Way where
 pre : List Wr
 ids : List Oid
 mv : List Nat
 dst : Option Nat
inductive Res where
 | ws (l : List Wr)
 | call (f : FuncId) (args : List V) (objs : List Ob) (nw : Nat) (w : Way)

/-- What an operation without a call writes. -/
inductive Ws where
 | ws (l : List Wr)

def ev : Operand → Rd V
 | .tmp t => .tm t .ret
 | .const v => .ret (ofConst v)
 | .func f => .ret (.fn f)
 | .global _ => .fail
def evs : List Operand → Rd (List V)
 | [] => .ret []
 | x :: r => do let v ← ev x; let vs ← evs r; pure (v :: vs)
def evOpt : Option Operand → Rd (Option V)
 | none => .ret none
 | some x => do let v ← ev x; pure (some v)

def giveUp (src : Operand) (v : V) : List Wr :=
 match src with
 | .tmp t => if v.isOwn then [.t t v.weak] else []
 | _ => []
def out (dst : Option Nat) (v : V) : List Wr :=
 match dst with
 | some d => [.t d v]
 | none => []
def rOpt {α : Type} : Option α → Rd α
 | some a => .ret a
 | none => .fail

/-- Elements of a slice. -/
def V.elems : V → Option (Nat × List V)
 | .slice sz xs => some (sz, xs)
 | .own sz xs => some (sz, xs)
 | _ => none
def idx (xs : List V) (i : Int) : Option V := if 0 ≤ i then xs[i.toNat]? else none
def idxB (s : List UInt8) (i : Int) : Option UInt8 := if 0 ≤ i then s[i.toNat]? else none
/-- A value out of cells. -/
def getS (ti : TI) (cs : List V) (off : Nat) : Option V :=
 if ti.isAgg then (if off + ti.size ≤ cs.length then some (.agg ((cs.drop off).take ti.size)) else none) else cs[off]?
def setAll : List V → Nat → List V → List V
 | cs, _, [] => cs
 | cs, off, v :: vs => setAll (cs.set off v) (off + 1) vs

def eq1 : Nat → V → V → Option Bool
 | 2, .int k a, .int k' b => if k = k' then some (a == b) else none
 | 4, .str a, .str b => some (a == b)
 | 1, .bool a, .bool b => some (a == b)
 | _, _, _ => none
def eqCells : List Nat → List V → List V → Option Bool
 | [], [], [] => some true
 | k :: ks, x :: xs, y :: ys => match eq1 k x y, eqCells ks xs ys with
  | some a, some b => some (a && b)
  | _, _ => none
 | _, _, _ => none
def eqAgg (kd : List Nat) (a b : List V) : Option Bool :=
 match kd with
 | 10 :: ks => eqCells ks a b
 | _ => none
def binS (kd : List Nat) (op : BinOp) (x y : V) : Option V :=
 match op, x, y with
 | .add, .int k a, .int k' b => if k = k' then some (.int k (k.wrap (a + b))) else none
 | .sub, .int k a, .int k' b => if k = k' then some (.int k (k.wrap (a - b))) else none
 | .mul, .int k a, .int k' b => if k = k' then some (.int k (k.wrap (a * b))) else none
 | .quo, .int k a, .int k' b => if k = k' ∧ b ≠ 0 then some (.int k (k.wrap (a.tdiv b))) else none
 | .rem, .int k a, .int k' b => if k = k' ∧ b ≠ 0 then some (.int k (a.tmod b)) else none
 | .eql, .int k a, .int k' b => if k = k' then some (.bool (a == b)) else none
 | .neq, .int k a, .int k' b => if k = k' then some (.bool (a != b)) else none
 | .lss, .int k a, .int k' b => if k = k' then some (.bool (decide (a < b))) else none
 | .leq, .int k a, .int k' b => if k = k' then some (.bool (decide (a ≤ b))) else none
 | .gtr, .int k a, .int k' b => if k = k' then some (.bool (decide (a > b))) else none
 | .geq, .int k a, .int k' b => if k = k' then some (.bool (decide (a ≥ b))) else none
 | .add, .str a, .str b => if a.length + b.length ≤ 1000000000000000000 then some (.str (a ++ b)) else none
 | .eql, .str a, .str b => some (.bool (a == b))
 | .neq, .str a, .str b => some (.bool (!(a == b)))
 | .lss, .str a, .str b => some (.bool (Op.bytesLess a b))
 | .leq, .str a, .str b => some (.bool (Op.bytesLess a b || a == b))
 | .gtr, .str a, .str b => some (.bool (!(Op.bytesLess a b || a == b)))
 | .geq, .str a, .str b => some (.bool (!(Op.bytesLess a b)))
 | .eql, .bool a, .bool b => if kd = [1] then some (.bool (a == b)) else none
 | .neq, .bool a, .bool b => if kd = [1] then some (.bool (!(a == b))) else none
 | .eql, .agg a, .agg b => (eqAgg kd a b).map .bool
 | .neq, .agg a, .agg b => (eqAgg kd a b).map (fun r => .bool (!r))
 | .eql, .nilp, .nilp => if kd = [3] then some (.bool true) else none
 | .neq, .nilp, .nilp => if kd = [3] then some (.bool false) else none
 | .eql, .ref _ _, .nilp => if kd = [3] then some (.bool false) else none
 | .neq, .ref _ _, .nilp => if kd = [3] then some (.bool true) else none
 | .eql, .slice _ (_ :: _), .nils => if kd = [5] then some (.bool false) else none
 | .neq, .slice _ (_ :: _), .nils => if kd = [5] then some (.bool true) else none
 | .eql, .own _ (_ :: _), .nils => if kd = [5] then some (.bool false) else none
 | .neq, .own _ (_ :: _), .nils => if kd = [5] then some (.bool true) else none
 | .eql, .sl _ _ (_ + 1), .nils => if kd = [5] then some (.bool false) else none
 | .neq, .sl _ _ (_ + 1), .nils => if kd = [5] then some (.bool true) else none
 | .eql, .nils, .nils => if kd = [5] then some (.bool true) else none
 | _, _, _ => none
def unS (op : UnOp) (x : V) : Option V :=
 match op, x with
 | .not, .bool b => some (.bool (!b))
 | .neg, .int k n => some (.int k (k.wrap (0 - n)))
 | _, _ => none
def bndS (d : Nat) : Option V → Option Int
 | none => some d
 | some (.int .i64 n) => some n
 | _ => none
def sliceS (ti : TI) (x : V) (lo hi : Option V) : Option V :=
 match x with
 | .str s => match bndS 0 lo, bndS s.length hi with
  | some l, some h => if 0 ≤ l ∧ l ≤ h ∧ h ≤ s.length ∧ ti.isStr = true then some (.str ((s.take h.toNat).drop l.toNat)) else none
  | _, _ => none
 | x => match x.elems with
  | some (sz, xs) => match bndS 0 lo, bndS xs.length hi with
   | some l, some h => if 0 ≤ l ∧ l ≤ h ∧ h ≤ xs.length ∧ ti.esz.map (·.1) = some sz then some (.slice sz ((xs.take h.toNat).drop l.toNat)) else none
   | _, _ => none
  | none => none

/-- The objects that values lead to. -/
def refs1 : V → List Oid
 | .ref o _ => [o]
 | .sl _ o _ => [o]
 | .mp o => [o]
 | _ => []
def refsV : V → List Oid
 | .ref o _ => [o]
 | .sl _ o _ => [o]
 | .mp o => [o]
 | .agg cs => cs.flatMap refs1
 | .clo _ a b => a.flatMap refs1 ++ b.flatMap refs1
 | .tup _ => []
 | _ => []
def place (o : Oid) : List Oid → Option Nat
 | [] => none
 | u :: r => if u = o then some 0 else (place o r).map (· + 1)
def ren1 (f : Oid → Option Oid) : V → V
 | .ref o off => match f o with | some u => .ref u off | none => .any
 | .sl sz o n => match f o with | some u => .sl sz u n | none => .any
 | .mp o => match f o with | some u => .mp u | none => .any
 | v => v
def ren2 (f : Oid → Option Oid) : V → V
 | .ref o off => match f o with | some u => .ref u off | none => .any
 | .sl sz o n => match f o with | some u => .sl sz u n | none => .any
 | .mp o => match f o with | some u => .mp u | none => .any
 | .agg cs => .agg (cs.map (ren1 f))
 | .clo g a b => .clo g (a.map (ren1 f)) (b.map (ren1 f))
 | v => v
def renV (f : Oid → Option Oid) : V → V
 | .tup vs => .tup (vs.map (ren2 f))
 | v => ren2 f v
def toPar (ids : List Oid) (o : Oid) : Option Oid := (place o ids).map .par
/-- A callee's names as the caller's. -/
def ofPar (ids : List Oid) (mv : List Nat) (dst : Option Nat) : Oid → Option Oid
 | .par j => if mv.contains j then (ids[j]?).map .alt else ids[j]?
 | .sub 0 i => dst.map fun d => .sub d i
 | _ => none
def dedup : List Oid → List Oid → List Oid
 | acc, [] => acc
 | acc, o :: r => if (place o acc).isSome then dedup acc r else dedup (acc ++ [o]) r
def getObs : List Oid → Rd (List Ob)
 | [] => .ret []
 | o :: r => .ob o fun
  | some .dead => .fail
  | none => .fail
  | some c => do let l ← getObs r; pure (c :: l)
/-- Names that nothing has. -/
def fresh : List Oid → Rd Unit
 | [] => .ret ()
 | o :: r => .ob o fun
  | none => fresh r
  | some _ => .fail
def Ob.refs : Ob → List Oid
 | .cells false l => l.flatMap refs1
 | _ => []
def slRefs1 : V → List Oid
 | .sl _ o _ => [o]
 | _ => []
def Ob.slRefs : Ob → List Oid
 | .cells false l => l.flatMap slRefs1
 | _ => []
def Ob.ren (f : Oid → Option Oid) : Ob → Ob
 | .cells false l => .cells false (l.map (ren1 f))
 | x => x
/-- The rows that a call's objects hold: they may lie elsewhere behind the call. -/
def mvOf (args : List V) (objs : List Ob) : List Nat :=
 (dedup [] (objs.flatMap Ob.slRefs)).filterMap fun
  | .par j => if (place (.par j) (args.flatMap refsV)).isSome then none else some j
  | _ => none
def weakBut (gv : Option (Nat × Nat)) (vs : List V) : List V :=
 vs.zipIdx.map fun x => match gv with
  | some (j, _) => if x.2 = j then x.1 else x.1.weak
  | none => x.1.weak
def preOf (gv : Option (Nat × Nat)) (vs : List V) : List Wr :=
 match gv with
 | some (j, t) => [.t t (vs.getD j .any).weak]
 | none => []
def callO (gv : Option (Nat × Nat)) (nw : Nat) (f : FuncId) (vs : List V) (dst : Option Nat) : Rd Res := do
 let l0 := dedup [] (vs.flatMap refsV)
 let o0 ← getObs l0
 let l1 := dedup l0 (o0.flatMap Ob.refs)
 let o1 ← getObs l1
 let ids := dedup l1 (o1.flatMap Ob.refs)
 let objs ← getObs ids
 let args := (weakBut gv vs).map (renV (toPar ids))
 let objs := objs.map (Ob.ren (toPar ids))
 let mv := mvOf args objs
 fresh ((mv.filterMap fun j => (ids[j]?).map .alt) ++ (match dst with | some d => (List.range nw).map (.sub d) | none => []))
 pure (.call f args objs nw ⟨preOf gv vs, ids, mv, dst⟩)
/-- A call that leaves all as it is: the contract is asked for at f + 1000000. -/
def callP (f : FuncId) (vs : List V) (dst : Option Nat) : Rd Res := do
 let l0 := dedup [] (vs.flatMap refsV)
 let o0 ← getObs l0
 let l1 := dedup l0 (o0.flatMap Ob.refs)
 let o1 ← getObs l1
 let ids := dedup l1 (o1.flatMap Ob.refs)
 let objs ← getObs ids
 let args := (weakBut none vs).map (renV (toPar ids))
 if ((objs.flatMap Ob.refs).all fun o => (place o ids).isSome) = true then
  pure (.call (f + 1000000) args (objs.map (Ob.ren (toPar ids))) 0 ⟨[], ids, [], dst⟩)
 else .fail
def callS (gv : Option (Nat × Nat)) (nw : Nat) (f : FuncId) (vs : List V) (dst : Option Nat) : Rd Res :=
 if nw = 1000000 then callP f vs dst else if f < 1000000 then callO gv nw f vs dst else .fail

/-- A row's zero value that lies in no object. -/
def V.nz : V → V
 | .own _ [] => .nils
 | v => v
/-- What a literal starts from. -/
def z0 (ti : TI) : List V := bif ti.keep then ti.zero.map V.nz else ti.zero
/-- A nil row that comes to lie in an object. -/
def fixZ2 : V → V → V
 | .own k [], .nils => .own k []
 | _, v => v
def boxZ : List V → List V → List V
 | z :: zs, c :: cs => fixZ2 z c :: boxZ zs cs
 | _, cs => cs
/-- A struct's cells, some parts given; a part that is the nil slice leaves the zero cell. -/
def buildS (flds : List (Nat × Nat)) : List V → List (Nat × V) → Option (List V)
 | cs, [] => some cs
 | cs, (i, v) :: r => match flds[i]? with
  | some (off, sz) => match v with
   | .nils => match cs[off]? with
    | some (.own _ []) => if sz = 1 then buildS flds cs r else none
    | some .nils => if sz = 1 then buildS flds cs r else none
    | _ => none
   | v => if v.weak.scells.length = sz ∧ off + sz ≤ cs.length ∧ v.storable = true then buildS flds (setAll cs off v.weak.scells) r else none
  | none => none

/-- How a function's operations are read: what takes a row over; which literals are rows that are written to; which argument a call is given, and how many objects it brings. -/
structure Mode where
 steal : Nat → Bool
 mu : Nat → Bool
 gv : FuncId → Option Nat
 nw : FuncId → Nat

/-- A nil part of a slice's literal. -/
def fixZ (ez : List V) : V → V
 | .nils => match ez with
  | [.own k []] => .own k []
  | _ => .nils
 | v => v
/-- The rows' places in a zero value. -/
def subs1 : V → List Nat
 | .sl _ (.hole i) _ => [i]
 | _ => []
def subsOf (z : List V) : List Nat := z.flatMap subs1
def subR (d : Nat) : V → V
 | .sl sz (.hole i) n => .sl sz (.sub d i) n
 | v => v
def newObW (d : Nat) (z : List V) : List Wr :=
 .o (.loc d) (.cells false (z.map (subR d))) :: ((subsOf z).map fun i => Wr.o (.sub d i) (.cells true [])) ++ [.t d (.ref (.loc d) 0)]
def newNs (d : Nat) (z : List V) : List Oid := .loc d :: (subsOf z).map (.sub d) ++ (subsOf z).map .hole
def noOwn (l : List V) : Bool := l.all fun x => !x.isOwn
def rowOk (l : List V) : Bool := l.all V.pure1
def eqKey : Nat → V → V → Option Bool
 | 2, .int k a, .int k' b => if k = k' then some (a == b) else none
 | 4, .str a, .str b => some (a == b)
 | 100, .agg [.int k a, .int l b], .agg [.int k' a', .int l' b'] => if k = k' ∧ l = l' then some (a == a' && b == b') else none
 | _, _, _ => none
/-- Where a key stands. -/
def findS (k : Nat) (x : V) : List (V × V) → Nat → Option (Option (Nat × V))
 | [], _ => some none
 | e :: r, i => match eqKey k x e.1 with
  | some true => some (some (i, e.2))
  | some false => findS k x r (i + 1)
  | none => none
def valOf (z : V) : Option (Nat × V) → V
 | some (_, v) => v
 | none => z
def idxOf (n : Nat) : Option (Nat × V) → Nat
 | some (i, _) => i
 | none => n
def setS (l : List (V × V)) (i : Nat) (x v : V) : List (V × V) := l.modify i fun _ => (x, v)
def putS (l : List (V × V)) (x y : V) : Option (Nat × V) → List (V × V)
 | some (i, _) => setS l i x y
 | none => l ++ [(x, y)]

def bytesOf : List V → Option (List UInt8)
 | [] => some []
 | .int .u8 n :: r => (bytesOf r).map (UInt8.ofNat n.toNat :: ·)
 | _ => none
def mapPut (T : Nat → Option TI) (t : Nat) (m k v : Operand) (dst : Option Nat) : Rd Ws := do
 let ti ← rOpt (T t)
 let m ← ev m
 let k ← ev k
 let v ← ev v
 let (kd, _) ← rOpt ti.kv
 match m with
 | .mp u =>
  .ob u fun
  | some (.map b l) => do
   let _ ← rOpt (eqKey kd k k)
   let r ← rOpt (findS kd k l 0)
   if v.cells.length = 1 ∧ k.pure = true ∧ v.pure = true ∧ dst = none then
    pure (.ws [.o u (.map b (putS l k v.weak r))])
   else .fail
  | _ => .fail
 | _ => .fail

/-- Nil where a row that is written to stood. -/
def nilSl (row : Bool) (cs : List V) (off : Nat) : V → Option (Nat × Oid)
 | .nils => match row, cs[off]? with
  | false, some (.sl sz q _) => some (sz, q)
  | _, _ => none
 | _ => none

/-- Where a literal's parts lie. -/
def bf (ti : TI) : List (Nat × Nat) :=
 match ti.arr with
 | some (n, k) => (List.range n).map fun i => (i * k, k)
 | none => ti.flds
def opS (T : Nat → Option TI) (M : Mode) (o : Oper) : Rd Ws :=
 match o.op with
 | .move x => do
  let v ← ev x
  let v := fixT (T o.type) v
  if (o.dst.map M.steal).getD false then pure (.ws (giveUp x v ++ out o.dst v)) else pure (.ws (out o.dst v.weak))
 | .assign x => do
  let v ← ev x
  let v := fixT (T o.type) v
  pure (.ws (giveUp x v ++ out o.dst v))
 | .pick c a b => do
  let .bool c ← ev c | .fail
  let a ← ev a
  let b ← ev b
  pure (.ws (out o.dst (if c then a.weak else b.weak)))
 | .alloc e => match o.dst with
  | some d => do
   let ti ← rOpt (T e)
   fresh (newNs d ti.zero)
   pure (.ws (newObW d ti.zero))
  | none => .fail
 | .box e x => match o.dst with
  | some d => do
   let ti ← rOpt (T e)
   let v ← ev x
   fresh (newNs d (boxZ ti.zero v.weak.scells))
   if v.weak.scells.length = ti.size ∧ v.storable = true then pure (.ws (newObW d (boxZ ti.zero v.weak.scells))) else .fail
  | none => .fail
 | .build t parts => do
  let ti ← rOpt (T t)
  let vs ← evs (parts.toList.map (·.2))
  let cs ← rOpt (buildS (bf ti) (z0 ti) ((parts.toList.map (·.1)).zip vs))
  if (bf ti).isEmpty then .fail else pure (.ws (out o.dst (.agg (cs.map V.weak1))))
 | .buildSlice t len parts => do
  let ti ← rOpt (T t)
  let vs ← evs (parts.toList.map (·.2))
  let (sz, _) ← rOpt ti.esz
  if (o.dst.map M.mu).getD false then
   match o.dst with
   | some d => do
    let vs := vs.map (fixZ ti.ez)
    fresh [.loc d]
    if parts.toList.map (·.1) = List.range len ∧ len * sz ≤ 16777216 ∧ vs.all (fun v => v.cells.length == sz && v.pure) = true ∧ (len = 1 ∨ noOwn vs = true) then
     pure (.ws (giveUp ((parts.toList.map (·.2)).headD (.global 0)) (vs.headD .any) ++ [.o (.loc d) (.cells true (vs.flatMap V.scells)), .t d (.sl sz (.loc d) len)]))
    else .fail
   | none => .fail
  else
   if parts.toList.map (·.1) = List.range len ∧ len * sz ≤ 16777216 ∧ vs.all (fun v => v.cells.length == sz && v.pure) = true then
    pure (.ws (out o.dst (.own sz (vs.map V.weak))))
   else .fail
 | .load t a => do
  let ti ← rOpt (T t)
  let a ← ev a
  match a with
  | .eptr cs off => do
   let v ← rOpt (getS ti cs off)
   pure (.ws (out o.dst v.weak))
  | .ref u off => do
   .ob u fun
   | some (.cells row cs) => do
    let v ← rOpt (getS ti cs off)
    if (o.dst.map M.steal).getD false && v.isOwn then pure (.ws (.o u (.cells row (cs.set off v.weak)) :: out o.dst v)) else pure (.ws (out o.dst v.weak))
   | _ => .fail
  | _ => .fail
 | .store t a x => do
  let ti ← rOpt (T t)
  let a ← ev a
  let v ← ev x
  match a with
  | .ref u off =>
   .ob u fun
   | some (.cells row cs) => match nilSl row cs off v with
    | some (sz, q) => do
     fresh [.alt q]
     .ob q fun
     | some _ => if ti.size = 1 ∧ o.dst.isNone = true ∧ u ≠ q then pure (.ws [.o q .dead, .o (.alt q) (.cells true []), .o u (.cells row (cs.set off (.sl sz (.alt q) 0)))]) else .fail
     | none => .fail
    | none =>
     let v := fixT (some ti) v
     if v.scells.length = ti.size ∧ off + v.scells.length ≤ cs.length ∧ o.dst.isNone = true ∧ v.storable = true ∧ (row = false ∨ rowOk v.scells = true) then
      .ret (.ws (giveUp x v ++ [.o u (.cells row (setAll cs off v.scells))]))
     else .fail
   | _ => .fail
  | _ => .fail
 | .nilCheck x => do
  let v ← ev x
  match v with
  | .ref u off => pure (.ws (out o.dst (.ref u off)))
  | .eptr cs off => pure (.ws (out o.dst (.eptr cs off)))
  | _ => .fail
 | .binOp op t x y _ => do
  let ti ← rOpt (T t)
  let a ← ev x
  let b ← ev y
  let v ← rOpt (binS ti.eqk op a b)
  pure (.ws (out o.dst v))
 | .unOp op _ x => do
  let a ← ev x
  let v ← rOpt (unS op a)
  pure (.ws (out o.dst v))
 | .slice t x lo hi none => do
  let a ← ev x
  let l ← evOpt lo
  let h ← evOpt hi
  let ti ← rOpt (T t)
  match a with
  | .sl sz u n => match bndS 0 l, bndS n h with
   | some l, some h => if l = 0 ∧ 0 ≤ h ∧ h ≤ n ∧ ti.esz.map (·.1) = some sz then pure (.ws (out o.dst (.sl sz u h.toNat))) else .fail
   | _, _ => .fail
  | a => do
   let v ← rOpt (sliceS ti a l h)
   match (o.dst.map M.steal).getD false, a with
   | true, .own sz xs => match bndS 0 l, bndS xs.length h with
    | some l, some h => if h = xs.length then pure (.ws (giveUp x (.own sz xs) ++ out o.dst (.own sz (xs.drop l.toNat)))) else .fail
    | _, _ => .fail
   | _, _ => pure (.ws (out o.dst v))
 | .fieldAddr s x f => do
  let ti ← rOpt (T s)
  let a ← ev x
  let (off, _) ← rOpt ti.flds[f]?
  match a with
  | .ref u o' => pure (.ws (out o.dst (.ref u (o' + off))))
  | .eptr cs o' => pure (.ws (out o.dst (.eptr cs (o' + off))))
  | _ => .fail
 | .indexAddr t x i => do
  let ti ← rOpt (T t)
  let a ← ev x
  let i ← ev i
  match a, i with
  | .sl sz u n, .int _ i => if 0 ≤ i ∧ i < n ∧ ti.esz.map (·.1) = some sz then pure (.ws (out o.dst (.ref u (i.toNat * sz)))) else .fail
  | .ref u off, .int _ i => match ti.arr with
   | some (len, sz) => if 0 ≤ i ∧ i < len then pure (.ws (out o.dst (.ref u (off + i.toNat * sz)))) else .fail
   | none => .fail
  | .eptr cs off, .int _ i => match ti.arr with
   | some (len, sz) => if 0 ≤ i ∧ i < len then pure (.ws (out o.dst (.eptr cs (off + i.toNat * sz)))) else .fail
   | none => .fail
  | a, i => match a.elems, i with
   | some (sz, xs), .int _ i => do
    let x ← rOpt (idx xs i)
    if ti.esz.map (·.1) = some sz then pure (.ws (out o.dst (.eptr x.cells 0))) else .fail
   | _, _ => .fail
 | .index t x i => do
  let ti ← rOpt (T t)
  let a ← ev x
  let i ← ev i
  match a, i with
  | .str s, .int _ i => do
   let b ← rOpt (idxB s i)
   if ti.isStr then pure (.ws (out o.dst (.int .u8 b.toNat))) else .fail
  | _, _ => .fail
 | .extract x i => do
  let a ← ev x
  match a with
  | .tup vs => do
   let v ← rOpt vs[i]?
   pure (.ws (out o.dst v.weak))
  | _ => .fail
 | .call { callee := .builtin .len, args, argTypes } => do
  let vs ← evs args.toList
  let t ← rOpt argTypes[0]?
  let ti ← rOpt (T t)
  match vs with
  | [.str s] => if ti.isStr then pure (.ws (out o.dst (.int .i64 s.length))) else .fail
  | [.sl _ _ n] => if ti.esz.isSome then pure (.ws (out o.dst (.int .i64 n))) else .fail
  | [v] => do
   let (_, xs) ← rOpt v.elems
   if ti.esz.isSome then pure (.ws (out o.dst (.int .i64 xs.length))) else .fail
  | _ => .fail
 | .call { callee := .builtin .append, args, argTypes } => do
  let vs ← evs args.toList
  let t ← rOpt argTypes[0]?
  let ti ← rOpt (T t)
  let (sz, bytes) ← rOpt ti.esz
  match vs.map (fixT (some ti)) with
  | [.own s xs, y] => do
   let (s', ys) ← rOpt y.elems
   if s = sz ∧ s' = sz ∧ (xs.length + ys.length) * bytes ≤ 140737488355328 ∧ argTypes.toList = [t, t] then
    pure (.ws (giveUp (args.getD 0 (.global 0)) (.own s xs) ++ out o.dst (.own sz (xs ++ ys))))
   else .fail
  | [.sl s u n, y] =>
   .ob u fun
   | some (.cells true cs) => do
    fresh [.alt u]
    match y with
    | .sl s' u' m =>
     .ob u' fun
     | some (.cells true ds) =>
      if s = sz ∧ s' = sz ∧ n * sz ≤ cs.length ∧ m * sz ≤ ds.length ∧ (n + m) * bytes ≤ 140737488355328 ∧ argTypes.toList = [t, t] ∧ u ≠ u' ∧ (noOwn (ds.take (m * sz)) = true ∨ m * sz = 1) then
       .ret (.ws ((if noOwn (ds.take (m * sz)) then [] else [.o u' .dead]) ++ [.o u .dead, .o (.alt u) (.cells true (cs.take (n * sz) ++ ds.take (m * sz)))] ++ out o.dst (.sl sz (.alt u) (n + m))))
      else .fail
     | _ => .fail
    | y => do
     let (s', ys) ← rOpt y.elems
     if s = sz ∧ s' = sz ∧ n * sz ≤ cs.length ∧ (n + ys.length) * bytes ≤ 140737488355328 ∧ argTypes.toList = [t, t] then
      pure (.ws ([.o u .dead, .o (.alt u) (.cells true (cs.take (n * sz) ++ ys.flatMap V.cells))] ++ out o.dst (.sl sz (.alt u) (n + ys.length))))
     else .fail
   | _ => .fail
  | _ => .fail
 | .call { callee := .builtin .clear, args, argTypes } => do
  let vs ← evs args.toList
  let t ← rOpt argTypes[0]?
  let _ ← rOpt (T t)
  match vs with
  | [.mp u] =>
   .ob u fun
   | some (.map b l) => .ret (.ws (.o u (.map (b + l.length) []) :: out o.dst (.tup [])))
   | _ => .fail
  | _ => .fail
 | .call { callee := .builtin .min, args, argTypes } => do
  let vs ← evs args.toList
  match vs with
  | [.int k a, .int k' b] => if k = k' then pure (.ws (out o.dst (.int k (min a b)))) else .fail
  | _ => .fail
 | .call { callee := .builtin .max, args, argTypes } => do
  let vs ← evs args.toList
  match vs with
  | [.int k a, .int k' b] => if k = k' then pure (.ws (out o.dst (.int k (max a b)))) else .fail
  | _ => .fail
 | .convert src dst x => do
  let ti ← rOpt (T dst)
  let tj ← rOpt (T src)
  let v ← ev x
  match v with
  | .int _ n => do
   let k ← rOpt ti.ik
   pure (.ws (out o.dst (.int k (k.wrap n))))
  | .sl _ u n =>
   .ob u fun
   | some (.cells true cs) => do
    let s ← rOpt (bytesOf (cs.take n))
    if ti.isStr = true ∧ tj.isB = true ∧ n ≤ cs.length then pure (.ws (out o.dst (.str s))) else .fail
   | _ => .fail
  | _ => .fail
 | .makeSlice t l c => match o.dst with
  | some d => do
   let ti ← rOpt (T t)
   let l ← ev l
   let c ← ev c
   let (_, bytes) ← rOpt ti.esz
   fresh [.loc d]
   match l, c with
   | .int _ n, .int _ m => if n = m ∧ 0 ≤ n ∧ n * bytes ≤ 140737488355328 ∧ ti.esz.map (·.1) = some ti.ez.length ∧ rowOk ti.ez = true then
     pure (.ws [.o (.loc d) (.cells true (List.replicate n.toNat ti.ez).flatten), .t d (.sl ti.ez.length (.loc d) n.toNat)]) else .fail
   | _, _ => .fail
  | none => .fail
 | .mapUpdate t m k v => mapPut T t m k v o.dst
 | .insert t m k v => mapPut T t m k v o.dst
 | .mapEntry t m k => do
  let ti ← rOpt (T t)
  let m ← ev m
  let k ← ev k
  let (kd, z) ← rOpt ti.kv
  match m with
  | .mp u =>
   .ob u fun
   | some (.map b l) => do
    let _ ← rOpt (eqKey kd k k)
    let r ← rOpt (findS kd k l 0)
    pure (.ws (.o u (.map b (putS l k (valOf z.weak r) r)) :: out o.dst (.tup [valOf z.weak r, .int .i64 ((b + idxOf l.length r : Nat) : Int)])))
   | _ => .fail
  | _ => .fail
 | .entryStore t m s v => do
  let m ← ev m
  let s ← ev s
  let v ← ev v
  match m, s with
  | .mp u, .int _ s =>
   .ob u fun
   | some (.map b l) => match l[(s - b).toNat]? with
    | some (k, _) => if v.pure = true ∧ v.cells.length = 1 ∧ o.dst = none ∧ b ≤ s then .ret (.ws [.o u (.map b (setS l (s - b).toNat k v.weak))]) else .fail
    | none => .fail
   | _ => .fail
  | _, _ => .fail
 | .makeMap t none => match o.dst with
  | some d => do
   fresh [.loc d]
   pure (.ws [.o (.loc d) (.map 0 []), .t d (.mp (.loc d))])
  | none => .fail
 | .lookup t x k ok => do
  let ti ← rOpt (T t)
  let m ← ev x
  let k ← ev k
  let (kd, z) ← rOpt ti.kv
  match m with
  | .mp u =>
   .ob u fun
   | some (.map _ l) => do
    let _ ← rOpt (eqKey kd k k)
    let r ← rOpt (findS kd k l 0)
    pure (.ws (out o.dst (if ok then .tup [valOf z.weak r, .bool r.isSome] else valOf z.weak r)))
   | _ => .fail
  | _ => .fail
 | _ => .fail

def gvOf (M : Mode) (f : FuncId) (args : List Operand) : Option (Nat × Nat) :=
 match M.gv f with
 | some j => match args[j]? with
  | some (.tmp t) => some (j, t)
  | _ => none
 | none => none
/-- Every operation. -/
def opF (T : Nat → Option TI) (M : Mode) (o : Oper) : Rd Res :=
 match o.op with
 | .call { callee := .value fo, args, argTypes } => do
  let vs ← evs args.toList
  let vs := vs.zipWith (fun v t => fixT (T t) v) argTypes.toList
  if vs.length = args.size then
   match fo with
   | .func f => callS (gvOf M f args.toList) (M.nw f) f vs o.dst
   | fo => do
    let fv ← ev fo
    match fv with
    | .fn f => callS none 0 f vs o.dst
    | .clo f first caps => callS none 0 f (first ++ vs ++ caps) o.dst
    | _ => .fail
  else .fail
 | _ => do
  let .ws l ← opS T M o
  pure (.ws l)

/-- What a call's contract says: proved apart. -/
abbrev Orc := FuncId → List V → List Ob → V → List Ob → List Ob → Prop

def backO (w : Way) (objs news : List Ob) : List (Oid × Ob) :=
 (w.mv.filterMap fun j => (w.ids[j]?).map fun o => (o, Ob.dead)) ++
 (objs.zipIdx.filterMap fun x => (ofPar w.ids w.mv w.dst (.par x.2)).map fun o => (o, x.1.ren (ofPar w.ids w.mv w.dst))) ++
 news.zipIdx.filterMap fun x => (ofPar w.ids w.mv w.dst (.sub 0 x.2)).map fun o => (o, x.1.ren (ofPar w.ids w.mv w.dst))
def back (w : Way) (r : V) (objs news : List Ob) : List Wr :=
 w.pre ++ ((backO w objs news).map fun x => Wr.o x.1 x.2) ++ out w.dst (renV (ofPar w.ids w.mv w.dst) r)

def wanted (ops : List Oper) (o : Oper) : Rd (Option Bool) :=
 match o.guard with
 | none => .ret (some true)
 | some (j, b) => match (ops[j]?).bind (·.dst) with
  | some t => .tm t fun
   | .bool x => .ret (some (x == b))
   | .tup [] => .ret (some false)
   | _ => .ret none
  | none => .ret none

/-- Operations one behind the other. -/
def runOps (C : Orc) (T : Nat → Option TI) (M : Mode) (ops : List Oper) : List Oper → St → (St → Prop) → Prop
 | [], st, Q => Q st
 | o :: rest, st, Q =>
  match (wanted ops o).run st with
  | some (some true) => match (opF T M o).run st with
   | some (.ws l) => runOps C T M ops rest (st.app l) Q
   | some (.call f args objs nw w) => ∃ r objs' news, C f args objs r objs' news ∧ news.length ≤ nw ∧ runOps C T M ops rest (st.app (back w r objs' news)) Q
   | none => False
  | some (some false) => runOps C T M ops rest (st.app (out o.dst (.tup []))) Q
  | _ => False

/-! #### regions that draw their order: what each operation looks at and writes -/
inductive Wh where
 | t (t : Nat)
 | o (o : Oid)
 deriving DecidableEq
def Rd.reads {α : Type} (st : St) : Rd α → List Wh
 | .ret _ => []
 | .fail => []
 | .tm t k => .t t :: (k (st.tm t)).reads st
 | .ob o k => .o o :: (k (st.ob o)).reads st
def Wr.wh : Wr → Wh
 | .t u _ => .t u
 | .o u _ => .o u


structure Foot where
 rd : List Wh
 wr : List Wh
def meets (a b : List Wh) : Bool := a.any fun x => b.any fun y => decide (x = y)
def Foot.clash (a b : Foot) : Bool := meets a.wr b.rd || meets a.wr b.wr || meets b.wr a.rd
/-- For each operation all that must have been done before it. -/
def closGo : List Oper → List (List Nat) → List (List Nat)
 | [], acc => acc
 | o :: r, acc => closGo r (acc ++ [(o.after.toList.filter (fun e => Region.binds .any e)).flatMap fun e => e.on :: acc.getD e.on []])
def clos (ops : List Oper) : List (List Nat) := closGo ops []
def binding (o : Oper) : List Nat := (o.after.toList.filter (fun e => Region.binds .any e)).map (·.on)
def notT : Operand → Nat → Bool
 | .tmp t, e => t != e
 | _, _ => true
/-- Two loads, of which one at least takes nothing over, are free of each other. -/
def freeP (M : Mode) (a b : Oper) : Bool :=
 match a.op, b.op with
 | .load _ x, .load _ y => a.guard.isNone && b.guard.isNone && (match a.dst, b.dst with
  | some d, some e => d != e && notT x e && notT y d && !(M.steal d && M.steal e)
  | _, _ => false)
 | .lookup t (.tmp x) (.tmp k) false, .mapEntry t' (.tmp x') (.tmp k') => a.guard.isNone && b.guard.isNone && t == t' && x == x' && k == k' && (match a.dst, b.dst with
  | some d, some e => d != e && x != e && k != e && x != d && k != d
  | _, _ => false)
 | .mapEntry t' (.tmp x') (.tmp k'), .lookup t (.tmp x) (.tmp k) false => a.guard.isNone && b.guard.isNone && t == t' && x == x' && k == k' && (match a.dst, b.dst with
  | some d, some e => d != e && x != e && k != e && x != d && k != d
  | _, _ => false)
 | _, _ => false
def freeAt (M : Mode) (ops : List Oper) (i j : Nat) : Bool :=
 match ops[i]?, ops[j]? with
 | some a, some b => freeP M a b
 | _, _ => false
/-- Whatever clashes is in order. -/
def orderOk (M : Mode) (ops : List Oper) (fs : List Foot) : Bool :=
 let cl := clos ops
 fs.length == ops.length && (ops.zipIdx).all fun x =>
  (binding x.1).all (fun e => decide (e < x.2)) &&
  (cl.getD x.2 []).all (fun c => (binding x.1).any fun e => c == e || (cl.getD e []).contains c) &&
  (List.range x.2).all fun c => !((fs.getD c ⟨[], []⟩).clash (fs.getD x.2 ⟨[], []⟩)) || (cl.getD x.2 []).contains c || freeAt M ops c x.2
def runD (C : Orc) (T : Nat → Option TI) (M : Mode) (ops : List Oper) : List Oper → St → List Foot → (List Foot → St → Prop) → Prop
 | [], st, fs, Q => Q fs st
 | o :: rest, st, fs, Q =>
  match (wanted ops o).run st with
  | some (some true) => match (opF T M o).run st with
   | some (.ws l) => runD C T M ops rest (st.app l) (fs ++ [⟨(wanted ops o).reads st ++ (opF T M o).reads st, l.map Wr.wh⟩]) Q
   | some (.call f args objs nw w) => ∃ r objs' news, C f args objs r objs' news ∧ news.length ≤ nw ∧ runD C T M ops rest (st.app (back w r objs' news))
     (fs ++ [⟨(wanted ops o).reads st ++ (opF T M o).reads st, (back w r objs' news).map Wr.wh⟩]) Q
   | none => False
  | some (some false) => runD C T M ops rest (st.app (out o.dst (.tup []))) (fs ++ [⟨(wanted ops o).reads st, (out o.dst (.tup [])).map Wr.wh⟩]) Q
  | _ => False

inductive X where
 | normal | ret | exit (id : Nat)

/-- What is asked for later: tmps; objects by their roots; the roots whose rows may have moved. -/
structure Hint where
 live : List Nat
 liveO : List Oid
 mvd : List Oid := []

/-- The youngest of an object's names. -/
def cur (st : St) : Nat → Oid → Oid
 | 0, o => o
 | n + 1, o => match st.ob (.alt o) with
  | some _ => cur st n (.alt o)
  | none => o
def goal (h : Hint) (r : Oid) : Oid := if (place r h.mvd).isSome then .alt r else r
/-- The name that stands for a root: what was handed in stays where it was, if it may not move. -/
def curH (h : Hint) (st : St) : Oid → Oid
 | .par j => if (place (.par j) h.mvd).isSome then cur st 4 (.par j) else .par j
 | r => cur st 4 r
def keep (h : Hint) (st : St) (o : Oid) : Option Oid :=
 if (place o.root h.liveO).isSome then (if curH h st o.root = o then some (goal h o.root) else none) else none
def obR (h : Hint) (st : St) (r : Oid) : Option (Oid × Ob) :=
 if r.root = r then (st.ob (curH h st r)).map fun x => (goal h r, x.ren (keep h st)) else none
def restrict (h : Hint) (st : St) : St :=
 { env := h.live.map fun t => (t, renV (keep h st) (st.tm t)), obs := h.liveO.filterMap (obR h st) }

def stealOf (ops : List Oper) (resT : List Nat) (t : Nat) : Bool :=
 ops.any fun o => match o.op with
  | .call { callee := .builtin .append, args, .. } => match args.getD 0 (.global 0) with | .tmp u => u == t | _ => false
  | .assign (.tmp u) => u == t && (o.dst.any fun d => resT.contains d)
  | .slice _ (.tmp u) _ _ none => u == t && (o.dst.any fun d => resT.contains d)
  | _ => false
/-- What a function's text is read by. -/
structure Opt where
 resT : List Nat
 muts : List Nat := []
 gvs : List (FuncId × Nat) := []
 nws : List (FuncId × Nat) := []
def modeOf (ops : List Oper) (p : Opt) : Mode :=
 ⟨stealOf ops p.resT, fun t => p.muts.contains t, fun f => p.gvs.lookup f, fun f => (p.nws.lookup f).getD 0⟩

structure Ctx where
 C : Orc
 T : Nat → Option TI
 hint : Nat → Hint
 opt : Opt

/-- At most so many rounds. -/
def iter (body : St → (X → St → Prop) → Prop) (Q : X → St → Prop) : Nat → St → Prop
 | 0, _ => False
 | n + 1, st => body st fun
  | .normal, st => iter body Q n st
  | e, st => Q e st

/-- The first region in a part of the code. -/
def firstReg : Code → Option Nat
 | .region id _ _ => some id
 | .seq a b => match firstReg a with | some i => some i | none => firstReg b
 | .cond _ a b => match firstReg a with | some i => some i | none => firstReg b
 | .block _ a => firstReg a
 | .loop a => firstReg a
 | _ => none
def awp (c : Ctx) : Code → St → (X → St → Prop) → Prop
 | .skip, st, Q => Q .normal st
 | .ret, st, Q => Q .ret st
 | .exit id, st, Q => Q (.exit id) st
 | .seq a b, st, Q => awp c a st fun
  | .normal, st => awp c b st Q
  | e, st => Q e st
 | .cond x a b, st, Q => match (ev x).run st with
  | some (.bool t) => if t then awp c a st Q else awp c b st Q
  | _ => False
 | .block id a, st, Q => awp c a st fun
  | .exit i, st => if i = id then Q .normal st else Q (.exit i) st
  | e, st => Q e st
 | .loop a, st, Q => ∃ n, iter (fun st Q => awp c a (restrict (c.hint (2 * (firstReg a).getD 0 + 1)) st) Q) Q n st
 | .region id ops false, st, Q => runOps c.C c.T (modeOf ops.toList c.opt) ops.toList ops.toList st fun st => Q .normal (restrict (c.hint (2 * id)) st)
 | .region id ops true, st, Q => runD c.C c.T (modeOf ops.toList c.opt) ops.toList ops.toList st [] fun fs st => orderOk (modeOf ops.toList c.opt) ops.toList fs = true ∧ Q .normal (restrict (c.hint (2 * id)) st)
 | _, _, _ => False

/-! #### a function -/
def argsFrom : Nat → List V → List (Nat × V)
 | _, [] => []
 | k, x :: r => (k, x) :: argsFrom (k + 1) r
def parObsFrom : Nat → List Ob → List (Oid × Ob)
 | _, [] => []
 | k, x :: r => (.par k, x) :: parObsFrom (k + 1) r
def subObsFrom : Nat → List Ob → List (Oid × Ob)
 | _, [] => []
 | k, x :: r => (.sub 0 k, x) :: subObsFrom (k + 1) r
/-- A call's state as its contract tells it. -/
def conSt (args : List V) (objs news : List Ob) : St := { env := argsFrom 0 args, obs := parObsFrom 0 objs ++ subObsFrom 0 news }
/-- The names inside: rows that may move have a further one. -/
def inn (mv : List Nat) : Oid → Option Oid
 | .par j => some (if mv.contains j then .alt (.par j) else .par j)
 | _ => none
def innOb (mv : List Nat) (x : Oid × Ob) : Oid × Ob := ((inn mv x.1).getD x.1, x.2.ren (inn mv))
def initM (mv : List Nat) (args : List V) (objs : List Ob) : St :=
 { env := argsFrom 0 (args.map (renV (inn mv))), obs := (parObsFrom 0 objs).map (innOb mv) }
def initSt (args : List V) (objs : List Ob) : St := initM (mvOf args objs) args objs
def resV (T : Nat → Option TI) (st : St) : ResultVar → Option V
 | .tmp t => some (st.tm t)
 | .cell t ty => match st.tm t, T ty with
  | .ref u off, some ti => match st.ob u with
   | some (.cells _ cs) => (getS ti cs off).map V.weak
   | _ => none
  | _, _ => none
def resL (T : Nat → Option TI) (st : St) : List ResultVar → Option (List V)
 | [] => some []
 | x :: r => match resV T st x, resL T st r with
  | some v, some l => if v.isTup then none else some (v.weak :: l)
  | _, _ => none
/-- What a function answers. -/
def resS (T : Nat → Option TI) (st : St) : List ResultVar → Option V
 | [x] => resV T st x
 | l => (resL T st l).map .tup
/-- The names as the caller knows them. -/
def outn (n : Nat) (mv : List Nat) (nws : List Oid) : Oid → Option Oid
 | .par j => if mv.contains j then none else if j < n then some (.par j) else none
 | .alt (.par j) => if mv.contains j then (if j < n then some (.par j) else none) else none
 | o => (place o nws).map (.sub 0)
/-- Its arguments' objects then. -/
def parsOf (mv : List Nat) (f : Oid → Option Oid) (st : St) : Nat → Nat → Option (List Ob)
 | _, 0 => some []
 | k, n + 1 => match st.ob (if mv.contains k then .alt (.par k) else .par k), parsOf mv f st (k + 1) n with
  | some x, some l => some (x.ren f :: l)
  | _, _ => none
/-- A row that was handed in and that nobody knows any more is dead. -/
def parsD (mv : List Nat) (f : Oid → Option Oid) (st : St) : Nat → Nat → Option (List Ob)
 | _, 0 => some []
 | k, n + 1 => match (match st.ob (if mv.contains k then .alt (.par k) else .par k) with | some x => some x | none => if mv.contains k then none else some .dead), parsD mv f st (k + 1) n with
  | some x, some l => some (x.ren f :: l)
  | _, _ => none
/-- New ones. -/
def newsOf (f : Oid → Option Oid) (st : St) : List Oid → Option (List Ob)
 | [] => some []
 | o :: r => match st.ob o, newsOf f st r with
  | some x, some l => some (x.ren f :: l)
  | _, _ => none
/-- Names that new objects may have. -/
def nwOk (l : List Oid) : Bool := decide l.Nodup && l.all fun o => match o.root with | .par _ => false | _ => true

end Go.Ax
set_option linter.unusedVariables false
set_option linter.unusedSimpArgs false
namespace Go.Ax

/-- Cells that stay as they are; and of how many cells blocks are at least. -/
structure Heap where
 cell : Nat → Nat → Option Value
 size : Nat → Nat
 blk : Nat → Option Obj
instance : CoeFun Heap (fun _ => Nat → Nat → Option Value) := ⟨Heap.cell⟩

def V.isCell : V → Bool
 | .agg _ => false
 | .tup _ => false
 | _ => true
def cellV : Value → Bool
 | .agg _ => false
 | .tuple _ => false
 | _ => true

mutual
inductive RepD (H : Heap) : V → Value → Prop
 | int (k n) : RepD H (.int k n) (.int k n)
 | bool (b) : RepD H (.bool b) (.bool b)
 | str (s : List UInt8) : RepD H (.str s) (.string ⟨s.toArray⟩)
 | nilp : RepD H .nilp (.pointer none)
 | nilfn : RepD H .nilfn .nilFunc
 | fn (f) : RepD H (.fn f) (.func (.func f) #[] #[])
 | agg (cs vs) (h : RepL H cs vs) : RepD H (.agg cs) (.agg vs.toArray)
 | slice0 (sz) : RepD H (.slice sz []) (.slice none 0 0)
 | slice1 (sz a) : RepD H (.slice sz []) (.slice (some a) 0 0)
 | slice (sz xs b off c) (hr : RepRow H sz b off xs) (hc : xs.length ≤ c) : RepD H (.slice sz xs) (.slice (some ⟨b, off, none⟩) xs.length c)
inductive RepL (H : Heap) : List V → List Value → Prop
 | nil : RepL H [] []
 | cons (x v xs vs) (h1 : x.isCell = true) (h : RepD H x v) (hs : RepL H xs vs) : RepL H (x :: xs) (v :: vs)
inductive RepRow (H : Heap) : Nat → Nat → Nat → List V → Prop
 | nil (sz b off) : RepRow H sz b off []
 | cons (sz b off x xs vs) (hl : vs.length = sz) (h : RepL H x.cells vs) (hm : ∀ j (hj : j < vs.length), H b (off + j) = some vs[j])
   (hs : RepRow H sz b (off + sz) xs) : RepRow H sz b off (x :: xs)
end

structure Le (H H' : Heap) : Prop where
 cell : ∀ b o v, H b o = some v → H' b o = some v
 size : ∀ b, H.size b ≤ H'.size b
theorem Le.refl (H : Heap) : Le H H := ⟨fun _ _ _ h => h, fun _ => Nat.le_refl _⟩
theorem Le.trans {H H' H'' : Heap} (h : Le H H') (h' : Le H' H'') : Le H H'' :=
 ⟨fun b o v x => h'.cell b o v (h.cell b o v x), fun b => Nat.le_trans (h.size b) (h'.size b)⟩

mutual
theorem RepD.mono {H H' : Heap} (hl : Le H H') : ∀ {x v}, RepD H x v → RepD H' x v
 | _, _, .int k n => .int k n
 | _, _, .bool b => .bool b
 | _, _, .str s => .str s
 | _, _, .nilp => .nilp
 | _, _, .nilfn => .nilfn
 | _, _, .fn f => .fn f
 | _, _, .agg cs vs h => .agg cs vs (RepL.mono hl h)
 | _, _, .slice0 sz => .slice0 sz
 | _, _, .slice1 sz a => .slice1 sz a
 | _, _, .slice sz xs b off c hr hc => .slice sz xs b off c (RepRow.mono hl hr) hc
theorem RepL.mono {H H' : Heap} (hl : Le H H') : ∀ {x v}, RepL H x v → RepL H' x v
 | _, _, .nil => .nil
 | _, _, .cons x v xs vs h1 h hs => .cons x v xs vs h1 (RepD.mono hl h) (RepL.mono hl hs)
theorem RepRow.mono {H H' : Heap} (hl : Le H H') : ∀ {sz b off xs}, RepRow H sz b off xs → RepRow H' sz b off xs
 | _, _, _, _, .nil sz b off => .nil sz b off
 | _, _, _, _, .cons sz b off x xs vs hlen h hm hs => .cons sz b off x xs vs hlen (RepL.mono hl h) (fun j hj => hl.cell _ _ _ (hm j hj)) (RepRow.mono hl hs)
end

theorem RepD.cell {H : Heap} {x v} (h : RepD H x v) (hx : x.isCell = true) : cellV v = true := by
 cases h <;> first | rfl | simp [V.isCell] at hx
theorem RepL.cellsV {H : Heap} {xs vs} (h : RepL H xs vs) : ∀ v ∈ vs, cellV v = true := by
 induction xs generalizing vs with
 | nil => cases h; simp
 | cons x xs ih =>
  cases h with
  | cons _ v _ vs h1 h hs =>
   intro u hu
   rcases List.mem_cons.1 hu with rfl | hu
   ·exact h.cell h1
   ·exact ih hs u hu
theorem RepL.length {H : Heap} {xs vs} (h : RepL H xs vs) : xs.length = vs.length := by
 induction xs generalizing vs with
 | nil => cases h; rfl
 | cons x xs ih => cases h with | cons _ v _ vs h1 h hs => simp [ih hs]
theorem RepL.get {H : Heap} {xs vs} (h : RepL H xs vs) (j : Nat) (hj : j < xs.length) (hj' : j < vs.length) : xs[j].isCell = true ∧ RepD H xs[j] vs[j] := by
 induction xs generalizing vs j with
 | nil => simp at hj
 | cons x xs ih =>
  cases h with
  | cons _ v _ vs h1 h hs =>
   cases j with
   | zero => exact ⟨h1, h⟩
   | succ j => exact ih hs j (by simpa using hj) (by simpa using hj')
theorem RepL.of_get {H : Heap} {xs : List V} {vs : List Value} (hl : xs.length = vs.length)
  (h : ∀ j (hj : j < xs.length) (hj' : j < vs.length), xs[j].isCell = true ∧ RepD H xs[j] vs[j]) : RepL H xs vs := by
 induction xs generalizing vs with
 | nil => cases vs with | nil => exact .nil | cons => simp at hl
 | cons x xs ih =>
  cases vs with
  | nil => simp at hl
  | cons v vs =>
   have h0 := h 0 (by simp) (by simp)
   exact .cons _ _ _ _ h0.1 h0.2 (ih (by simpa using hl) fun j hj hj' => h (j + 1) (by simpa using hj) (by simpa using hj'))
theorem RepL.append {H : Heap} {xs ys vs us} (h : RepL H xs vs) (h' : RepL H ys us) : RepL H (xs ++ ys) (vs ++ us) := by
 induction xs generalizing vs with
 | nil => cases h; simpa using h'
 | cons x xs ih => cases h with | cons _ v _ vs h1 h hs => exact .cons _ _ _ _ h1 h (ih hs)

/-- A row's element. -/
theorem RepRow.get {H : Heap} {sz b off xs} (h : RepRow H sz b off xs) (i : Nat) (hi : i < xs.length) :
  ∃ vs, vs.length = sz ∧ RepL H xs[i].cells vs ∧ ∀ j (hj : j < vs.length), H b (off + i * sz + j) = some vs[j] := by
 induction xs generalizing off i with
 | nil => simp at hi
 | cons x xs ih =>
  cases h with
  | cons _ _ _ _ _ vs hl h hm hs =>
   cases i with
   | zero => exact ⟨vs, hl, h, by simpa using hm⟩
   | succ i =>
    obtain ⟨us, h1, h2, h3⟩ := ih hs i (by simpa using hi)
    refine ⟨us, h1, h2, fun j hj => ?_⟩
    rw [← h3 j hj, Nat.succ_mul]
    congr 1
    omega
theorem RepRow.take {H : Heap} {sz b off xs} (h : RepRow H sz b off xs) (n : Nat) : RepRow H sz b off (xs.take n) := by
 induction xs generalizing off n with
 | nil => simpa using h
 | cons x xs ih =>
  cases h with
  | cons _ _ _ _ _ vs hl h hm hs =>
   cases n with
   | zero => exact .nil _ _ _
   | succ n => exact .cons _ _ _ _ _ vs hl h hm (ih hs n)
theorem RepRow.drop {H : Heap} {sz b off xs} (h : RepRow H sz b off xs) (n : Nat) (hn : n ≤ xs.length) : RepRow H sz b (off + n * sz) (xs.drop n) := by
 induction xs generalizing off n with
 | nil => rw [List.drop_nil]; exact .nil _ _ _
 | cons x xs ih =>
  cases h with
  | cons _ _ _ _ _ vs hl h hm hs =>
   cases n with
   | zero => simpa using RepRow.cons _ _ _ _ _ vs hl h hm hs
   | succ n =>
    have := ih hs n (by simpa using hn)
    rw [Nat.succ_mul, show off + (n * sz + sz) = off + sz + n * sz from by omega]
    exact this
theorem RepRow.append {H : Heap} {sz b off xs ys} (h : RepRow H sz b off xs) (h' : RepRow H sz b (off + xs.length * sz) ys) : RepRow H sz b off (xs ++ ys) := by
 induction xs generalizing off with
 | nil => simpa using h'
 | cons x xs ih =>
  cases h with
  | cons _ _ _ _ _ vs hl h hm hs =>
   refine .cons _ _ _ _ _ vs hl h hm (ih hs ?_)
   rw [List.length_cons, Nat.succ_mul, show off + (xs.length * sz + sz) = off + sz + xs.length * sz from by omega] at h'
   exact h'
/-- All cells of a row, flat. -/
theorem RepRow.flat {H : Heap} {sz b off xs} (h : RepRow H sz b off xs) :
  ∃ vs, vs.length = xs.length * sz ∧ (∀ x ∈ xs, x.cells.length = sz) ∧ RepL H (xs.flatMap V.cells) vs ∧ ∀ j (hj : j < vs.length), H b (off + j) = some vs[j] := by
 induction xs generalizing off with
 | nil => exact ⟨[], by simp, by simp, .nil, by simp⟩
 | cons x xs ih =>
  cases h with
  | cons _ _ _ _ _ vs hl h hm hs =>
   obtain ⟨us, h1, h2, h3, h4⟩ := ih hs
   refine ⟨vs ++ us, by simp [hl, h1, Nat.succ_mul, Nat.add_comm], ?_, by simpa using h.append h3, fun j hj => ?_⟩
   ·intro y hy
    rcases List.mem_cons.1 hy with rfl | hy
    ·rw [h.length, hl]
    ·exact h2 y hy
   ·rw [List.getElem_append]
    split
    ·exact hm j _
    ·rename_i hlt
     rw [← h4 (j - vs.length) (by simp at hj; omega)]
     congr 1
     omega
theorem RepRow.of_flat {H : Heap} {sz b off} {xs : List V} {vs : List Value} (hx : ∀ x ∈ xs, x.cells.length = sz) (h : RepL H (xs.flatMap V.cells) vs)
  (hm : ∀ j (hj : j < vs.length), H b (off + j) = some vs[j]) : RepRow H sz b off xs := by
 induction xs generalizing off vs with
 | nil => exact .nil _ _ _
 | cons x xs ih =>
  have hl := h.length
  have hx0 := hx x (by simp)
  rw [List.flatMap_cons, List.length_append, hx0] at hl
  refine .cons _ _ _ _ _ (vs.take sz) (by simp; omega) ?_ (fun j hj => ?_) (ih (vs := vs.drop sz) (fun y hy => hx y (by simp [hy])) ?_ ?_)
  ·refine RepL.of_get (by rw [List.length_take]; omega) fun j hj hj' => ?_
   have := h.get j (by rw [List.flatMap_cons, List.length_append]; omega) (by omega)
   simpa [List.flatMap_cons, List.getElem_append_left hj] using this
  ·simp only [List.getElem_take]
   exact hm j _
  ·refine RepL.of_get (by rw [List.length_drop]; omega) fun j hj hj' => ?_
   have := h.get (sz + j) (by rw [List.flatMap_cons, List.length_append]; omega) (by rw [List.length_drop] at hj'; omega)
   simpa [List.flatMap_cons, List.getElem_append_right (show x.cells.length ≤ sz + j by omega), hx0] using this
  ·intro j hj
   simp only [List.getElem_drop]
   rw [← hm (sz + j) (by simp at hj; omega)]
   congr 1
   omega

/-! ### what stands in a tmp or a cell -/
inductive Rep1 (H : Heap) (μ : Oid → Option Nat) : V → Value → Prop
 | any (v) : Rep1 H μ .any v
 | nils : Rep1 H μ .nils (.slice none 0 0)
 | data (x v) (h : RepD H x v) : Rep1 H μ x v
 | own0 (sz) : Rep1 H μ (.own sz []) (.slice none 0 0)
 | own (sz xs b off c) (hr : RepRow H sz b off xs) (hc : xs.length ≤ c) : Rep1 H μ (.own sz xs) (.slice (some ⟨b, off, none⟩) xs.length c)
 | ref (o b off) (h : μ o = some b) : Rep1 H μ (.ref o off) (.pointer (some ⟨b, off, none⟩))
 | eptr (cs vs b o0 off) (h : RepL H cs vs) (hm : ∀ j (hj : j < vs.length), H b (o0 + j) = some vs[j]) : Rep1 H μ (.eptr cs off) (.pointer (some ⟨b, o0 + off, none⟩))
 | sl0 (sz o) : Rep1 H μ (.sl sz o 0) (.slice none 0 0)
 | sl (sz o b n c) (h : μ o = some b) (hc : n ≤ c) (hs : c * sz ≤ H.size b) : Rep1 H μ (.sl sz o n) (.slice (some ⟨b, 0, none⟩) n c)
 | mp (o b) (h : μ o = some b) : Rep1 H μ (.mp o) (.map (some b))
inductive RepC (H : Heap) (μ : Oid → Option Nat) : List V → List Value → Prop
 | nil : RepC H μ [] []
 | cons (x v xs vs) (h1 : x.isCell = true) (hv : cellV v = true) (h : Rep1 H μ x v) (hs : RepC H μ xs vs) : RepC H μ (x :: xs) (v :: vs)
inductive Rep2 (H : Heap) (μ : Oid → Option Nat) : V → Value → Prop
 | one (x v) (h : Rep1 H μ x v) : Rep2 H μ x v
 | agg (cs vs) (h : RepC H μ cs vs) : Rep2 H μ (.agg cs) (.agg vs.toArray)
 | clo (f a b us vs) (h : RepC H μ a us) (h' : RepC H μ b vs) : Rep2 H μ (.clo f a b) (.func (.func f) us.toArray vs.toArray)
inductive RepT (H : Heap) (μ : Oid → Option Nat) : List V → List Value → Prop
 | nil : RepT H μ [] []
 | cons (x v xs vs) (h : Rep2 H μ x v) (hs : RepT H μ xs vs) : RepT H μ (x :: xs) (v :: vs)
inductive RepS (H : Heap) (μ : Oid → Option Nat) : V → Value → Prop
 | two (x v) (h : Rep2 H μ x v) : RepS H μ x v
 | tup (xs vs) (h : RepT H μ xs vs) : RepS H μ (.tup xs) (.tuple vs.toArray)

def LeM (μ μ' : Oid → Option Nat) : Prop := ∀ o b, μ o = some b → μ' o = some b
section
variable {H H' : Heap} {μ μ' : Oid → Option Nat} (hl : Le H H') (hm : LeM μ μ')
include hl hm
theorem Rep1.mono {x v} (h : Rep1 H μ x v) : Rep1 H' μ' x v := by
 cases h with
 | any => exact .any _
 | nils => exact .nils
 | data _ _ h => exact .data _ _ (h.mono hl)
 | own0 => exact .own0 _
 | own sz xs b off c hr hc => exact .own sz xs b off c (hr.mono hl) hc
 | ref o b off h => exact .ref o b off (hm o b h)
 | sl0 sz o => exact .sl0 sz o
 | sl sz o b n c h hc hs => exact .sl sz o b n c (hm o b h) hc (Nat.le_trans hs (hl.size b))
 | mp o b h => exact .mp o b (hm o b h)
 | eptr cs vs b o0 off h hmm => exact .eptr cs vs b o0 off (h.mono hl) (fun j hj => hl.cell _ _ _ (hmm j hj))
theorem RepC.mono {x v} (h : RepC H μ x v) : RepC H' μ' x v := by
 induction x generalizing v with
 | nil => cases h; exact .nil
 | cons x xs ih => cases h with | cons _ v _ vs h1 hv h hs => exact .cons _ _ _ _ h1 hv (h.mono hl hm) (ih hs)
theorem Rep2.mono {x v} (h : Rep2 H μ x v) : Rep2 H' μ' x v := by
 cases h with
 | one _ _ h => exact .one _ _ (h.mono hl hm)
 | agg cs vs h => exact .agg _ _ (h.mono hl hm)
 | clo f a b us vs h h' => exact .clo f a b us vs (h.mono hl hm) (h'.mono hl hm)
theorem RepT.mono {x v} (h : RepT H μ x v) : RepT H' μ' x v := by
 induction x generalizing v with
 | nil => cases h; exact .nil
 | cons x xs ih => cases h with | cons _ v _ vs h hs => exact .cons _ _ _ _ (h.mono hl hm) (ih hs)
theorem RepS.mono {x v} (h : RepS H μ x v) : RepS H' μ' x v := by
 cases h with
 | two _ _ h => exact .two _ _ (h.mono hl hm)
 | tup xs vs h => exact .tup _ _ (h.mono hl hm)
end
theorem RepC.length {H μ xs vs} (h : RepC H μ xs vs) : xs.length = vs.length := by
 induction xs generalizing vs with
 | nil => cases h; rfl
 | cons x xs ih => cases h with | cons _ v _ vs h1 hv h hs => simp [ih hs]
theorem RepC.get {H μ xs vs} (h : RepC H μ xs vs) (j : Nat) (hj : j < xs.length) (hj' : j < vs.length) : xs[j].isCell = true ∧ cellV vs[j] = true ∧ Rep1 H μ xs[j] vs[j] := by
 induction xs generalizing vs j with
 | nil => simp at hj
 | cons x xs ih =>
  cases h with
  | cons _ v _ vs h1 hv h hs =>
   cases j with
   | zero => exact ⟨h1, hv, h⟩
   | succ j => exact ih hs j (by simpa using hj) (by simpa using hj')
theorem RepC.of_get {H μ} {xs : List V} {vs : List Value} (hl : xs.length = vs.length)
  (h : ∀ j (hj : j < xs.length) (hj' : j < vs.length), xs[j].isCell = true ∧ cellV vs[j] = true ∧ Rep1 H μ xs[j] vs[j]) : RepC H μ xs vs := by
 induction xs generalizing vs with
 | nil => cases vs with | nil => exact .nil | cons => simp at hl
 | cons x xs ih =>
  cases vs with
  | nil => simp at hl
  | cons v vs =>
   have h0 := h 0 (by simp) (by simp)
   exact .cons _ _ _ _ h0.1 h0.2.1 h0.2.2 (ih (by simpa using hl) fun j hj hj' => h (j + 1) (by simpa using hj) (by simpa using hj'))
theorem RepL.toC {H μ xs vs} (h : RepL H xs vs) : RepC H μ xs vs := by
 induction xs generalizing vs with
 | nil => cases h; exact .nil
 | cons x xs ih => cases h with | cons _ v _ vs h1 h hs => exact .cons _ _ _ _ h1 (h.cell h1) (.data _ _ h) (ih hs)

theorem Rep1.weak1 {H μ x v} (h : Rep1 H μ x v) : Rep1 H μ x.weak1 v := by
 cases h with
 | own0 => exact .data _ _ (.slice0 _)
 | own sz xs b off c hr hc => exact .data _ _ (.slice sz xs b off c hr hc)
 | any => exact .any _
 | nils => exact .nils
 | ref o b off h => exact .ref o b off h
 | eptr cs vs b o0 off h hm => exact .eptr cs vs b o0 off h hm
 | sl0 sz o => exact .sl0 sz o
 | sl sz o b n c h hc hs => exact .sl sz o b n c h hc hs
 | mp o b h => exact .mp o b h
 | data _ _ h => cases h <;> exact .data _ _ (by constructor <;> assumption)
theorem isCell_weak1 {x : V} (h : x.isCell = true) : x.weak1.isCell = true := by cases x <;> simp_all [V.weak1, V.isCell]
theorem RepC.weak {H μ xs vs} (h : RepC H μ xs vs) : RepC H μ (xs.map V.weak1) vs := by
 induction xs generalizing vs with
 | nil => cases h; exact .nil
 | cons x xs ih => cases h with | cons _ v _ vs h1 hv h hs => exact .cons _ _ _ _ (isCell_weak1 h1) hv h.weak1 (ih hs)
theorem RepS.weak {H μ x v} (h : RepS H μ x v) : RepS H μ x.weak v := by
 cases h with
 | tup xs vs h => exact .tup _ _ h
 | two _ _ h =>
  refine .two _ _ ?_
  cases h with
  | agg cs vs h => exact .agg _ _ h.weak
  | clo f a b us vs h h' => exact .clo f a b us vs h h'
  | one _ _ h =>
   cases h with
   | data _ _ h =>
    cases h with
    | agg cs vs h => exact .agg _ _ (RepC.weak h.toC)
    | _ => exact .one _ _ (.data _ _ (by constructor <;> assumption))
   | own0 => exact .one _ _ (.data _ _ (.slice0 _))
   | own sz xs b off c hr hc => exact .one _ _ (.data _ _ (.slice sz xs b off c hr hc))
   | any => exact .one _ _ (.any _)
   | nils => exact .one _ _ .nils
   | ref o b off h => exact .one _ _ (.ref o b off h)
   | eptr cs vs b o0 off h hm => exact .one _ _ (.eptr cs vs b o0 off h hm)
   | sl0 sz o => exact .one _ _ (.sl0 sz o)
   | sl sz o b n c h hc hs => exact .one _ _ (.sl sz o b n c h hc hs)
   | mp o b h => exact .one _ _ (.mp o b h)

end Go.Ax
set_option linter.unusedVariables false
set_option linter.unusedSimpArgs false
namespace Go.Ax

theorem look_cons (t u : Nat) (v : V) (r : List (Nat × V)) : look t ((u, v) :: r) = if u = t then v else look t r := rfl
attribute [local simp] look_cons
theorem St.tm_put (st : St) (t u : Nat) (v : V) : (st.put t v).tm u = if t = u then v else st.tm u := rfl
theorem St.tm_putO (st : St) (o : Oid) (x : Ob) (u : Nat) : (st.putO o x).tm u = st.tm u := rfl
theorem St.ob_put (st : St) (t : Nat) (v : V) (o : Oid) : (st.put t v).ob o = st.ob o := rfl
theorem St.ob_putO (st : St) (o u : Oid) (x : Ob) : (st.putO o x).ob u = if o = u then some x else st.ob u := rfl

def upd (tm : Nat → Value) (t : Nat) (v : Value) : Nat → Value := fun u => if u = t then v else tm u

inductive Loc where
 | t (n : Nat)
 | o (o : Oid) (j : Nat)

def atL (μ : Oid → Option Nat) (st : St) (tm : Nat → Value) (w : World) : Loc → V → Value → Prop
 | .t n, x, v => st.tm n = x ∧ tm n = v
 | .o o j, x, v => ∃ row cs b, st.ob o = some (.cells row cs) ∧ μ o = some b ∧ cs[j]? = some x ∧ w.cell? ⟨b, j, none⟩ = some v

def Holds (μ : Oid → Option Nat) (st : St) (tm : Nat → Value) (w : World) (ℓ : Loc) (b : Nat) : Prop :=
 ∃ sz xs off n c, atL μ st tm w ℓ (.own sz xs) (.slice (some ⟨b, off, none⟩) n c)

/-- What a call may not touch, and where its caller's objects lie. -/
structure Fr where
 F : Nat → Prop
 G : Nat → Option Nat
 B : Heap
instance : CoeFun Fr (fun _ => Nat → Prop) := ⟨Fr.F⟩

/-- Where objects lie that somebody may use. -/
def live (st : St) (μ : Oid → Option Nat) (o : Oid) : Option Nat :=
 match st.ob o with
 | some .dead => none
 | _ => μ o
def blkSize (w : World) (b : Nat) : Nat :=
 match w.heap[b]? with
 | some (.cells vs _ _) => vs.size
 | _ => 0

structure OwnAt (H : Heap) (μ : Oid → Option Nat) (F : Fr) (w : World) (b e top : Nat) : Prop where
 blk : ∃ vs ty, w.heap[b]? = some (.cells vs ty (0, 0)) ∧ top ≤ vs.size
 free : ∀ k, e ≤ k → k < top → H b k = none
 noobj : ∀ o, μ o ≠ some b
 nofr : ¬ F b

structure RepM (H : Heap) (base : Nat) (l : List (V × V)) (es : List MapEntry) : Prop where
 len : l.length = es.length
 get : ∀ j (hj : j < l.length) (hj' : j < es.length), es[j].born = base + j ∧ RepD H l[j].1 es[j].key ∧ RepD H l[j].2 es[j].val
def RepOb (H : Heap) (μ : Oid → Option Nat) (w : World) (b : Nat) : Ob → Prop
 | .cells row cs => ∃ vs ty, w.heap[b]? = some (.cells vs ty (0, 0)) ∧ RepC H μ cs (vs.toList.take cs.length) ∧ (row = true → rowOk cs = true)
 | .map base l => ∃ es, w.heap[b]? = some (.map es (base + l.length)) ∧ RepM H base l es.toList
 | .dead => True

/-- Blocks that are known whole: nobody writes them. -/
def BlkOk (F : Fr) (w : World) : Prop := ∀ b o, F.B.blk b = some o → F b ∧ w.heap[b]? = some o
structure Rel (H : Heap) (μ : Oid → Option Nat) (F : Fr) (st : St) (tm : Nat → Value) (w : World) : Prop where
 env : ∀ t, RepS H μ (st.tm t) (tm t)
 heap : ∀ b o v, H b o = some v → w.cell? ⟨b, o, none⟩ = some v
 size : ∀ b, H.size b ≤ blkSize w b
 dom : ∀ o, st.ob o = none → μ o = none
 obs : ∀ o x, st.ob o = some x → x.alive = true → (∃ b, μ o = some b ∧ RepOb H μ w b x) ∨ (x = .cells true [] ∧ μ o = none)
 inj : ∀ o o' b, live st μ o = some b → live st μ o' = some b → o = o'
 objH : ∀ o b, live st μ o = some b → ∀ k, H b k = none
 objF : ∀ o b, live st μ o = some b → ¬ F b
 Flt : (∀ b, F b → b < w.heap.size) ∧ BlkOk F w
 own : ∀ ℓ sz xs b off n c, atL μ st tm w ℓ (.own sz xs) (.slice (some ⟨b, off, none⟩) n c) → OwnAt H (live st μ) F w b (off + n * sz) (off + c * sz)
 ownInj : ∀ ℓ ℓ' b, Holds μ st tm w ℓ b → Holds μ st tm w ℓ' b → ℓ = ℓ'
 par : ∀ j, st.ob (.par j) ≠ none → μ (.par j) = F.G j
 base : Le F.B H

/-- The streams are as they were. -/
def Io (w w' : World) : Prop := w'.os = w.os ∧ w'.tape = w.tape ∧ w'.output = w.output
theorem Io.refl (w : World) : Io w w := ⟨rfl, rfl, rfl⟩
theorem Io.trans {a b c : World} (h : Io a b) (k : Io b c) : Io a c := ⟨k.1.trans h.1, k.2.1.trans h.2.1, k.2.2.trans h.2.2⟩
structure Ext (F : Fr) (H : Heap) (w : World) (H' : Heap) (w' : World) : Prop where
 io : Io w w'
 le : Le H H'
 size : w.heap.size ≤ w'.heap.size
 frm : ∀ b, F b → b < w.heap.size → w'.heap[b]? = w.heap[b]?
 frH : ∀ b, F b → b < w.heap.size → ∀ k, H' b k = H b k
theorem Ext.refl (F H w) : Ext F H w H w := ⟨Io.refl _, Le.refl _, Nat.le_refl _, fun _ _ _ => rfl, fun _ _ _ _ => rfl⟩
theorem Ext.trans {F H w H' w' H'' w''} (h : Ext F H w H' w') (h' : Ext F H' w' H'' w'') : Ext F H w H'' w'' :=
 ⟨h.io.trans h'.io, h.le.trans h'.le, Nat.le_trans h.size h'.size, fun b hb hlt => (h'.frm b hb (Nat.lt_of_lt_of_le hlt h.size)).trans (h.frm b hb hlt),
  fun b hb hlt k => (h'.frH b hb (Nat.lt_of_lt_of_le hlt h.size) k).trans (h.frH b hb hlt k)⟩
theorem Ext.sub {F F' H w H' w'} (h : Ext F' H w H' w') (hs : ∀ b, F b → F' b) : Ext F H w H' w' :=
 ⟨h.io, h.le, h.size, fun b hb => h.frm b (hs b hb), fun b hb => h.frH b (hs b hb)⟩
theorem Ext.world {F H} {w w' : World} (hh : w'.heap = w.heap) (hi : Io w w') : Ext F H w H w' :=
 ⟨hi, Le.refl _, by rw [hh]; exact Nat.le_refl _, fun _ _ _ => by rw [hh], fun _ _ _ _ => rfl⟩

theorem cell?_eq {w w' : World} {b : Nat} (h : w'.heap[b]? = w.heap[b]?) (k : Nat) : w'.cell? ⟨b, k, none⟩ = w.cell? ⟨b, k, none⟩ := by
 simp [World.cell?, h]
theorem blkSize_eq {w w' : World} {b : Nat} (h : w'.heap[b]? = w.heap[b]?) : blkSize w' b = blkSize w b := by
 simp [blkSize, h]
theorem blkSize_of {w : World} {b : Nat} {vs : Array Value} {ty fr} (h : w.heap[b]? = some (.cells vs ty fr)) : blkSize w b = vs.size := by
 simp [blkSize, h]
theorem blkSize_lt {w : World} {b : Nat} (h : 0 < blkSize w b) : b < w.heap.size := by
 unfold blkSize at h
 split at h
 ·rename_i hb; exact (Array.getElem?_eq_some_iff.1 hb).1
 ·omega
theorem cell?_of {w : World} {b : Nat} {vs : Array Value} {ty fr} (h : w.heap[b]? = some (.cells vs ty fr)) (k : Nat) : w.cell? ⟨b, k, none⟩ = vs[k]? := by
 simp [World.cell?, h]
theorem cell?_lt {w : World} {b k : Nat} {v : Value} (h : w.cell? ⟨b, k, none⟩ = some v) : b < w.heap.size := by
 simp only [World.cell?] at h
 split at h
 ·rename_i hb
  exact (Array.getElem?_eq_some_iff.1 hb).1
 ·simp at h
theorem RepOb.keep {H H' : Heap} {μ μ' : Oid → Option Nat} {w w' : World} {b : Nat} {x : Ob} (h : RepOb H μ w b x) (hh : w'.heap[b]? = w.heap[b]?) (hl : Le H H') (hm : LeM μ μ') : RepOb H' μ' w' b x := by
 cases x with
 | cells row cs => obtain ⟨vs, ty, h1, h2, h3⟩ := h; exact ⟨vs, ty, by rw [hh]; exact h1, h2.mono hl hm, h3⟩
 | map base l => obtain ⟨es, h1, h2⟩ := h; exact ⟨es, by rw [hh]; exact h1, h2.len, fun j hj hj' => ⟨(h2.get j hj hj').1, (h2.get j hj hj').2.1.mono hl, (h2.get j hj hj').2.2.mono hl⟩⟩
 | dead => trivial
theorem RepOb.lt {H : Heap} {μ : Oid → Option Nat} {w : World} {b : Nat} {x : Ob} (h : RepOb H μ w b x) (ha : x.alive = true) : b < w.heap.size := by
 cases x with
 | cells row cs => obtain ⟨vs, ty, h1, _⟩ := h; exact (Array.getElem?_eq_some_iff.1 h1).1
 | map base l => obtain ⟨es, h1, _⟩ := h; exact (Array.getElem?_eq_some_iff.1 h1).1
 | dead => simp [Ob.alive] at ha

section
variable {H H' : Heap} {μ μ' : Oid → Option Nat} {F : Fr} {st st' : St} {tm tm' : Nat → Value} {w w' : World}

theorem live_some {o b} (h : live st μ o = some b) : μ o = some b ∧ st.ob o ≠ some .dead := by
 unfold live at h
 split at h
 ·simp at h
 ·rename_i hn; exact ⟨h, fun e => hn e⟩
theorem live_of {o b} (h : μ o = some b) (hd : st.ob o ≠ some .dead) : live st μ o = some b := by
 unfold live
 split
 ·rename_i e; exact absurd e hd
 ·exact h
theorem live_congr (h : ∀ o, st'.ob o = st.ob o) : live st' μ = live st μ := by funext o; simp [live, h]
theorem Rel.congr (h : Rel H μ F st tm w) (h1 : ∀ t, st'.tm t = st.tm t) (h2 : ∀ o, st'.ob o = st.ob o) : Rel H μ F st' tm w := by
 have ha : ∀ ℓ x v, atL μ st' tm w ℓ x v ↔ atL μ st tm w ℓ x v := by
  intro ℓ x v
  cases ℓ <;> simp [atL, h1, h2]
 have hh : ∀ ℓ b, Holds μ st' tm w ℓ b ↔ Holds μ st tm w ℓ b := by simp [Holds, ha]
 have hL : live st' μ = live st μ := live_congr h2
 exact ⟨fun t => by rw [h1]; exact h.env t, h.heap, h.size, fun o => by rw [h2]; exact h.dom o, fun o x => by rw [h2]; exact h.obs o x, by rw [hL]; exact h.inj, by rw [hL]; exact h.objH, by rw [hL]; exact h.objF, h.Flt,
  fun ℓ sz xs b off n c hl => by rw [hL]; exact h.own ℓ sz xs b off n c ((ha _ _ _).1 hl), fun ℓ ℓ' b x y => h.ownInj ℓ ℓ' b ((hh _ _).1 x) ((hh _ _).1 y), fun j => by rw [h2]; exact h.par j, h.base⟩
theorem Rel.tmCongr (h : Rel H μ F st tm w) (h1 : ∀ t, tm' t = tm t) : Rel H μ F st tm' w := by
 obtain rfl : tm' = tm := funext h1
 exact h
theorem Rel.obLt (h : Rel H μ F st tm w) {o b} (hb : live st μ o = some b) : ∃ x, st.ob o = some x ∧ x.alive = true ∧ RepOb H μ w b x ∧ b < w.heap.size := by
 obtain ⟨hm, hd⟩ := live_some hb
 cases hx : st.ob o with
 | none => rw [h.dom o hx] at hm; simp at hm
 | some x =>
  have ha : x.alive = true := by cases x <;> simp_all [Ob.alive]
  rcases h.obs o x hx ha with ⟨b', hb', hr⟩ | ⟨_, hn⟩
  ·rw [hm] at hb'
   injection hb' with hb'
   subst hb'
   exact ⟨x, rfl, ha, hr, hr.lt ha⟩
  ·rw [hm] at hn; simp at hn
theorem Rel.cellsLive (h : Rel H μ F st tm w) {o row cs b} (ho : st.ob o = some (.cells row cs)) (hb : μ o = some b) : live st μ o = some b := live_of hb (by rw [ho]; simp)
theorem Rel.cellsAt (h : Rel H μ F st tm w) {o row cs b} (ho : st.ob o = some (.cells row cs)) (hb : μ o = some b) :
  ∃ vs ty, w.heap[b]? = some (.cells vs ty (0, 0)) ∧ RepC H μ cs (vs.toList.take cs.length) ∧ (row = true → rowOk cs = true) := by
 rcases h.obs o _ ho rfl with ⟨b', hb', hr⟩ | ⟨_, hn⟩
 ·rw [hb] at hb'; injection hb' with hb'; subst hb'; exact hr
 ·rw [hb] at hn; simp at hn
/-- An object with cells lies somewhere. -/
theorem Rel.cellsSome (h : Rel H μ F st tm w) {o row cs} (ho : st.ob o = some (.cells row cs)) (hne : row = false ∨ cs ≠ []) :
  ∃ b vs ty, μ o = some b ∧ live st μ o = some b ∧ w.heap[b]? = some (.cells vs ty (0, 0)) ∧ RepC H μ cs (vs.toList.take cs.length) ∧ (row = true → rowOk cs = true) := by
 rcases h.obs o _ ho rfl with ⟨b, hb, vs, ty, h1, h2, h3⟩ | ⟨e, hn⟩
 ·exact ⟨b, vs, ty, hb, h.cellsLive ho hb, h1, h2, h3⟩
 ·simp at e
  rcases hne with hne | hne
  ·rw [hne] at e; simp at e
  ·exact absurd e.2 hne
/-- Another world, the same cells; and rows that are new. -/
theorem Rel.push (h : Rel H μ F st tm w) (ob : Obj) (hh : w'.heap = w.heap.push ob) (hl : Le H H')
  (hnew : ∀ b k, b ≠ w.heap.size → H' b k = H b k) (hcell : ∀ k v, H' w.heap.size k = some v → w'.cell? ⟨w.heap.size, k, none⟩ = some v)
  (hsz : ∀ b, b ≠ w.heap.size → H'.size b = H.size b) (hsz' : H'.size w.heap.size ≤ blkSize w' w.heap.size) : Rel H' μ F st tm w' := by
 have hb : ∀ b, b < w.heap.size → w'.heap[b]? = w.heap[b]? := by
  intro b hb
  rw [hh, Array.getElem?_push]
  simp [Nat.ne_of_lt hb]
 have ho : ∀ o b, live st μ o = some b → b < w.heap.size := fun o b x => (h.obLt x).choose_spec.2.2.2
 have ha : ∀ ℓ x v, atL μ st tm w' ℓ x v → atL μ st tm w ℓ x v := by
  intro ℓ x v
  cases ℓ with
  | t n => exact id
  | o o j =>
   rintro ⟨row, cs, b, h1, h2, h3, h4⟩
   exact ⟨row, cs, b, h1, h2, h3, by rw [← cell?_eq (hb b (ho o b (h.cellsLive h1 h2)))]; exact h4⟩
 refine ⟨fun t => (h.env t).mono hl (fun _ _ x => x), ?_, ?_, h.dom, ?_, h.inj, ?_, h.objF, ⟨fun b x => by rw [hh]; simp; have := h.Flt.1 b x; omega, fun b o ho => ⟨(h.Flt.2 b o ho).1, by rw [hb b (h.Flt.1 b (h.Flt.2 b o ho).1)]; exact (h.Flt.2 b o ho).2⟩⟩, ?_, ?_, h.par, h.base.trans hl⟩
 ·intro b o v hv
  by_cases e : b = w.heap.size
  ·subst e; exact hcell _ _ hv
  ·rw [hnew b o e] at hv
   have := h.heap b o v hv
   rw [cell?_eq (hb b (cell?_lt this))]
   exact this
 ·intro b
  by_cases e : b = w.heap.size
  ·rw [e]; exact hsz'
  ·rw [hsz b e]
   by_cases h0 : b < w.heap.size
   ·rw [blkSize_eq (hb b h0)]; exact h.size b
   ·have h1 := h.size b
    have : ¬ 0 < blkSize w b := fun hp => h0 (blkSize_lt hp)
    omega
 ·intro o x hx hax
  rcases h.obs o x hx hax with ⟨b, h1, h2⟩ | h1
  ·exact .inl ⟨b, h1, h2.keep (hb b (h2.lt hax)) hl (fun _ _ x => x)⟩
  ·exact .inr h1
 ·intro o b hb' k
  rw [hnew b k (Nat.ne_of_lt (ho o b hb'))]
  exact h.objH o b hb' k
 ·intro ℓ sz xs b off n c hl'
  have := h.own ℓ sz xs b off n c (ha _ _ _ hl')
  obtain ⟨⟨vs, ty, h1, h2⟩, h3, h4, h5⟩ := this
  have hlt : b < w.heap.size := (Array.getElem?_eq_some_iff.1 h1).1
  exact ⟨⟨vs, ty, by rw [hb b hlt]; exact h1, h2⟩, fun k hk => by rw [hnew b k (Nat.ne_of_lt hlt)]; exact h3 k hk, h4, h5⟩
 ·intro ℓ ℓ' b h1 h2
  obtain ⟨sz, xs, off, n, c, h1⟩ := h1
  obtain ⟨sz', xs', off', n', c', h2⟩ := h2
  exact h.ownInj ℓ ℓ' b ⟨sz, xs, off, n, c, ha _ _ _ h1⟩ ⟨sz', xs', off', n', c', ha _ _ _ h2⟩
theorem Ext.push (F : Fr) (ob : Obj) (hh : w'.heap = w.heap.push ob) (hi : Io w w') (hl : Le H H') (hnew : ∀ b k, b ≠ w.heap.size → H' b k = H b k) : Ext F H w H' w' := by
 refine ⟨hi, hl, by rw [hh]; simp, fun b _ hlt => ?_, fun b _ hlt k => hnew b k (Nat.ne_of_lt hlt)⟩
 rw [hh, Array.getElem?_push]
 simp [Nat.ne_of_lt hlt]
theorem Rel.world (h : Rel H μ F st tm w) (hh : w'.heap = w.heap) : Rel H μ F st tm w' := by
 have hc : ∀ b k, w'.cell? ⟨b, k, none⟩ = w.cell? ⟨b, k, none⟩ := fun b k => cell?_eq (by rw [hh]) k
 have ha : ∀ ℓ x v, atL μ st tm w' ℓ x v ↔ atL μ st tm w ℓ x v := by
  intro ℓ x v
  cases ℓ <;> simp [atL, hc]
 have hho : ∀ ℓ b, Holds μ st tm w' ℓ b ↔ Holds μ st tm w ℓ b := by simp [Holds, ha]
 refine ⟨h.env, fun b o v x => by rw [hc]; exact h.heap b o v x, fun b => by rw [blkSize_eq (w := w) (w' := w') (by rw [hh])]; exact h.size b, h.dom, ?_, h.inj, h.objH, h.objF, ⟨by rw [hh]; exact h.Flt.1, fun b o ho => by rw [hh]; exact h.Flt.2 b o ho⟩, ?_, fun ℓ ℓ' b x y => h.ownInj ℓ ℓ' b ((hho _ _).1 x) ((hho _ _).1 y), h.par, h.base⟩
 ·intro o x hx hax
  rcases h.obs o x hx hax with ⟨b, h1, h2⟩ | h1
  ·exact .inl ⟨b, h1, h2.keep (by rw [hh]) (Le.refl _) (fun _ _ x => x)⟩
  ·exact .inr h1
 ·intro ℓ sz xs b off n c hl
  obtain ⟨h1, h2, h3, h4⟩ := h.own ℓ sz xs b off n c ((ha _ _ _).1 hl)
  exact ⟨by rw [hh]; exact h1, h2, h3, h4⟩

/-- A tmp gets a value that is no row of its own. -/
theorem Rel.put (h : Rel H μ F st tm w) {t : Nat} {x : V} {v : Value} (hx : RepS H μ x v) (hno : ∀ sz xs b off n c, x = .own sz xs → v ≠ .slice (some ⟨b, off, none⟩) n c) :
  Rel H μ F (st.put t x) (upd tm t v) w := by
 have ha : ∀ ℓ sz xs b off n c, atL μ (st.put t x) (upd tm t v) w ℓ (.own sz xs) (.slice (some ⟨b, off, none⟩) n c) → ℓ ≠ .t t ∧ atL μ st tm w ℓ (.own sz xs) (.slice (some ⟨b, off, none⟩) n c) := by
  intro ℓ sz xs b off n c
  cases ℓ with
  | t m =>
   rintro ⟨h1, h2⟩
   by_cases e : t = m
   ·subst e
    simp [St.tm_put, upd] at h1 h2
    exact absurd h2 (hno _ _ _ _ _ _ h1)
   ·simp [St.tm_put, upd, e, Ne.symm e] at h1 h2
    exact ⟨by simp; exact fun x => e x.symm, h1, h2⟩
  | o o j => exact fun x => ⟨by simp, x⟩
 refine ⟨fun u => ?_, h.heap, h.size, h.dom, h.obs, h.inj, h.objH, h.objF, h.Flt, fun ℓ sz xs b off n c x => h.own ℓ sz xs b off n c (ha _ _ _ _ _ _ _ x).2, ?_, h.par, h.base⟩
 ·by_cases e : t = u
  ·subst e; simpa [St.tm_put, upd] using hx
  ·simpa [St.tm_put, upd, e, Ne.symm e] using h.env u
 ·rintro ℓ ℓ' b ⟨sz, xs, off, n, c, h1⟩ ⟨sz', xs', off', n', c', h2⟩
  exact h.ownInj ℓ ℓ' b ⟨sz, xs, off, n, c, (ha _ _ _ _ _ _ _ h1).2⟩ ⟨sz', xs', off', n', c', (ha _ _ _ _ _ _ _ h2).2⟩
/-- A tmp gets a row that nobody else has. -/
theorem Rel.putOwn (h : Rel H μ F st tm w) {t sz : Nat} {xs : List V} {b off c : Nat} (hx : Rep1 H μ (.own sz xs) (.slice (some ⟨b, off, none⟩) xs.length c))
  (ho : OwnAt H (live st μ) F w b (off + xs.length * sz) (off + c * sz)) (hf : ∀ ℓ, ¬ Holds μ st tm w ℓ b) :
  Rel H μ F (st.put t (.own sz xs)) (upd tm t (.slice (some ⟨b, off, none⟩) xs.length c)) w := by
 have ha : ∀ ℓ sz' xs' b' off' n' c', atL μ (st.put t (.own sz xs)) (upd tm t (.slice (some ⟨b, off, none⟩) xs.length c)) w ℓ (.own sz' xs') (.slice (some ⟨b', off', none⟩) n' c') →
   (ℓ = .t t ∧ b' = b ∧ OwnAt H (live st μ) F w b' (off' + n' * sz') (off' + c' * sz')) ∨ atL μ st tm w ℓ (.own sz' xs') (.slice (some ⟨b', off', none⟩) n' c') := by
  intro ℓ sz' xs' b' off' n' c'
  cases ℓ with
  | t m =>
   rintro ⟨h1, h2⟩
   by_cases e : t = m
   ·subst e
    simp [St.tm_put, upd] at h1 h2
    obtain ⟨rfl, rfl⟩ := h1
    obtain ⟨⟨rfl, rfl⟩, rfl, rfl⟩ := h2
    exact .inl ⟨rfl, rfl, ho⟩
   ·simp [St.tm_put, upd, e, Ne.symm e] at h1 h2
    exact .inr ⟨h1, h2⟩
  | o o j => exact .inr
 refine ⟨fun u => ?_, h.heap, h.size, h.dom, h.obs, h.inj, h.objH, h.objF, h.Flt, fun ℓ sz' xs' b' off' n' c' x => ?_, ?_, h.par, h.base⟩
 ·by_cases e : t = u
  ·subst e
   simp only [St.tm_put, upd, if_pos]
   exact .two _ _ (.one _ _ hx)
  ·simpa [St.tm_put, upd, e, Ne.symm e] using h.env u
 ·rcases ha _ _ _ _ _ _ _ x with ⟨_, _, h3⟩ | h3
  ·exact h3
  ·exact h.own _ _ _ _ _ _ _ h3
 ·rintro ℓ ℓ' b' ⟨sz1, xs1, off1, n1, c1, h1⟩ ⟨sz2, xs2, off2, n2, c2, h2⟩
  rcases ha _ _ _ _ _ _ _ h1 with ⟨e1, e1', _⟩ | h3 <;> rcases ha _ _ _ _ _ _ _ h2 with ⟨e2, e2', _⟩ | h4
  ·rw [e1, e2]
  ·subst e1'
   exact absurd ⟨_, _, _, _, _, h4⟩ (hf ℓ')
  ·subst e2'
   exact absurd ⟨_, _, _, _, _, h3⟩ (hf ℓ)
  ·exact h.ownInj ℓ ℓ' b' ⟨_, _, _, _, _, h3⟩ ⟨_, _, _, _, _, h4⟩
/-- A tmp gives its row up: what it held, and that nobody holds it now. -/
theorem Rel.weakT (h : Rel H μ F st tm w) (t : Nat) : Rel H μ F (st.put t (st.tm t).weak) tm w ∧
  ∀ b, Holds μ st tm w (.t t) b → ∀ ℓ, ¬ Holds μ (st.put t (st.tm t).weak) tm w ℓ b := by
 have hu : upd tm t (tm t) = tm := by
  funext u
  by_cases e : u = t
  ·subst e; simp [upd]
  ·simp [upd, e]
 have hw : ∀ sz xs, (st.tm t).weak ≠ .own sz xs := by
  intro sz xs
  cases st.tm t <;> simp [V.weak]
 have h1 := h.put (t := t) (h.env t).weak (fun sz xs _ _ _ _ e => absurd e (hw sz xs))
 rw [hu] at h1
 refine ⟨h1, fun b hb ℓ hℓ => ?_⟩
 obtain ⟨sz, xs, off, n, c, hl⟩ := hℓ
 have : ℓ ≠ .t t ∧ Holds μ st tm w ℓ b := by
  cases ℓ with
  | t m =>
   obtain ⟨h2, h3⟩ := hl
   by_cases e : t = m
   ·subst e
    simp [St.tm_put] at h2
    exact absurd h2 (hw _ _)
   ·simp [St.tm_put, e] at h2
    exact ⟨by simp; exact fun x => e x.symm, sz, xs, off, n, c, h2, h3⟩
  | o o j => exact ⟨by simp, sz, xs, off, n, c, hl⟩
 exact this.1 (h.ownInj ℓ (.t t) b this.2 hb)
end
end Go.Ax
set_option linter.unusedVariables false
set_option linter.unusedSimpArgs false
namespace Go.Ax
attribute [local simp] look_cons
def updO (μ : Oid → Option Nat) (o : Oid) (b : Option Nat) : Oid → Option Nat := fun u => if u = o then b else μ u
def OwnIn (w : World) (b : Nat) (x : Ob) (j b' : Nat) : Prop :=
 ∃ row cs sz xs off n c, x = .cells row cs ∧ cs[j]? = some (.own sz xs) ∧ w.cell? ⟨b, j, none⟩ = some (.slice (some ⟨b', off, none⟩) n c)
theorem OwnAt.sub {H ν ν' F w b e top} (h : OwnAt H ν F w b e top) (hs : ∀ o b, ν' o = some b → ν o = some b) : OwnAt H ν' F w b e top :=
 ⟨h.blk, h.free, fun o ho => h.noobj o (hs o b ho), h.nofr⟩
theorem live_kill {st : St} {μ : Oid → Option Nat} {o u : Oid} : live (st.putO o .dead) μ u = if u = o then none else live st μ u := by
 unfold live
 rw [St.ob_putO]
 by_cases e : o = u
 ·subst e; simp
 ·simp [e, Ne.symm e]
theorem live_add {st : St} {μ : Oid → Option Nat} {o u : Oid} {x : Ob} {b : Option Nat} (hx : x.alive = true) : live (st.putO o x) (updO μ o b) u = if u = o then b else live st μ u := by
 unfold live
 rw [St.ob_putO]
 by_cases e : o = u
 ·subst e
  simp [updO]
  cases x <;> simp_all [Ob.alive]
 ·simp [e, Ne.symm e, updO]
theorem live_set {st : St} {μ : Oid → Option Nat} {o u : Oid} {x y : Ob} (hx : x.alive = true) (ho : st.ob o = some y) (hy : y.alive = true) : live (st.putO o x) μ u = live st μ u := by
 unfold live
 rw [St.ob_putO]
 by_cases e : o = u
 ·subst e
  rw [ho]
  cases x <;> cases y <;> simp_all [Ob.alive]
 ·simp [e]
section
variable {H H' : Heap} {μ μ' : Oid → Option Nat} {F : Fr} {st st' : St} {tm tm' : Nat → Value} {w w' : World}

/-- Nobody may use an object any more. -/
theorem Rel.kill (h : Rel H μ F st tm w) {o : Oid} (ho : st.ob o ≠ none) : Rel H μ F (st.putO o .dead) tm w ∧ (∀ j b, Holds μ st tm w (.o o j) b → ∀ ℓ, ¬ Holds μ (st.putO o .dead) tm w ℓ b) ∧
  (∀ b, live st μ o = some b → ∀ u, live (st.putO o .dead) μ u ≠ some b) ∧ ∀ ℓ b, Holds μ (st.putO o .dead) tm w ℓ b → Holds μ st tm w ℓ b := by
 have hsub : ∀ u b, live (st.putO o .dead) μ u = some b → live st μ u = some b ∧ u ≠ o := by
  intro u b hu
  rw [live_kill] at hu
  split at hu
  ·simp at hu
  ·rename_i e; exact ⟨hu, e⟩
 have hat : ∀ ℓ x v, atL μ (st.putO o .dead) tm w ℓ x v → atL μ st tm w ℓ x v ∧ ∀ j, ℓ ≠ .o o j := by
  intro ℓ x v hl
  cases ℓ with
  | t m => exact ⟨hl, by simp⟩
  | o u j =>
   obtain ⟨row, cs, b, h1, h2, h3, h4⟩ := hl
   rw [St.ob_putO] at h1
   by_cases e : o = u
   ·rw [if_pos e] at h1; simp at h1
   ·rw [if_neg e] at h1
    exact ⟨⟨row, cs, b, h1, h2, h3, h4⟩, fun j' e' => by simp at e'; exact e e'.1.symm⟩
 have hh : ∀ ℓ b, Holds μ (st.putO o .dead) tm w ℓ b → Holds μ st tm w ℓ b := fun ℓ b ⟨sz, xs, off, n, c, hl⟩ => ⟨sz, xs, off, n, c, (hat _ _ _ hl).1⟩
 refine ⟨⟨h.env, h.heap, h.size, ?_, ?_, fun u u' b h1 h2 => h.inj u u' b (hsub _ _ h1).1 (hsub _ _ h2).1, fun u b h1 => h.objH u b (hsub _ _ h1).1, fun u b h1 => h.objF u b (hsub _ _ h1).1, h.Flt,
  fun ℓ sz xs b off n c hl => (h.own _ _ _ _ _ _ _ (hat _ _ _ hl).1).sub (fun u b hu => (hsub u b hu).1), fun ℓ ℓ' b h1 h2 => h.ownInj ℓ ℓ' b (hh _ _ h1) (hh _ _ h2), ?_, h.base⟩, ?_, ?_, hh⟩
 ·intro u hu
  rw [St.ob_putO] at hu
  split at hu
  ·simp at hu
  ·exact h.dom u hu
 ·intro u x hx ha
  rw [St.ob_putO] at hx
  split at hx
  ·simp at hx; subst hx; simp [Ob.alive] at ha
  ·exact h.obs u x hx ha
 ·intro j hj
  rw [St.ob_putO] at hj
  split at hj
  ·rename_i e; exact h.par j (e ▸ ho)
  ·exact h.par j hj
 ·rintro j b hb ℓ ⟨sz, xs, off, n, c, hl⟩
  obtain ⟨h1, h2⟩ := hat _ _ _ hl
  exact h2 j (h.ownInj ℓ (.o o j) b ⟨sz, xs, off, n, c, h1⟩ hb)
 ·intro b hb u hu
  obtain ⟨h1, h2⟩ := hsub u b hu
  exact h2 (h.inj u o b h1 hb)

/-- An object gets a name: nobody else has its block. -/
theorem Rel.addOb (h : Rel H μ F st tm w) {o : Oid} (hop : ∀ j, o ≠ .par j) (ho : st.ob o = none) {x : Ob} (hax : x.alive = true) {b : Nat}
  (hr : RepOb H (updO μ o (some b)) w b x) (hb1 : ∀ u, live st μ u ≠ some b) (hb2 : ∀ k, H b k = none) (hb3 : ¬ F b) (hb4 : ∀ ℓ, ¬ Holds μ st tm w ℓ b)
  (hown : ∀ row cs j sz xs b' off n c, x = .cells row cs → cs[j]? = some (.own sz xs) → w.cell? ⟨b, j, none⟩ = some (.slice (some ⟨b', off, none⟩) n c) →
   b' ≠ b ∧ OwnAt H (live st μ) F w b' (off + n * sz) (off + c * sz) ∧ ∀ ℓ, ¬ Holds μ st tm w ℓ b')
  (hinj : ∀ j j' b', OwnIn w b x j b' → OwnIn w b x j' b' → j = j') : Rel H (updO μ o (some b)) F (st.putO o x) tm w := by
 have hμ := h.dom o ho
 have hle : LeM μ (updO μ o (some b)) := by
  intro u b' hb'
  unfold updO
  by_cases e : u = o
  ·subst e; rw [hμ] at hb'; simp at hb'
  ·simpa [e] using hb'
 have hlv : ∀ u, live (st.putO o x) (updO μ o (some b)) u = if u = o then some b else live st μ u := fun u => live_add hax
 have hat : ∀ ℓ y v, atL (updO μ o (some b)) (st.putO o x) tm w ℓ y v → (∃ row cs j, ℓ = .o o j ∧ x = .cells row cs ∧ cs[j]? = some y ∧ w.cell? ⟨b, j, none⟩ = some v) ∨ (atL μ st tm w ℓ y v ∧ ∀ j, ℓ ≠ .o o j) := by
  intro ℓ y v hl
  cases ℓ with
  | t m => exact .inr ⟨hl, by simp⟩
  | o u j =>
   obtain ⟨row, cs, b', h1, h2, h3, h4⟩ := hl
   rw [St.ob_putO] at h1
   by_cases e : o = u
   ·subst e
    simp at h1
    simp [updO] at h2
    subst h2
    exact .inl ⟨row, cs, j, rfl, h1, h3, h4⟩
   ·rw [if_neg e] at h1
    simp [updO, Ne.symm e] at h2
    exact .inr ⟨⟨row, cs, b', h1, h2, h3, h4⟩, fun j' e' => by simp at e'; exact e e'.1.symm⟩
 refine ⟨fun t => (h.env t).mono (Le.refl _) hle, h.heap, h.size, ?_, ?_, ?_, ?_, ?_, h.Flt, ?_, ?_, ?_, h.base⟩
 ·intro u hu
  rw [St.ob_putO] at hu
  split at hu
  ·simp at hu
  ·rename_i e; simp [updO, Ne.symm e]; exact h.dom u hu
 ·intro u y hy ha
  rw [St.ob_putO] at hy
  split at hy
  ·rename_i e
   subst e
   injection hy with hy
   subst hy
   exact .inl ⟨b, by simp [updO], hr⟩
  ·rename_i e
   rcases h.obs u y hy ha with ⟨b', h1, h2⟩ | ⟨h1, h2⟩
   ·exact .inl ⟨b', hle _ _ h1, h2.keep rfl (Le.refl _) hle⟩
   ·exact .inr ⟨h1, by simp [updO, Ne.symm e, h2]⟩
 ·intro u u' b' h1 h2
  rw [hlv] at h1 h2
  split at h1 <;> split at h2
  ·rename_i e e'; rw [e, e']
  ·injection h1 with h1; subst h1; exact absurd h2 (hb1 _)
  ·injection h2 with h2; subst h2; exact absurd h1 (hb1 _)
  ·exact h.inj u u' b' h1 h2
 ·intro u b' hb' k
  rw [hlv] at hb'
  split at hb'
  ·injection hb' with hb'; subst hb'; exact hb2 k
  ·exact h.objH u b' hb' k
 ·intro u b' hb'
  rw [hlv] at hb'
  split at hb'
  ·injection hb' with hb'; subst hb'; exact hb3
  ·exact h.objF u b' hb'
 ·intro ℓ sz xs b' off n c hl
  rcases hat _ _ _ hl with ⟨row, cs, j, e, e1, e2, e3⟩ | ⟨h1, h2⟩
  ·obtain ⟨g1, ⟨g2, g3, g4, g5⟩, g6⟩ := hown row cs j sz xs b' off n c e1 e2 e3
   refine ⟨g2, g3, fun u hu => ?_, g5⟩
   rw [hlv] at hu
   split at hu
   ·injection hu with hu; exact g1 hu.symm
   ·exact g4 u hu
  ·obtain ⟨g2, g3, g4, g5⟩ := h.own _ _ _ _ _ _ _ h1
   refine ⟨g2, g3, fun u hu => ?_, g5⟩
   rw [hlv] at hu
   split at hu
   ·injection hu with hu; subst hu; exact hb4 ℓ ⟨_, _, _, _, _, h1⟩
   ·exact g4 u hu
 ·rintro ℓ ℓ' b' ⟨sz, xs, off, n, c, h1⟩ ⟨sz', xs', off', n', c', h2⟩
  rcases hat _ _ _ h1 with ⟨row, cs, j, e, e1, e2, e3⟩ | ⟨h3, h3'⟩ <;> rcases hat _ _ _ h2 with ⟨row', cs', j', e', e1', e2', e3'⟩ | ⟨h4, h4'⟩
  ·rw [e, e', hinj j j' b' ⟨row, cs, sz, xs, off, n, c, e1, e2, e3⟩ ⟨row', cs', sz', xs', off', n', c', e1', e2', e3'⟩]
  ·exact absurd ⟨_, _, _, _, _, h4⟩ ((hown _ _ _ _ _ _ _ _ _ e1 e2 e3).2.2 ℓ')
  ·exact absurd ⟨_, _, _, _, _, h3⟩ ((hown _ _ _ _ _ _ _ _ _ e1' e2' e3').2.2 ℓ)
  ·exact h.ownInj ℓ ℓ' b' ⟨_, _, _, _, _, h3⟩ ⟨_, _, _, _, _, h4⟩
 ·intro j hj
  have hne := hop j
  rw [St.ob_putO, if_neg hne] at hj
  simp [updO, Ne.symm hne]
  exact h.par j hj
/-- A row that is nil gets a name. -/
theorem Rel.addNil (h : Rel H μ F st tm w) {o : Oid} (hop : ∀ j, o ≠ .par j) (ho : st.ob o = none) : Rel H μ F (st.putO o (.cells true [])) tm w := by
 have hμ := h.dom o ho
 have hlv : ∀ u, live (st.putO o (.cells true [])) μ u = live st μ u := by
  intro u
  unfold live
  rw [St.ob_putO]
  by_cases e : o = u
  ·subst e; simp [ho]
  ·simp [e]
 have hat : ∀ ℓ y v, atL μ (st.putO o (.cells true [])) tm w ℓ y v → atL μ st tm w ℓ y v := by
  intro ℓ y v hl
  cases ℓ with
  | t m => exact hl
  | o u j =>
   obtain ⟨row, cs, b', h1, h2, h3, h4⟩ := hl
   rw [St.ob_putO] at h1
   by_cases e : o = u
   ·subst e; rw [hμ] at h2; simp at h2
   ·rw [if_neg e] at h1
    exact ⟨row, cs, b', h1, h2, h3, h4⟩
 have hL : live (st.putO o (.cells true [])) μ = live st μ := funext hlv
 refine ⟨h.env, h.heap, h.size, ?_, ?_, by rw [hL]; exact h.inj, by rw [hL]; exact h.objH, by rw [hL]; exact h.objF, h.Flt, fun ℓ sz xs b off n c hl => by rw [hL]; exact h.own _ _ _ _ _ _ _ (hat _ _ _ hl),
  fun ℓ ℓ' b ⟨sz, xs, off, n, c, h1⟩ ⟨sz', xs', off', n', c', h2⟩ => h.ownInj ℓ ℓ' b ⟨_, _, _, _, _, hat _ _ _ h1⟩ ⟨_, _, _, _, _, hat _ _ _ h2⟩, ?_, h.base⟩
 ·intro u hu
  rw [St.ob_putO] at hu
  split at hu
  ·simp at hu
  ·exact h.dom u hu
 ·intro u y hy ha
  rw [St.ob_putO] at hy
  split at hy
  ·rename_i e
   injection hy with hy
   exact .inr ⟨hy.symm, e ▸ hμ⟩
  ·exact h.obs u y hy ha
 ·intro j hj
  have hne := hop j
  rw [St.ob_putO, if_neg hne] at hj
  exact h.par j hj

theorem setCell_heap (w : World) (b j : Nat) (v : Value) (b' : Nat) (h : b' ≠ b) : (w.setCell ⟨b, j, none⟩ v).heap[b']? = w.heap[b']? := by
 simp only [World.setCell]
 rw [Array.getElem?_modify]
 simp [Ne.symm h]
theorem setCell_heap_same {w : World} {b : Nat} {vs : Array Value} {ty fr} (h : w.heap[b]? = some (.cells vs ty fr)) (j : Nat) (v : Value) :
  (w.setCell ⟨b, j, none⟩ v).heap[b]? = some (.cells (vs.setIfInBounds j v) ty fr) := by
 simp only [World.setCell]
 rw [Array.getElem?_modify]
 simp [h]
theorem setCell_size (w : World) (a : Addr) (v : Value) : (w.setCell a v).heap.size = w.heap.size := by simp [World.setCell]
theorem setCell_blk {w : World} {b : Nat} {vs : Array Value} {ty fr} (h : w.heap[b]? = some (.cells vs ty fr)) (j : Nat) (v : Value) (b' : Nat) : blkSize (w.setCell ⟨b, j, none⟩ v) b' = blkSize w b' := by
 by_cases e : b' = b
 ·subst e; rw [blkSize_of (setCell_heap_same h j v), blkSize_of h]; simp
 ·exact blkSize_eq (setCell_heap _ _ _ _ _ e)
theorem cell?_set {w : World} {b : Nat} {vs : Array Value} {ty fr} (h : w.heap[b]? = some (.cells vs ty fr)) (j k : Nat) (v : Value) (hk : k ≠ j) :
  (w.setCell ⟨b, j, none⟩ v).cell? ⟨b, k, none⟩ = w.cell? ⟨b, k, none⟩ := by
 rw [cell?_of (setCell_heap_same h j v), cell?_of h, Array.getElem?_setIfInBounds]
 simp [Ne.symm hk]
theorem cell?_set_same {w : World} {b : Nat} {vs : Array Value} {ty fr} (h : w.heap[b]? = some (.cells vs ty fr)) (j : Nat) (v : Value) (hj : j < vs.size) :
  (w.setCell ⟨b, j, none⟩ v).cell? ⟨b, j, none⟩ = some v := by
 rw [cell?_of (setCell_heap_same h j v), Array.getElem?_setIfInBounds]
 simp [hj]
theorem rowOk_iff {cs : List V} : rowOk cs = true ↔ ∀ x ∈ cs, x.pure1 = true := by simp [rowOk]

/-- One cell of an object is written, or the cell behind its last. It is a row only if nobody else has it. -/
theorem Rel.setCell (h : Rel H μ F st tm w) {o : Oid} {b : Nat} (hb : μ o = some b) {row : Bool} {cs cs' : List V} (ho : st.ob o = some (.cells row cs)) {j : Nat} {x : V} {v : Value}
  (hj : j < cs.length ∧ cs' = cs.set j x ∨ j = cs.length ∧ cs' = cs ++ [x] ∧ j < blkSize w b)
  (hx : x.isCell = true) (hv : cellV v = true) (hr : Rep1 H μ x v) (hrow : row = true → x.pure1 = true)
  (hown : ∀ sz xs b' off n c, x = .own sz xs → v = .slice (some ⟨b', off, none⟩) n c → OwnAt H (live st μ) F w b' (off + n * sz) (off + c * sz) ∧ ∀ ℓ, ¬ Holds μ st tm w ℓ b') :
  Rel H μ F (st.putO o (.cells row cs')) tm (w.setCell ⟨b, j, none⟩ v) := by
 have hlb := h.cellsLive ho hb
 obtain ⟨vs, ty, hblk, hrep, hro⟩ := h.cellsAt ho hb
 have hlen := hrep.length
 rw [List.length_take] at hlen
 have hlen' : cs.length ≤ vs.size := by simp at hlen; omega
 have hjv : j < vs.size := by
  rcases hj with ⟨h1, _⟩ | ⟨h1, _, h2⟩
  ·omega
  ·rw [blkSize_of hblk] at h2; exact h2
 have hcl : cs.length ≤ cs'.length ∧ cs'.length ≤ vs.size := by
  rcases hj with ⟨h1, rfl⟩ | ⟨h1, rfl, h2⟩
  ·simp; omega
  ·simp; omega
 have hget : ∀ k, cs'[k]? = if k = j then some x else cs[k]? := by
  intro k
  rcases hj with ⟨h1, rfl⟩ | ⟨h1, rfl, h2⟩
  ·rw [List.getElem?_set]
   by_cases e : j = k
   ·subst e; simp [h1]
   ·simp [e, Ne.symm e]
  ·subst h1
   by_cases e : k = cs.length
   ·subst e; simp
   ·rw [if_neg e, List.getElem?_append]
    split
    ·rfl
    ·rename_i hk
     rw [List.getElem?_eq_none (by simp; omega), List.getElem?_eq_none (by omega)]
 have hob' : ∀ u b', live st μ u = some b' → u ≠ o → b' ≠ b := fun u b' hu hne he => hne (h.inj u o b (he ▸ hu) hlb)
 have hlv : ∀ u, live (st.putO o (.cells row cs')) μ u = live st μ u := fun u => live_set rfl ho rfl
 have hL : live (st.putO o (.cells row cs')) μ = live st μ := funext hlv
 have hoa : ∀ b' e top, OwnAt H (live st μ) F w b' e top → OwnAt H (live st μ) F (w.setCell ⟨b, j, none⟩ v) b' e top := by
  rintro b' e top ⟨⟨vs', ty', h1, h2⟩, h3, h4, h5⟩
  exact ⟨⟨vs', ty', by rw [setCell_heap w b j v b' (fun ee : b' = b => h4 o (by rw [ee]; exact hlb))]; exact h1, h2⟩, h3, h4, h5⟩
 have ha : ∀ ℓ sz xs b' off n c, atL μ (st.putO o (.cells row cs')) tm (w.setCell ⟨b, j, none⟩ v) ℓ (.own sz xs) (.slice (some ⟨b', off, none⟩) n c) →
   (ℓ = .o o j ∧ x = .own sz xs ∧ v = .slice (some ⟨b', off, none⟩) n c) ∨ atL μ st tm w ℓ (.own sz xs) (.slice (some ⟨b', off, none⟩) n c) := by
  intro ℓ sz xs b' off n c
  cases ℓ with
  | t m => exact .inr
  | o u k =>
   rintro ⟨row2, cs2, b2, h1, h2, h3, h4⟩
   by_cases e : o = u
   ·subst e
    simp [St.ob_putO] at h1
    obtain ⟨rfl, rfl⟩ := h1
    rw [hb] at h2
    injection h2 with h2
    subst h2
    rw [hget] at h3
    by_cases ek : k = j
    ·subst ek
     rw [cell?_set_same hblk k v hjv] at h4
     rw [if_pos rfl] at h3
     injection h3 with h3
     injection h4 with h4
     exact .inl ⟨rfl, h3, h4⟩
    ·rw [cell?_set hblk j k v ek] at h4
     rw [if_neg ek] at h3
     exact .inr ⟨row, cs, b, ho, hb, h3, h4⟩
   ·simp [St.ob_putO, e] at h1
    rw [cell?_eq (setCell_heap _ _ _ _ _ (hob' u b2 (h.cellsLive h1 h2) (Ne.symm e)))] at h4
    exact .inr ⟨row2, cs2, b2, h1, h2, h3, h4⟩
 refine ⟨h.env, ?_, fun b' => by rw [setCell_blk hblk]; exact h.size b', ?_, ?_, by rw [hL]; exact h.inj, by rw [hL]; exact h.objH, by rw [hL]; exact h.objF, ⟨by rw [setCell_size]; exact h.Flt.1, fun b' o' ho' => ⟨(h.Flt.2 b' o' ho').1, by rw [setCell_heap _ _ _ _ _ (fun e => by subst e; exact h.objF o _ hlb (h.Flt.2 _ o' ho').1)]; exact (h.Flt.2 b' o' ho').2⟩⟩, ?_, ?_, ?_, h.base⟩
 ·intro b' k u hu
  have hne : b' ≠ b := fun e => by subst e; rw [h.objH o b' hlb k] at hu; simp at hu
  rw [cell?_eq (setCell_heap _ _ _ _ _ hne)]
  exact h.heap b' k u hu
 ·intro u hu
  by_cases e : o = u
  ·subst e; simp [St.ob_putO] at hu
  ·simp [St.ob_putO, e] at hu; exact h.dom u hu
 ·intro u y hy hay
  by_cases e : o = u
  ·subst e
   simp [St.ob_putO] at hy
   subst hy
   refine .inl ⟨b, hb, vs.setIfInBounds j v, ty, setCell_heap_same hblk j v, RepC.of_get (by simp; omega) fun k hk hk' => ?_, fun hr' => ?_⟩
   ·have hk2 : k < vs.size := by omega
    have e1 : (vs.setIfInBounds j v).toList.take cs'.length = (vs.toList.set j v).take cs'.length := by simp
    have e2 : ((vs.setIfInBounds j v).toList.take cs'.length)[k] = if j = k then v else vs[k] := by
     simp only [List.getElem_take, Array.toList_setIfInBounds, List.getElem_set, Array.getElem_toList]
    rw [e2]
    have e3 := hget k
    rw [List.getElem?_eq_getElem hk] at e3
    by_cases ek : j = k
    ·subst ek
     simp at e3
     rw [e3]
     simp [hx, hv, hr]
    ·rw [if_neg (Ne.symm ek)] at e3
     obtain ⟨hk3, e4⟩ := List.getElem?_eq_some_iff.1 e3.symm
     have := hrep.get k hk3 (by simp; omega)
     simp only [List.getElem_take, Array.getElem_toList] at this
     rw [if_neg ek, ← e4]
     exact this
   ·rw [rowOk_iff]
    intro y hy
    obtain ⟨k, hk⟩ := List.mem_iff_getElem?.1 hy
    rw [hget] at hk
    split at hk
    ·injection hk with hk; subst hk; exact hrow hr'
    ·exact rowOk_iff.1 (hro hr') y (List.mem_of_getElem? hk)
  ·simp [St.ob_putO, e] at hy
   rcases h.obs u y hy hay with ⟨b2, h1, h2⟩ | h1
   ·refine .inl ⟨b2, h1, h2.keep (setCell_heap _ _ _ _ _ (hob' u b2 (live_of h1 ?_) (Ne.symm e))) (Le.refl _) (fun _ _ x => x)⟩
    rw [hy]
    intro e'
    injection e' with e'
    subst e'
    simp [Ob.alive] at hay
   ·exact .inr h1
 ·intro ℓ sz xs b' off n c hl
  rw [hL]
  rcases ha _ _ _ _ _ _ _ hl with ⟨_, h2, h3⟩ | h2
  ·exact hoa _ _ _ (hown _ _ _ _ _ _ h2 h3).1
  ·exact hoa _ _ _ (h.own _ _ _ _ _ _ _ h2)
 ·rintro ℓ ℓ' b' ⟨sz1, xs1, off1, n1, c1, h1⟩ ⟨sz2, xs2, off2, n2, c2, h2⟩
  rcases ha _ _ _ _ _ _ _ h1 with ⟨e1, e1', e1''⟩ | h3 <;> rcases ha _ _ _ _ _ _ _ h2 with ⟨e2, e2', e2''⟩ | h4
  ·rw [e1, e2]
  ·exact absurd ⟨_, _, _, _, _, h4⟩ ((hown _ _ _ _ _ _ e1' e1'').2 ℓ')
  ·exact absurd ⟨_, _, _, _, _, h3⟩ ((hown _ _ _ _ _ _ e2' e2'').2 ℓ)
  ·exact h.ownInj ℓ ℓ' b' ⟨_, _, _, _, _, h3⟩ ⟨_, _, _, _, _, h4⟩
 ·intro k hk
  rw [St.ob_putO] at hk
  split at hk
  ·rename_i e; exact h.par k (by rw [← e, ho]; simp)
  ·exact h.par k hk
theorem Ext.setCell (h : Rel H μ F st tm w) {o : Oid} {b : Nat} (hb : live st μ o = some b) (j : Nat) (v : Value) : Ext F H w H (w.setCell ⟨b, j, none⟩ v) :=
 ⟨⟨rfl, rfl, rfl⟩, Le.refl _, by rw [setCell_size]; exact Nat.le_refl _, fun b' hF _ => setCell_heap _ _ _ _ _ (fun e => h.objF o b hb (e ▸ hF)), fun _ _ _ _ => rfl⟩

theorem pure1_weak {x : V} (h : x.pure1 = true) : x.weak.pure1 = true := by cases x <;> simp_all [V.pure1, V.weak]
/-- An object's cell gives its row up. -/
theorem Rel.weakO (h : Rel H μ F st tm w) {o : Oid} {row : Bool} {cs : List V} (ho : st.ob o = some (.cells row cs)) {j : Nat} {x : V} (hj : cs[j]? = some x) :
  Rel H μ F (st.putO o (.cells row (cs.set j x.weak))) tm w ∧ ∀ b, Holds μ st tm w (.o o j) b → ∀ ℓ, ¬ Holds μ (st.putO o (.cells row (cs.set j x.weak))) tm w ℓ b := by
 obtain ⟨hjl, hjx⟩ := List.getElem?_eq_some_iff.1 hj
 obtain ⟨b, vs, ty, hb, hlb, hblk, hrep, hro⟩ := h.cellsSome ho (.inr (by intro e; subst e; simp at hjl))
 have hlen := hrep.length
 have hwk : x.isCell = true := by have := (hrep.get j hjl (hlen ▸ hjl)).1; rwa [hjx] at this
 have hwe : x.weak = x.weak1 := by
  clear hjx hj
  cases x <;> first | rfl | simp [V.isCell] at hwk
 have hno : ∀ sz xs, x.weak ≠ .own sz xs := by
  intro sz xs
  cases x <;> simp [V.weak]
 have hL : live (st.putO o (.cells row (cs.set j x.weak))) μ = live st μ := funext fun u => live_set rfl ho rfl
 have ha : ∀ ℓ sz xs b' off n c, atL μ (st.putO o (.cells row (cs.set j x.weak))) tm w ℓ (.own sz xs) (.slice (some ⟨b', off, none⟩) n c) →
   ℓ ≠ .o o j ∧ atL μ st tm w ℓ (.own sz xs) (.slice (some ⟨b', off, none⟩) n c) := by
  intro ℓ sz xs b' off n c
  cases ℓ with
  | t m => exact fun x => ⟨by simp, x⟩
  | o u k =>
   rintro ⟨row2, cs', b2, h1, h2, h3, h4⟩
   by_cases e : o = u
   ·subst e
    simp [St.ob_putO] at h1
    obtain ⟨rfl, rfl⟩ := h1
    by_cases ek : j = k
    ·subst ek
     simp [hjl] at h3
     exact absurd h3 (hno _ _)
    ·simp [ek] at h3
     exact ⟨by simp; exact fun x => ek x.symm, row, cs, b2, ho, h2, h3, h4⟩
   ·simp [St.ob_putO, e] at h1
    exact ⟨by simp; exact fun x => absurd x.symm e, row2, cs', b2, h1, h2, h3, h4⟩
 refine ⟨⟨h.env, h.heap, h.size, ?_, ?_, by rw [hL]; exact h.inj, by rw [hL]; exact h.objH, by rw [hL]; exact h.objF, h.Flt, fun ℓ sz xs b off n c x => by rw [hL]; exact h.own _ _ _ _ _ _ _ (ha _ _ _ _ _ _ _ x).2, ?_, ?_, h.base⟩, ?_⟩
 ·intro u hu
  by_cases e : o = u
  ·subst e; simp [St.ob_putO] at hu
  ·simp [St.ob_putO, e] at hu; exact h.dom u hu
 ·intro u y hy hay
  by_cases e : o = u
  ·subst e
   simp [St.ob_putO] at hy
   subst hy
   refine .inl ⟨b, hb, vs, ty, hblk, ?_, fun hr' => ?_⟩
   ·rw [List.length_set]
    refine RepC.of_get (by rw [List.length_set]; exact hlen) fun k hk hk' => ?_
    rw [List.getElem_set]
    have hg := hrep.get k (by simpa using hk) hk'
    by_cases ek : j = k
    ·subst ek
     simp only [if_pos, hwe]
     rw [hjx] at hg
     exact ⟨isCell_weak1 hg.1, hg.2.1, hg.2.2.weak1⟩
    ·simp only [if_neg ek]
     exact hg
   ·rw [rowOk_iff]
    intro y hy
    rcases List.mem_or_eq_of_mem_set hy with hy | rfl
    ·exact rowOk_iff.1 (hro hr') y hy
    ·exact pure1_weak (rowOk_iff.1 (hro hr') x (List.mem_of_getElem? hj))
  ·simp [St.ob_putO, e] at hy
   exact h.obs u y hy hay
 ·rintro ℓ ℓ' b' ⟨sz1, xs1, off1, n1, c1, h1⟩ ⟨sz2, xs2, off2, n2, c2, h2⟩
  exact h.ownInj ℓ ℓ' b' ⟨_, _, _, _, _, (ha _ _ _ _ _ _ _ h1).2⟩ ⟨_, _, _, _, _, (ha _ _ _ _ _ _ _ h2).2⟩
 ·intro k hk
  rw [St.ob_putO] at hk
  split at hk
  ·rename_i e; exact h.par k (by rw [← e, ho]; simp)
  ·exact h.par k hk
 ·rintro b' hb' ℓ ⟨sz1, xs1, off1, n1, c1, h1⟩
  have := ha _ _ _ _ _ _ _ h1
  exact this.1 (h.ownInj ℓ (.o o j) b' ⟨_, _, _, _, _, this.2⟩ hb')

/-- H and more cells of one block. -/
def Heap.row (H : Heap) (b off : Nat) (vs : List Value) : Heap := ⟨fun b' k => if b' = b ∧ off ≤ k ∧ k < off + vs.length then vs[k - off]? else H b' k, H.size, H.blk⟩
theorem Heap.row_at (H : Heap) (b off : Nat) (vs : List Value) (j : Nat) (hj : j < vs.length) : H.row b off vs b (off + j) = some vs[j] := by
 simp [Heap.row, hj]
theorem Heap.row_ne (H : Heap) (b off : Nat) (vs : List Value) (b' k : Nat) (h : b' ≠ b) : H.row b off vs b' k = H b' k := by simp [Heap.row, h]
theorem Heap.row_le (H : Heap) (b off : Nat) (vs : List Value) (h : ∀ k, off ≤ k → H b k = none) : Le H (H.row b off vs) := by
 refine ⟨fun b' k v hv => ?_, fun _ => Nat.le_refl _⟩
 simp only [Heap.row]
 split
 ·rename_i hc
  obtain ⟨rfl, h1, _⟩ := hc
  rw [h k h1] at hv
  simp at hv
 ·exact hv
/-- H and a block's size. -/
def Heap.put (H : Heap) (b n : Nat) : Heap := ⟨H.cell, fun b' => if b' = b then n else H.size b', H.blk⟩
theorem Heap.put_le (H : Heap) (b n : Nat) (h : H.size b ≤ n) : Le H (H.put b n) := by
 refine ⟨fun _ _ _ h => h, fun b' => ?_⟩
 simp only [Heap.put]
 split
 ·rename_i e; subst e; exact h
 ·exact Nat.le_refl _

/-- Cells that nobody reads are written: of a block that is nobody's row and no object. -/
theorem Rel.fill1 (h : Rel H μ F st tm w) {b k top : Nat} (ho : OwnAt H (live st μ) F w b k top) (hf : ∀ ℓ, ¬ Holds μ st tm w ℓ b) (hk : k < top) (v : Value) (H0 : Heap)
  (h0 : ∀ b' k', ¬ (b' = b ∧ k' = k) → H0 b' k' = H b' k') (h1 : H0 b k = some v) (hs : H0.size = H.size) :
  Rel H0 μ F st tm (w.setCell ⟨b, k, none⟩ v) ∧ OwnAt H0 (live st μ) F (w.setCell ⟨b, k, none⟩ v) b (k + 1) top ∧ (∀ ℓ, ¬ Holds μ st tm (w.setCell ⟨b, k, none⟩ v) ℓ b) ∧ Ext F H w H0 (w.setCell ⟨b, k, none⟩ v) := by
 obtain ⟨⟨vs, ty, hblk, htop⟩, hfree, hnoobj, hnofr⟩ := ho
 have hle : Le H H0 := by
  refine ⟨fun b' k' u hu => ?_, fun _ => by rw [hs]; exact Nat.le_refl _⟩
  rw [h0 b' k' (fun e => by obtain ⟨rfl, rfl⟩ := e; rw [hfree k' (Nat.le_refl _) hk] at hu; simp at hu)]
  exact hu
 have hne : ∀ u b', live st μ u = some b' → b' ≠ b := fun u b' hu e => hnoobj u (e ▸ hu)
 have hat : ∀ ℓ x u, atL μ st tm (w.setCell ⟨b, k, none⟩ v) ℓ x u ↔ atL μ st tm w ℓ x u := by
  intro ℓ x u
  cases ℓ with
  | t m => exact Iff.rfl
  | o o j =>
   constructor
   ·rintro ⟨row, cs, b', h1, h2, h3, h4⟩
    exact ⟨row, cs, b', h1, h2, h3, by rwa [cell?_eq (setCell_heap _ _ _ _ _ (hne o b' (h.cellsLive h1 h2)))] at h4⟩
   ·rintro ⟨row, cs, b', h1, h2, h3, h4⟩
    exact ⟨row, cs, b', h1, h2, h3, by rwa [cell?_eq (setCell_heap _ _ _ _ _ (hne o b' (h.cellsLive h1 h2)))]⟩
 have hho : ∀ ℓ b', Holds μ st tm (w.setCell ⟨b, k, none⟩ v) ℓ b' ↔ Holds μ st tm w ℓ b' := by simp [Holds, hat]
 refine ⟨⟨fun t => (h.env t).mono hle (fun _ _ x => x), ?_, fun b' => by rw [hs, setCell_blk hblk]; exact h.size b', h.dom, ?_, h.inj, ?_, h.objF, ⟨by rw [setCell_size]; exact h.Flt.1, fun b' o' ho' => ⟨(h.Flt.2 b' o' ho').1, by rw [setCell_heap _ _ _ _ _ (fun e => by subst e; exact hnofr (h.Flt.2 _ o' ho').1)]; exact (h.Flt.2 b' o' ho').2⟩⟩, ?_, ?_, h.par, h.base.trans hle⟩, ?_, ?_, ?_⟩
 ·intro b' k' u hu
  by_cases e : b' = b ∧ k' = k
  ·obtain ⟨rfl, rfl⟩ := e
   rw [cell?_set_same hblk _ _ (by omega), ← h1]
   exact hu
  ·rw [h0 b' k' e] at hu
   have := h.heap b' k' u hu
   by_cases eb : b' = b
   ·subst eb
    rw [cell?_set hblk k k' v (fun x => e ⟨rfl, x⟩)]
    exact this
   ·rw [cell?_eq (setCell_heap _ _ _ _ _ eb)]
    exact this
 ·intro u x hx hax
  rcases h.obs u x hx hax with ⟨b', h2, h3⟩ | h2
  ·refine .inl ⟨b', h2, h3.keep (setCell_heap _ _ _ _ _ (hne u b' (live_of h2 ?_))) hle (fun _ _ x => x)⟩
   rw [hx]
   intro e'
   injection e' with e'
   subst e'
   simp [Ob.alive] at hax
  ·exact .inr h2
 ·intro u b' hb' k'
  rw [h0 b' k' (fun e => hne u b' hb' e.1)]
  exact h.objH u b' hb' k'
 ·intro ℓ sz xs b' off n c hl
  have hl' := (hat _ _ _).1 hl
  have hne' : b' ≠ b := fun e => hf ℓ ⟨sz, xs, off, n, c, e ▸ hl'⟩
  obtain ⟨⟨vs', ty', h2, h3⟩, h4, h5, h6⟩ := h.own _ _ _ _ _ _ _ hl'
  exact ⟨⟨vs', ty', by rw [setCell_heap _ _ _ _ _ hne']; exact h2, h3⟩, fun k' hk' => by rw [h0 b' k' (fun e => hne' e.1)]; exact h4 k' hk', h5, h6⟩
 ·intro ℓ ℓ' b' x y
  exact h.ownInj ℓ ℓ' b' ((hho _ _).1 x) ((hho _ _).1 y)
 ·exact ⟨⟨_, ty, setCell_heap_same hblk k v, by simpa using htop⟩, fun k' hk' hk2 => by rw [h0 b k' (by omega)]; exact hfree k' (by omega) hk2, hnoobj, hnofr⟩
 ·exact fun ℓ x => hf ℓ ((hho _ _).1 x)
 ·refine ⟨⟨rfl, rfl, rfl⟩, hle, by rw [setCell_size]; exact Nat.le_refl _, fun b' hF _ => setCell_heap _ _ _ _ _ (fun e => hnofr (e ▸ hF)), fun b' hF _ k' => h0 b' k' (fun e => hnofr (e.1 ▸ hF))⟩

/-- A map's entries change. -/
theorem Rel.setMap (h : Rel H μ F st tm w) {o : Oid} {b : Nat} (hb : μ o = some b) {base base' : Nat} {l l' : List (V × V)} (ho : st.ob o = some (.map base l)) {es : Array MapEntry}
  (hh : w'.heap = w.heap.setIfInBounds b (.map es (base' + l'.length))) (hio : Io w w') (hm : RepM H base' l' es.toList) : Rel H μ F (st.putO o (.map base' l')) tm w' ∧ Ext F H w H w' := by
 have hlb : live st μ o = some b := live_of hb (by rw [ho]; simp)
 obtain ⟨y, hy, hay, hob, hlt⟩ := h.obLt hlb
 rw [ho] at hy
 injection hy with hy
 subst hy
 obtain ⟨es0, hblk, _⟩ := hob
 have hne : ∀ b', b' ≠ b → w'.heap[b']? = w.heap[b']? := by
  intro b' hb'
  rw [hh, Array.getElem?_setIfInBounds]
  simp [Ne.symm hb']
 have hsame : w'.heap[b]? = some (.map es (base' + l'.length)) := by rw [hh, Array.getElem?_setIfInBounds]; simp [hlt]
 have hcell : ∀ b' k, w'.cell? ⟨b', k, none⟩ = w.cell? ⟨b', k, none⟩ := by
  intro b' k
  by_cases e : b' = b
  ·subst e; simp [World.cell?, hsame, hblk]
  ·exact cell?_eq (hne b' e) k
 have hL : live (st.putO o (.map base' l')) μ = live st μ := funext fun u => live_set rfl ho rfl
 have ha : ∀ ℓ x v, atL μ (st.putO o (.map base' l')) tm w' ℓ x v → atL μ st tm w ℓ x v := by
  intro ℓ x v hl
  cases ℓ with
  | t m => exact hl
  | o u k =>
   obtain ⟨row, cs, b2, h1, h2, h3, h4⟩ := hl
   rw [St.ob_putO] at h1
   split at h1
   ·simp at h1
   ·rw [hcell] at h4
    exact ⟨row, cs, b2, h1, h2, h3, h4⟩
 have hob' : ∀ u b', live st μ u = some b' → u ≠ o → b' ≠ b := fun u b' hu hne he => hne (h.inj u o b (he ▸ hu) hlb)
 refine ⟨⟨h.env, fun b' k v hv => by rw [hcell]; exact h.heap b' k v hv, fun b' => ?_, ?_, ?_, by rw [hL]; exact h.inj, by rw [hL]; exact h.objH, by rw [hL]; exact h.objF, ⟨by rw [hh]; simpa using h.Flt.1, fun b' o' ho' => ⟨(h.Flt.2 b' o' ho').1, by rw [hne b' (fun e => by subst e; exact h.objF o _ hlb (h.Flt.2 _ o' ho').1)]; exact (h.Flt.2 b' o' ho').2⟩⟩, ?_, ?_, ?_, h.base⟩, ?_⟩
 ·by_cases e : b' = b
  ·subst e
   have := h.size b'
   simp [blkSize, hblk] at this
   omega
  ·rw [blkSize_eq (hne b' e)]; exact h.size b'
 ·intro u hu
  rw [St.ob_putO] at hu
  split at hu
  ·simp at hu
  ·exact h.dom u hu
 ·intro u x hx hax
  rw [St.ob_putO] at hx
  split at hx
  ·rename_i e
   subst e
   injection hx with hx
   subst hx
   exact .inl ⟨b, hb, es, hsame, hm⟩
  ·rename_i e
   rcases h.obs u x hx hax with ⟨b', h2, h3⟩ | h2
   ·refine .inl ⟨b', h2, h3.keep (hne _ (hob' u b' (live_of h2 ?_) (Ne.symm e))) (Le.refl _) (fun _ _ x => x)⟩
    rw [hx]
    intro e'
    injection e' with e'
    subst e'
    simp [Ob.alive] at hax
   ·exact .inr h2
 ·intro ℓ sz xs b' off n c hl
  rw [hL]
  obtain ⟨⟨vs', ty', h2, h3⟩, h4, h5, h6⟩ := h.own _ _ _ _ _ _ _ (ha _ _ _ hl)
  exact ⟨⟨vs', ty', by rw [hne b' (fun e => h5 o (e ▸ hlb))]; exact h2, h3⟩, h4, h5, h6⟩
 ·rintro ℓ ℓ' b' ⟨sz1, xs1, off1, n1, c1, h1⟩ ⟨sz2, xs2, off2, n2, c2, h2⟩
  exact h.ownInj ℓ ℓ' b' ⟨_, _, _, _, _, ha _ _ _ h1⟩ ⟨_, _, _, _, _, ha _ _ _ h2⟩
 ·intro k hk
  rw [St.ob_putO] at hk
  split at hk
  ·rename_i e; exact h.par k (by rw [← e, ho]; simp)
  ·exact h.par k hk
 ·exact ⟨hio, Le.refl _, by rw [hh]; simp, fun b' hF _ => hne b' (fun e => h.objF o b hlb (e ▸ hF)), fun _ _ _ _ => rfl⟩
end
end Go.Ax
