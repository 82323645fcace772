/- A part of the proof of a law of this seat: no condition. -/
import GoSem.Step
import Derived.Tactics2
namespace Go.Ax

inductive Oid where
  | loc (t : Nat)
  | par (j : Nat)
  deriving DecidableEq

inductive V where
  | any
  | nils
  | int (k : IntKind) (n : Int)
  | bool (b : Bool)
  | str (s : List UInt8)
  | nilp
  | nilfn
  | fn (f : FuncId)
  | agg (cs : List V)
  | slice (sz : Nat) (xs : List V)
  | own (sz : Nat) (xs : List V)
  | ref (o : Oid) (off : Nat)
  | eptr (cs : List V) (off : Nat)
  | clo (f : FuncId) (first caps : List V)
  | tup (vs : List V)
  deriving Inhabited

def V.cells : V → List V
  | .agg cs => cs
  | v => [v]
def V.weak1 : V → V
  | .own sz xs => .slice sz xs
  | v => v
def V.weak : V → V
  | .own sz xs => .slice sz xs
  | .agg cs => .agg (cs.map V.weak1)
  | v => v
def V.isTup : V → Bool
  | .tup _ => true
  | _ => false
/-- May it stand in an object? -/
def V.storable : V → Bool
  | .any | .tup _ | .clo .. => false
  | _ => true
def V.pure1 : V → Bool
  | .any | .nils | .ref .. | .eptr .. | .clo .. | .tup _ | .agg _ => false
  | _ => true
/-- Data: nothing that leads to an object. -/
def V.pure : V → Bool
  | .agg cs => cs.all V.pure1
  | v => v.pure1
/-- The cells of what is stored. -/
def V.scells : V → List V
  | .agg cs => cs.map V.weak1
  | v => [v]
def V.isOwn : V → Bool
  | .own .. => true
  | _ => false

/-- What is told of a type. -/
structure TI where
  size : Nat
  bytes : Nat
  isAgg : Bool
  zero : List V
  esz : Option (Nat × Nat)
  flds : List (Nat × Nat)
  isStr : Bool
  eqk : List Nat
  deriving Inhabited

/-- The nil slice, typed. -/
def fixT (ti : Option TI) (v : V) : V :=
  match v with
  | .nils => match ti.bind (·.esz) with
    | some (n, _) => .own n []
    | none => .nils
  | v => v

def ofConst : Value → V
  | .int k n => .int k n
  | .bool b => .bool b
  | .string s => .str s.data.toList
  | .pointer none => .nilp
  | .slice none 0 0 => .nils
  | .nilFunc => .nilfn
  | _ => .any

/-- An object: a block of cells. -/
inductive Ob where
  | cells (l : List V)

structure St where
  env : List (Nat × V)
  obs : List (Oid × Ob)

def look (t : Nat) : List (Nat × V) → V
  | [] => .any
  | (u, v) :: r => if u = t then v else look t r
def lookO (o : Oid) : List (Oid × Ob) → Option Ob
  | [] => none
  | (u, v) :: r => if u = o then some v else lookO o r
def St.tm (st : St) (t : Nat) : V := look t st.env
def St.ob (st : St) (o : Oid) : Option Ob := lookO o st.obs
def St.put (st : St) (t : Nat) (v : V) : St := { st with env := (t, v) :: st.env }
def St.putO (st : St) (o : Oid) (x : Ob) : St := { st with obs := (o, x) :: st.obs }

inductive Rd (α : Type) where
  | ret (a : α)
  | fail
  | tm (t : Nat) (k : V → Rd α)
  | ob (o : Oid) (k : Option Ob → Rd α)
def Rd.bind {α β : Type} : Rd α → (α → Rd β) → Rd β
  | .ret a, f => f a
  | .fail, _ => .fail
  | .tm t k, f => .tm t fun v => (k v).bind f
  | .ob o k, f => .ob o fun v => (k v).bind f
instance : Monad Rd where
  pure := Rd.ret
  bind := Rd.bind
def Rd.run {α : Type} (st : St) : Rd α → Option α
  | .ret a => some a
  | .fail => none
  | .tm t k => (k (st.tm t)).run st
  | .ob o k => (k (st.ob o)).run st

inductive Wr where
  | t (t : Nat) (v : V)
  | o (o : Oid) (x : Ob)
def St.app (st : St) : List Wr → St
  | [] => st
  | .t t v :: r => (st.put t v).app r
  | .o o x :: r => (st.putO o x).app r

inductive Res where
  | ws (l : List Wr)
  | call (f : FuncId) (args : List V) (ids : List Oid) (objs : List Ob) (dst : Option Nat)

/-- What an operation without a call writes. -/
inductive Ws where
  | ws (l : List Wr)

def ev : Operand → Rd V
  | .tmp t => .tm t .ret
  | .const v => .ret (ofConst v)
  | .func f => .ret (.fn f)
  | .global _ => .fail
def evs : List Operand → Rd (List V)
  | [] => .ret []
  | x :: r => do let v ← ev x; let vs ← evs r; pure (v :: vs)
def evOpt : Option Operand → Rd (Option V)
  | none => .ret none
  | some x => do let v ← ev x; pure (some v)

def giveUp (src : Operand) (v : V) : List Wr :=
  match src with
  | .tmp t => if v.isOwn then [.t t v.weak] else []
  | _ => []
def out (dst : Option Nat) (v : V) : List Wr :=
  match dst with
  | some d => [.t d v]
  | none => []
def rOpt {α : Type} : Option α → Rd α
  | some a => .ret a
  | none => .fail

/-- Elements of a slice. -/
def V.elems : V → Option (Nat × List V)
  | .slice sz xs => some (sz, xs)
  | .own sz xs => some (sz, xs)
  | _ => none
def idx (xs : List V) (i : Int) : Option V := if 0 ≤ i then xs[i.toNat]? else none
def idxB (s : List UInt8) (i : Int) : Option UInt8 := if 0 ≤ i then s[i.toNat]? else none
/-- A value out of cells. -/
def getS (ti : TI) (cs : List V) (off : Nat) : Option V :=
  if ti.isAgg then (if off + ti.size ≤ cs.length then some (.agg ((cs.drop off).take ti.size)) else none) else cs[off]?
def setAll : List V → Nat → List V → List V
  | cs, _, [] => cs
  | cs, off, v :: vs => setAll (cs.set off v) (off + 1) vs

def eq1 : Nat → V → V → Option Bool
  | 2, .int k a, .int k' b => if k = k' then some (a == b) else none
  | 4, .str a, .str b => some (a == b)
  | 1, .bool a, .bool b => some (a == b)
  | _, _, _ => none
def eqCells : List Nat → List V → List V → Option Bool
  | [], [], [] => some true
  | k :: ks, x :: xs, y :: ys => match eq1 k x y, eqCells ks xs ys with
    | some a, some b => some (a && b)
    | _, _ => none
  | _, _, _ => none
def eqAgg (kd : List Nat) (a b : List V) : Option Bool :=
  match kd with
  | 10 :: ks => eqCells ks a b
  | _ => none
def binS (kd : List Nat) (op : BinOp) (x y : V) : Option V :=
  match op, x, y with
  | .add, .int k a, .int k' b => if k = k' then some (.int k (k.wrap (a + b))) else none
  | .sub, .int k a, .int k' b => if k = k' then some (.int k (k.wrap (a - b))) else none
  | .mul, .int k a, .int k' b => if k = k' then some (.int k (k.wrap (a * b))) else none
  | .quo, .int k a, .int k' b => if k = k' ∧ b ≠ 0 then some (.int k (k.wrap (a.tdiv b))) else none
  | .rem, .int k a, .int k' b => if k = k' ∧ b ≠ 0 then some (.int k (a.tmod b)) else none
  | .eql, .int k a, .int k' b => if k = k' then some (.bool (a == b)) else none
  | .neq, .int k a, .int k' b => if k = k' then some (.bool (a != b)) else none
  | .lss, .int k a, .int k' b => if k = k' then some (.bool (decide (a < b))) else none
  | .leq, .int k a, .int k' b => if k = k' then some (.bool (decide (a ≤ b))) else none
  | .gtr, .int k a, .int k' b => if k = k' then some (.bool (decide (a > b))) else none
  | .geq, .int k a, .int k' b => if k = k' then some (.bool (decide (a ≥ b))) else none
  | .add, .str a, .str b => if a.length + b.length ≤ 1000000000000000000 then some (.str (a ++ b)) else none
  | .eql, .str a, .str b => some (.bool (a == b))
  | .neq, .str a, .str b => some (.bool (!(a == b)))
  | .lss, .str a, .str b => some (.bool (Op.bytesLess a b))
  | .leq, .str a, .str b => some (.bool (Op.bytesLess a b || a == b))
  | .gtr, .str a, .str b => some (.bool (!(Op.bytesLess a b || a == b)))
  | .geq, .str a, .str b => some (.bool (!(Op.bytesLess a b)))
  | .eql, .bool a, .bool b => if kd = [1] then some (.bool (a == b)) else none
  | .neq, .bool a, .bool b => if kd = [1] then some (.bool (!(a == b))) else none
  | .eql, .agg a, .agg b => (eqAgg kd a b).map .bool
  | .neq, .agg a, .agg b => (eqAgg kd a b).map (fun r => .bool (!r))
  | .eql, .nilp, .nilp => if kd = [3] then some (.bool true) else none
  | .neq, .nilp, .nilp => if kd = [3] then some (.bool false) else none
  | .eql, .ref _ _, .nilp => if kd = [3] then some (.bool false) else none
  | .neq, .ref _ _, .nilp => if kd = [3] then some (.bool true) else none
  | _, _, _ => none
def unS (op : UnOp) (x : V) : Option V :=
  match op, x with
  | .not, .bool b => some (.bool (!b))
  | .neg, .int k n => some (.int k (k.wrap (0 - n)))
  | _, _ => none
def bndS (d : Nat) : Option V → Option Int
  | none => some d
  | some (.int .i64 n) => some n
  | _ => none
def sliceS (ti : TI) (x : V) (lo hi : Option V) : Option V :=
  match x with
  | .str s => match bndS 0 lo, bndS s.length hi with
    | some l, some h => if 0 ≤ l ∧ l ≤ h ∧ h ≤ s.length ∧ ti.isStr = true then some (.str ((s.take h.toNat).drop l.toNat)) else none
    | _, _ => none
  | x => match x.elems with
    | some (sz, xs) => match bndS 0 lo, bndS xs.length hi with
      | some l, some h => if 0 ≤ l ∧ l ≤ h ∧ h ≤ xs.length ∧ ti.esz.map (·.1) = some sz then some (.slice sz ((xs.take h.toNat).drop l.toNat)) else none
      | _, _ => none
    | none => none

/-- The objects that values lead to. -/
def refs1 : V → List Oid
  | .ref o _ => [o]
  | _ => []
def refsV : V → List Oid
  | .ref o _ => [o]
  | .agg cs => cs.flatMap refs1
  | .clo _ a b => a.flatMap refs1 ++ b.flatMap refs1
  | .tup _ => []
  | _ => []
def place (o : Oid) : List Oid → Option Nat
  | [] => none
  | u :: r => if u = o then some 0 else (place o r).map (· + 1)
def ren1 (f : Oid → Option Oid) : V → V
  | .ref o off => match f o with | some u => .ref u off | none => .any
  | v => v
def ren2 (f : Oid → Option Oid) : V → V
  | .ref o off => match f o with | some u => .ref u off | none => .any
  | .agg cs => .agg (cs.map (ren1 f))
  | .clo g a b => .clo g (a.map (ren1 f)) (b.map (ren1 f))
  | v => v
def renV (f : Oid → Option Oid) : V → V
  | .tup vs => .tup (vs.map (ren2 f))
  | v => ren2 f v
def toPar (ids : List Oid) (o : Oid) : Option Oid := (place o ids).map .par
def ofPar (ids : List Oid) : Oid → Option Oid
  | .par j => ids[j]?
  | .loc _ => none
def dedup : List Oid → List Oid → List Oid
  | acc, [] => acc
  | acc, o :: r => if (place o acc).isSome then dedup acc r else dedup (acc ++ [o]) r
def getObs : List Oid → Rd (List Ob)
  | [] => .ret []
  | o :: r => .ob o fun c => do let c ← rOpt c; let l ← getObs r; pure (c :: l)
def Ob.refs : Ob → List Oid
  | .cells l => l.flatMap refs1
def Ob.ren (f : Oid → Option Oid) : Ob → Ob
  | .cells l => .cells (l.map (ren1 f))

def callS (f : FuncId) (args : List V) (dst : Option Nat) : Rd Res := do
  let ids1 := dedup [] (args.flatMap refsV)
  let objs1 ← getObs ids1
  let ids := dedup ids1 (objs1.flatMap Ob.refs)
  let objs ← getObs ids
  pure (.call f (args.map (fun v => renV (toPar ids) v.weak)) ids (objs.map (Ob.ren (toPar ids))) dst)

/-- A struct's cells, some parts given; a part that is the nil slice leaves the zero cell. -/
def buildS (flds : List (Nat × Nat)) : List V → List (Nat × V) → Option (List V)
  | cs, [] => some cs
  | cs, (i, v) :: r => match flds[i]? with
    | some (off, sz) => match v with
      | .nils => match cs[off]? with
        | some (.own _ []) => if sz = 1 then buildS flds cs r else none
        | _ => none
      | v => if v.weak.scells.length = sz ∧ off + sz ≤ cs.length ∧ v.storable = true then buildS flds (setAll cs off v.weak.scells) r else none
    | none => none

def opS (T : Nat → Option TI) (steal : Nat → Bool) (o : Oper) : Rd Ws :=
  match o.op with
  | .move x => do
    let v ← ev x
    let v := fixT (T o.type) v
    if (o.dst.map steal).getD false then pure (.ws (giveUp x v ++ out o.dst v)) else pure (.ws (out o.dst v.weak))
  | .assign x => do
    let v ← ev x
    let v := fixT (T o.type) v
    pure (.ws (giveUp x v ++ out o.dst v))
  | .pick c a b => do
    let .bool c ← ev c | .fail
    let a ← ev a
    let b ← ev b
    pure (.ws (out o.dst (if c then a.weak else b.weak)))
  | .alloc e => match o.dst with
    | some d => do
      let ti ← rOpt (T e)
      .ob (.loc d) fun
      | none => .ret (.ws [.o (.loc d) (.cells ti.zero), .t d (.ref (.loc d) 0)])
      | some _ => .fail
    | none => .fail
  | .box e x => match o.dst with
    | some d => do
      let ti ← rOpt (T e)
      let v ← ev x
      .ob (.loc d) fun
      | none => if v.weak.scells.length = ti.size ∧ v.storable = true then .ret (.ws [.o (.loc d) (.cells v.weak.scells), .t d (.ref (.loc d) 0)]) else .fail
      | some _ => .fail
    | none => .fail
  | .build t parts => do
    let ti ← rOpt (T t)
    let vs ← evs (parts.toList.map (·.2))
    let cs ← rOpt (buildS ti.flds ti.zero ((parts.toList.map (·.1)).zip vs))
    if ti.flds.isEmpty then .fail else pure (.ws (out o.dst (.agg (cs.map V.weak1))))
  | .buildSlice t len parts => do
    let ti ← rOpt (T t)
    let vs ← evs (parts.toList.map (·.2))
    let (sz, _) ← rOpt ti.esz
    if parts.toList.map (·.1) = List.range len ∧ len * sz ≤ 16777216 ∧ vs.all (fun v => v.cells.length == sz && v.pure) = true then
      pure (.ws (out o.dst (.own sz (vs.map V.weak))))
    else .fail
  | .load t a => do
    let ti ← rOpt (T t)
    let a ← ev a
    match a with
    | .eptr cs off => do
      let v ← rOpt (getS ti cs off)
      pure (.ws (out o.dst v.weak))
    | .ref u off => do
      .ob u fun
      | some (.cells cs) => do
        let v ← rOpt (getS ti cs off)
        if (o.dst.map steal).getD false && v.isOwn then pure (.ws (.o u (.cells (cs.set off v.weak)) :: out o.dst v)) else pure (.ws (out o.dst v.weak))
      | none => .fail
    | _ => .fail
  | .store t a x => do
    let ti ← rOpt (T t)
    let a ← ev a
    let v ← ev x
    let v := fixT (some ti) v
    match a with
    | .ref u off =>
      .ob u fun
      | some (.cells cs) =>
        if v.scells.length = ti.size ∧ off + v.scells.length ≤ cs.length ∧ o.dst.isNone = true ∧ v.storable = true then
          .ret (.ws (giveUp x v ++ [.o u (.cells (setAll cs off v.scells))]))
        else .fail
      | none => .fail
    | _ => .fail
  | .nilCheck x => do
    let v ← ev x
    match v with
    | .ref u off => pure (.ws (out o.dst (.ref u off)))
    | .eptr cs off => pure (.ws (out o.dst (.eptr cs off)))
    | _ => .fail
  | .binOp op t x y _ => do
    let ti ← rOpt (T t)
    let a ← ev x
    let b ← ev y
    let v ← rOpt (binS ti.eqk op a b)
    pure (.ws (out o.dst v))
  | .unOp op _ x => do
    let a ← ev x
    let v ← rOpt (unS op a)
    pure (.ws (out o.dst v))
  | .slice t x lo hi none => do
    let a ← ev x
    let l ← evOpt lo
    let h ← evOpt hi
    let ti ← rOpt (T t)
    let v ← rOpt (sliceS ti a l h)
    pure (.ws (out o.dst v))
  | .fieldAddr s x f => do
    let ti ← rOpt (T s)
    let a ← ev x
    let (off, _) ← rOpt ti.flds[f]?
    match a with
    | .ref u o' => pure (.ws (out o.dst (.ref u (o' + off))))
    | .eptr cs o' => pure (.ws (out o.dst (.eptr cs (o' + off))))
    | _ => .fail
  | .indexAddr t x i => do
    let ti ← rOpt (T t)
    let a ← ev x
    let i ← ev i
    match a.elems, i with
    | some (sz, xs), .int _ i => do
      let x ← rOpt (idx xs i)
      if ti.esz.map (·.1) = some sz then pure (.ws (out o.dst (.eptr x.cells 0))) else .fail
    | _, _ => .fail
  | .index t x i => do
    let ti ← rOpt (T t)
    let a ← ev x
    let i ← ev i
    match a, i with
    | .str s, .int _ i => do
      let b ← rOpt (idxB s i)
      if ti.isStr then pure (.ws (out o.dst (.int .u8 b.toNat))) else .fail
    | _, _ => .fail
  | .extract x i => do
    let a ← ev x
    match a with
    | .tup vs => do
      let v ← rOpt vs[i]?
      pure (.ws (out o.dst v.weak))
    | _ => .fail
  | .call { callee := .builtin .len, args, argTypes } => do
    let vs ← evs args.toList
    let t ← rOpt argTypes[0]?
    let ti ← rOpt (T t)
    match vs with
    | [.str s] => if ti.isStr then pure (.ws (out o.dst (.int .i64 s.length))) else .fail
    | [v] => do
      let (_, xs) ← rOpt v.elems
      if ti.esz.isSome then pure (.ws (out o.dst (.int .i64 xs.length))) else .fail
    | _ => .fail
  | .call { callee := .builtin .append, args, argTypes } => do
    let vs ← evs args.toList
    let t ← rOpt argTypes[0]?
    let ti ← rOpt (T t)
    let (sz, bytes) ← rOpt ti.esz
    match vs.map (fixT (some ti)) with
    | [.own s xs, y] => do
      let (s', ys) ← rOpt y.elems
      if s = sz ∧ s' = sz ∧ (xs.length + ys.length) * bytes ≤ 140737488355328 ∧ argTypes.toList = [t, t] then
        pure (.ws (giveUp (args.getD 0 (.global 0)) (.own s xs) ++ out o.dst (.own sz (xs ++ ys))))
      else .fail
    | _ => .fail
  | _ => .fail

/-- Every operation. -/
def opF (T : Nat → Option TI) (steal : Nat → Bool) (o : Oper) : Rd Res :=
  match o.op with
  | .call { callee := .value f, args, argTypes } => do
    let fv ← ev f
    let vs ← evs args.toList
    let vs := vs.zipWith (fun v t => fixT (T t) v) argTypes.toList
    if vs.length = args.size then
      match fv with
      | .fn f => callS f vs o.dst
      | .clo f first caps => callS f (first ++ vs ++ caps) o.dst
      | _ => .fail
    else .fail
  | _ => do
    let .ws l ← opS T steal o
    pure (.ws l)

/-- What a call's contract says: proved apart. -/
abbrev Orc := FuncId → List V → List Ob → V → List Ob → Prop

def back (ids : List Oid) (dst : Option Nat) (r : V) (objs : List Ob) : List Wr :=
  (ids.zip objs).map (fun x => Wr.o x.1 (x.2.ren (ofPar ids))) ++ out dst (renV (ofPar ids) r)

def wanted (ops : List Oper) (o : Oper) : Rd (Option Bool) :=
  match o.guard with
  | none => .ret (some true)
  | some (j, b) => match (ops[j]?).bind (·.dst) with
    | some t => .tm t fun
      | .bool x => .ret (some (x == b))
      | .tup [] => .ret (some false)
      | _ => .ret none
    | none => .ret none

/-- Operations one behind the other. -/
def runOps (C : Orc) (T : Nat → Option TI) (steal : Nat → Bool) (ops : List Oper) : List Oper → St → (St → Prop) → Prop
  | [], st, Q => Q st
  | o :: rest, st, Q =>
    match (wanted ops o).run st with
    | some (some true) => match (opF T steal o).run st with
      | some (.ws l) => runOps C T steal ops rest (st.app l) Q
      | some (.call f args ids objs dst) => ∃ r objs', C f args objs r objs' ∧ runOps C T steal ops rest (st.app (back ids dst r objs')) Q
      | none => False
    | some (some false) => runOps C T steal ops rest (st.app (out o.dst (.tup []))) Q
    | _ => False

/-! #### regions that draw their order: what each operation looks at and writes -/
inductive Wh where
  | t (t : Nat)
  | o (o : Oid)
  deriving DecidableEq
def Rd.reads {α : Type} (st : St) : Rd α → List Wh
  | .ret _ => []
  | .fail => []
  | .tm t k => .t t :: (k (st.tm t)).reads st
  | .ob o k => .o o :: (k (st.ob o)).reads st
def Wr.wh : Wr → Wh
  | .t u _ => .t u
  | .o u _ => .o u


structure Foot where
  rd : List Wh
  wr : List Wh
def meets (a b : List Wh) : Bool := a.any fun x => b.any fun y => decide (x = y)
def Foot.clash (a b : Foot) : Bool := meets a.wr b.rd || meets a.wr b.wr || meets b.wr a.rd
/-- For each operation all that must have been done before it. -/
def closGo : List Oper → List (List Nat) → List (List Nat)
  | [], acc => acc
  | o :: r, acc => closGo r (acc ++ [(o.after.toList.filter (fun e => Region.binds .any e)).flatMap fun e => e.on :: acc.getD e.on []])
def clos (ops : List Oper) : List (List Nat) := closGo ops []
def binding (o : Oper) : List Nat := (o.after.toList.filter (fun e => Region.binds .any e)).map (·.on)
/-- Whatever clashes is in order. -/
def orderOk (ops : List Oper) (fs : List Foot) : Bool :=
  let cl := clos ops
  fs.length == ops.length && (ops.zipIdx).all fun x =>
    (binding x.1).all (fun e => decide (e < x.2)) &&
    (cl.getD x.2 []).all (fun c => (binding x.1).any fun e => c == e || (cl.getD e []).contains c) &&
    (List.range x.2).all fun c => !((fs.getD c ⟨[], []⟩).clash (fs.getD x.2 ⟨[], []⟩)) || (cl.getD x.2 []).contains c
def runD (C : Orc) (T : Nat → Option TI) (steal : Nat → Bool) (ops : List Oper) : List Oper → St → List Foot → (List Foot → St → Prop) → Prop
  | [], st, fs, Q => Q fs st
  | o :: rest, st, fs, Q =>
    match (wanted ops o).run st with
    | some (some true) => match (opF T steal o).run st with
      | some (.ws l) => runD C T steal ops rest (st.app l) (fs ++ [⟨(wanted ops o).reads st ++ (opF T steal o).reads st, l.map Wr.wh⟩]) Q
      | some (.call f args ids objs dst) => ∃ r objs', C f args objs r objs' ∧ runD C T steal ops rest (st.app (back ids dst r objs'))
          (fs ++ [⟨(wanted ops o).reads st ++ (opF T steal o).reads st, (back ids dst r objs').map Wr.wh⟩]) Q
      | none => False
    | some (some false) => runD C T steal ops rest (st.app (out o.dst (.tup []))) (fs ++ [⟨(wanted ops o).reads st, (out o.dst (.tup [])).map Wr.wh⟩]) Q
    | _ => False

inductive X where
  | normal | ret | exit (id : Nat)

structure Hint where
  live : List Nat
  liveO : List Oid

def keep (l : List Oid) (o : Oid) : Option Oid := if (place o l).isSome then some o else none
def restrict (h : Hint) (st : St) : St :=
  { env := h.live.map fun t => (t, renV (keep h.liveO) (st.tm t)), obs := h.liveO.filterMap fun o => (st.ob o).map fun x => (o, x.ren (keep h.liveO)) }

def stealOf (ops : List Oper) (resT : List Nat) (t : Nat) : Bool :=
  ops.any fun o => match o.op with
    | .call { callee := .builtin .append, args, .. } => match args.getD 0 (.global 0) with | .tmp u => u == t | _ => false
    | .assign (.tmp u) => u == t && (o.dst.any fun d => resT.contains d)
    | _ => false

structure Ctx where
  C : Orc
  T : Nat → Option TI
  hint : Nat → Hint
  resT : List Nat

/-- At most so many rounds. -/
def iter (body : St → (X → St → Prop) → Prop) (Q : X → St → Prop) : Nat → St → Prop
  | 0, _ => False
  | n + 1, st => body st fun
    | .normal, st => iter body Q n st
    | e, st => Q e st

/-- The first region in a part of the code. -/
def firstReg : Code → Option Nat
  | .region id _ _ => some id
  | .seq a b => match firstReg a with | some i => some i | none => firstReg b
  | .cond _ a b => match firstReg a with | some i => some i | none => firstReg b
  | .block _ a => firstReg a
  | .loop a => firstReg a
  | _ => none
def awp (c : Ctx) : Code → St → (X → St → Prop) → Prop
  | .skip, st, Q => Q .normal st
  | .ret, st, Q => Q .ret st
  | .exit id, st, Q => Q (.exit id) st
  | .seq a b, st, Q => awp c a st fun
    | .normal, st => awp c b st Q
    | e, st => Q e st
  | .cond x a b, st, Q => match (ev x).run st with
    | some (.bool t) => if t then awp c a st Q else awp c b st Q
    | _ => False
  | .block id a, st, Q => awp c a st fun
    | .exit i, st => if i = id then Q .normal st else Q (.exit i) st
    | e, st => Q e st
  | .loop a, st, Q => ∃ n, iter (fun st Q => awp c a (restrict (c.hint (2 * (firstReg a).getD 0 + 1)) st) Q) Q n st
  | .region id ops false, st, Q => runOps c.C c.T (stealOf ops.toList c.resT) ops.toList ops.toList st fun st => Q .normal (restrict (c.hint (2 * id)) st)
  | .region id ops true, st, Q => runD c.C c.T (stealOf ops.toList c.resT) ops.toList ops.toList st [] fun fs st => orderOk ops.toList fs = true ∧ Q .normal (restrict (c.hint (2 * id)) st)
  | _, _, _ => False

/-! #### a function -/
def argsFrom : Nat → List V → List (Nat × V)
  | _, [] => []
  | k, x :: r => (k, x) :: argsFrom (k + 1) r
def parObsFrom : Nat → List Ob → List (Oid × Ob)
  | _, [] => []
  | k, x :: r => (.par k, x) :: parObsFrom (k + 1) r
def parObs (objs : List Ob) : List (Oid × Ob) := parObsFrom 0 objs
def initSt (args : List V) (objs : List Ob) : St := { env := argsFrom 0 args, obs := parObs objs }
def resV (T : Nat → Option TI) (st : St) : ResultVar → Option V
  | .tmp t => some (st.tm t)
  | .cell t ty => match st.tm t, T ty with
    | .ref u off, some ti => match st.ob u with
      | some (.cells cs) => (getS ti cs off).map V.weak
      | none => none
    | _, _ => none
def resL (T : Nat → Option TI) (st : St) : List ResultVar → Option (List V)
  | [] => some []
  | x :: r => match resV T st x, resL T st r with
    | some v, some l => if v.isTup then none else some (v.weak :: l)
    | _, _ => none
/-- What a function answers. -/
def resS (T : Nat → Option TI) (st : St) : List ResultVar → Option V
  | [x] => resV T st x
  | l => (resL T st l).map .tup
def parOnly : Oid → Option Oid
  | .par j => some (.par j)
  | .loc _ => none
/-- Its arguments' objects then. -/
def parsOf (st : St) : Nat → Nat → Option (List Ob)
  | _, 0 => some []
  | k, n + 1 => match st.ob (.par k), parsOf st (k + 1) n with
    | some x, some l => some (x.ren parOnly :: l)
    | _, _ => none

end Go.Ax
