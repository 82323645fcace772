/- A part of the proof of a law of this seat: no condition. -/
import GoSem.Step
import Derived.Tactics2
set_option linter.unusedVariables false
set_option linter.unusedSimpArgs false
namespace Go.Ax

/-- An object's name: made by an operation; handed in; a row once more, grown; what a call brought. -/
inductive Oid where
  | loc (t : Nat)
  | par (j : Nat)
  | alt (o : Oid)
  | sub (t j : Nat)
  | hole (i : Nat)
  deriving DecidableEq
def Oid.root : Oid → Oid
  | .alt o => o.root
  | o => o

inductive V where
  | any
  | nils
  | int (k : IntKind) (n : Int)
  | bool (b : Bool)
  | str (s : List UInt8)
  | nilp
  | nilfn
  | fn (f : FuncId)
  | agg (cs : List V)
  | slice (sz : Nat) (xs : List V)
  | own (sz : Nat) (xs : List V)
  | ref (o : Oid) (off : Nat)
  | eptr (cs : List V) (off : Nat)
  | clo (f : FuncId) (first caps : List V)
  | tup (vs : List V)
  | sl (sz : Nat) (o : Oid) (n : Nat)
  | mp (o : Oid)
  deriving Inhabited

def V.cells : V → List V
  | .agg cs => cs
  | v => [v]
def V.weak1 : V → V
  | .own sz xs => .slice sz xs
  | v => v
def V.weak : V → V
  | .own sz xs => .slice sz xs
  | .agg cs => .agg (cs.map V.weak1)
  | v => v
def V.isTup : V → Bool
  | .tup _ => true
  | _ => false
/-- May it stand in an object? -/
def V.storable : V → Bool
  | .any | .tup _ | .clo .. => false
  | _ => true
def V.pure1 : V → Bool
  | .any | .nils | .ref .. | .eptr .. | .clo .. | .tup _ | .agg _ | .sl .. | .mp _ => false
  | _ => true
/-- Data: nothing that leads to an object. -/
def V.pure : V → Bool
  | .agg cs => cs.all V.pure1
  | v => v.pure1
/-- The cells of what is stored. -/
def V.scells : V → List V
  | .agg cs => cs.map V.weak1
  | v => [v]
def V.isOwn : V → Bool
  | .own .. => true
  | _ => false

/-- What is told of a type. -/
structure TI where
  size : Nat
  bytes : Nat
  isAgg : Bool
  zero : List V
  esz : Option (Nat × Nat)
  flds : List (Nat × Nat)
  isStr : Bool
  eqk : List Nat
  ez : List V := []
  arr : Option (Nat × Nat) := none
  kv : Option (Nat × V) := none
  ik : Option IntKind := none
  isB : Bool := false
  deriving Inhabited

/-- The nil slice, typed. -/
def fixT (ti : Option TI) (v : V) : V :=
  match v with
  | .nils => match ti.bind (·.esz) with
    | some (n, _) => .own n []
    | none => .nils
  | v => v

def ofConst : Value → V
  | .int k n => .int k n
  | .bool b => .bool b
  | .string s => .str s.data.toList
  | .pointer none => .nilp
  | .slice none 0 0 => .nils
  | .nilFunc => .nilfn
  | _ => .any

/-- An object: a block of cells (a row's lead to no object); a map, its entries numbered from a base on; what nobody may use any more. -/
inductive Ob where
  | cells (row : Bool) (l : List V)
  | map (base : Nat) (l : List (V × V))
  | dead
def Ob.alive : Ob → Bool
  | .dead => false
  | _ => true

structure St where
  env : List (Nat × V)
  obs : List (Oid × Ob)

def look (t : Nat) : List (Nat × V) → V
  | [] => .any
  | (u, v) :: r => if u = t then v else look t r
def lookO (o : Oid) : List (Oid × Ob) → Option Ob
  | [] => none
  | (u, v) :: r => if u = o then some v else lookO o r
def St.tm (st : St) (t : Nat) : V := look t st.env
def St.ob (st : St) (o : Oid) : Option Ob := lookO o st.obs
def St.put (st : St) (t : Nat) (v : V) : St := { st with env := (t, v) :: st.env }
def St.putO (st : St) (o : Oid) (x : Ob) : St := { st with obs := (o, x) :: st.obs }

inductive Rd (α : Type) where
  | ret (a : α)
  | fail
  | tm (t : Nat) (k : V → Rd α)
  | ob (o : Oid) (k : Option Ob → Rd α)
def Rd.bind {α β : Type} : Rd α → (α → Rd β) → Rd β
  | .ret a, f => f a
  | .fail, _ => .fail
  | .tm t k, f => .tm t fun v => (k v).bind f
  | .ob o k, f => .ob o fun v => (k v).bind f
instance : Monad Rd where
  pure := Rd.ret
  bind := Rd.bind
def Rd.run {α : Type} (st : St) : Rd α → Option α
  | .ret a => some a
  | .fail => none
  | .tm t k => (k (st.tm t)).run st
  | .ob o k => (k (st.ob o)).run st

inductive Wr where
  | t (t : Nat) (v : V)
  | o (o : Oid) (x : Ob)
def St.app (st : St) : List Wr → St
  | [] => st
  | .t t v :: r => (st.put t v).app r
  | .o o x :: r => (st.putO o x).app r

/-- A call as the caller sees it: what it gives up, the objects that it passes, those of them that may lie elsewhere then, how many new ones it may get. -/
structure Way where
  pre : List Wr
  ids : List Oid
  mv : List Nat
  dst : Option Nat
inductive Res where
  | ws (l : List Wr)
  | call (f : FuncId) (args : List V) (objs : List Ob) (nw : Nat) (w : Way)

/-- What an operation without a call writes. -/
inductive Ws where
  | ws (l : List Wr)

def ev : Operand → Rd V
  | .tmp t => .tm t .ret
  | .const v => .ret (ofConst v)
  | .func f => .ret (.fn f)
  | .global _ => .fail
def evs : List Operand → Rd (List V)
  | [] => .ret []
  | x :: r => do let v ← ev x; let vs ← evs r; pure (v :: vs)
def evOpt : Option Operand → Rd (Option V)
  | none => .ret none
  | some x => do let v ← ev x; pure (some v)

def giveUp (src : Operand) (v : V) : List Wr :=
  match src with
  | .tmp t => if v.isOwn then [.t t v.weak] else []
  | _ => []
def out (dst : Option Nat) (v : V) : List Wr :=
  match dst with
  | some d => [.t d v]
  | none => []
def rOpt {α : Type} : Option α → Rd α
  | some a => .ret a
  | none => .fail

/-- Elements of a slice. -/
def V.elems : V → Option (Nat × List V)
  | .slice sz xs => some (sz, xs)
  | .own sz xs => some (sz, xs)
  | _ => none
def idx (xs : List V) (i : Int) : Option V := if 0 ≤ i then xs[i.toNat]? else none
def idxB (s : List UInt8) (i : Int) : Option UInt8 := if 0 ≤ i then s[i.toNat]? else none
/-- A value out of cells. -/
def getS (ti : TI) (cs : List V) (off : Nat) : Option V :=
  if ti.isAgg then (if off + ti.size ≤ cs.length then some (.agg ((cs.drop off).take ti.size)) else none) else cs[off]?
def setAll : List V → Nat → List V → List V
  | cs, _, [] => cs
  | cs, off, v :: vs => setAll (cs.set off v) (off + 1) vs

def eq1 : Nat → V → V → Option Bool
  | 2, .int k a, .int k' b => if k = k' then some (a == b) else none
  | 4, .str a, .str b => some (a == b)
  | 1, .bool a, .bool b => some (a == b)
  | _, _, _ => none
def eqCells : List Nat → List V → List V → Option Bool
  | [], [], [] => some true
  | k :: ks, x :: xs, y :: ys => match eq1 k x y, eqCells ks xs ys with
    | some a, some b => some (a && b)
    | _, _ => none
  | _, _, _ => none
def eqAgg (kd : List Nat) (a b : List V) : Option Bool :=
  match kd with
  | 10 :: ks => eqCells ks a b
  | _ => none
def binS (kd : List Nat) (op : BinOp) (x y : V) : Option V :=
  match op, x, y with
  | .add, .int k a, .int k' b => if k = k' then some (.int k (k.wrap (a + b))) else none
  | .sub, .int k a, .int k' b => if k = k' then some (.int k (k.wrap (a - b))) else none
  | .mul, .int k a, .int k' b => if k = k' then some (.int k (k.wrap (a * b))) else none
  | .quo, .int k a, .int k' b => if k = k' ∧ b ≠ 0 then some (.int k (k.wrap (a.tdiv b))) else none
  | .rem, .int k a, .int k' b => if k = k' ∧ b ≠ 0 then some (.int k (a.tmod b)) else none
  | .eql, .int k a, .int k' b => if k = k' then some (.bool (a == b)) else none
  | .neq, .int k a, .int k' b => if k = k' then some (.bool (a != b)) else none
  | .lss, .int k a, .int k' b => if k = k' then some (.bool (decide (a < b))) else none
  | .leq, .int k a, .int k' b => if k = k' then some (.bool (decide (a ≤ b))) else none
  | .gtr, .int k a, .int k' b => if k = k' then some (.bool (decide (a > b))) else none
  | .geq, .int k a, .int k' b => if k = k' then some (.bool (decide (a ≥ b))) else none
  | .add, .str a, .str b => if a.length + b.length ≤ 1000000000000000000 then some (.str (a ++ b)) else none
  | .eql, .str a, .str b => some (.bool (a == b))
  | .neq, .str a, .str b => some (.bool (!(a == b)))
  | .lss, .str a, .str b => some (.bool (Op.bytesLess a b))
  | .leq, .str a, .str b => some (.bool (Op.bytesLess a b || a == b))
  | .gtr, .str a, .str b => some (.bool (!(Op.bytesLess a b || a == b)))
  | .geq, .str a, .str b => some (.bool (!(Op.bytesLess a b)))
  | .eql, .bool a, .bool b => if kd = [1] then some (.bool (a == b)) else none
  | .neq, .bool a, .bool b => if kd = [1] then some (.bool (!(a == b))) else none
  | .eql, .agg a, .agg b => (eqAgg kd a b).map .bool
  | .neq, .agg a, .agg b => (eqAgg kd a b).map (fun r => .bool (!r))
  | .eql, .nilp, .nilp => if kd = [3] then some (.bool true) else none
  | .neq, .nilp, .nilp => if kd = [3] then some (.bool false) else none
  | .eql, .ref _ _, .nilp => if kd = [3] then some (.bool false) else none
  | .neq, .ref _ _, .nilp => if kd = [3] then some (.bool true) else none
  | _, _, _ => none
def unS (op : UnOp) (x : V) : Option V :=
  match op, x with
  | .not, .bool b => some (.bool (!b))
  | .neg, .int k n => some (.int k (k.wrap (0 - n)))
  | _, _ => none
def bndS (d : Nat) : Option V → Option Int
  | none => some d
  | some (.int .i64 n) => some n
  | _ => none
def sliceS (ti : TI) (x : V) (lo hi : Option V) : Option V :=
  match x with
  | .str s => match bndS 0 lo, bndS s.length hi with
    | some l, some h => if 0 ≤ l ∧ l ≤ h ∧ h ≤ s.length ∧ ti.isStr = true then some (.str ((s.take h.toNat).drop l.toNat)) else none
    | _, _ => none
  | x => match x.elems with
    | some (sz, xs) => match bndS 0 lo, bndS xs.length hi with
      | some l, some h => if 0 ≤ l ∧ l ≤ h ∧ h ≤ xs.length ∧ ti.esz.map (·.1) = some sz then some (.slice sz ((xs.take h.toNat).drop l.toNat)) else none
      | _, _ => none
    | none => none

/-- The objects that values lead to. -/
def refs1 : V → List Oid
  | .ref o _ => [o]
  | .sl _ o _ => [o]
  | .mp o => [o]
  | _ => []
def refsV : V → List Oid
  | .ref o _ => [o]
  | .sl _ o _ => [o]
  | .mp o => [o]
  | .agg cs => cs.flatMap refs1
  | .clo _ a b => a.flatMap refs1 ++ b.flatMap refs1
  | .tup _ => []
  | _ => []
def place (o : Oid) : List Oid → Option Nat
  | [] => none
  | u :: r => if u = o then some 0 else (place o r).map (· + 1)
def ren1 (f : Oid → Option Oid) : V → V
  | .ref o off => match f o with | some u => .ref u off | none => .any
  | .sl sz o n => match f o with | some u => .sl sz u n | none => .any
  | .mp o => match f o with | some u => .mp u | none => .any
  | v => v
def ren2 (f : Oid → Option Oid) : V → V
  | .ref o off => match f o with | some u => .ref u off | none => .any
  | .sl sz o n => match f o with | some u => .sl sz u n | none => .any
  | .mp o => match f o with | some u => .mp u | none => .any
  | .agg cs => .agg (cs.map (ren1 f))
  | .clo g a b => .clo g (a.map (ren1 f)) (b.map (ren1 f))
  | v => v
def renV (f : Oid → Option Oid) : V → V
  | .tup vs => .tup (vs.map (ren2 f))
  | v => ren2 f v
def toPar (ids : List Oid) (o : Oid) : Option Oid := (place o ids).map .par
/-- A callee's names as the caller's. -/
def ofPar (ids : List Oid) (mv : List Nat) (dst : Option Nat) : Oid → Option Oid
  | .par j => if mv.contains j then (ids[j]?).map .alt else ids[j]?
  | .sub 0 i => dst.map fun d => .sub d i
  | _ => none
def dedup : List Oid → List Oid → List Oid
  | acc, [] => acc
  | acc, o :: r => if (place o acc).isSome then dedup acc r else dedup (acc ++ [o]) r
def getObs : List Oid → Rd (List Ob)
  | [] => .ret []
  | o :: r => .ob o fun
    | some .dead => .fail
    | none => .fail
    | some c => do let l ← getObs r; pure (c :: l)
/-- Names that nothing has. -/
def fresh : List Oid → Rd Unit
  | [] => .ret ()
  | o :: r => .ob o fun
    | none => fresh r
    | some _ => .fail
def Ob.refs : Ob → List Oid
  | .cells false l => l.flatMap refs1
  | _ => []
def slRefs1 : V → List Oid
  | .sl _ o _ => [o]
  | _ => []
def Ob.slRefs : Ob → List Oid
  | .cells false l => l.flatMap slRefs1
  | _ => []
def Ob.ren (f : Oid → Option Oid) : Ob → Ob
  | .cells false l => .cells false (l.map (ren1 f))
  | x => x
/-- The rows that a call's objects hold: they may lie elsewhere behind the call. -/
def mvOf (args : List V) (objs : List Ob) : List Nat :=
  (dedup [] (objs.flatMap Ob.slRefs)).filterMap fun
    | .par j => if (place (.par j) (args.flatMap refsV)).isSome then none else some j
    | _ => none
def weakBut (gv : Option (Nat × Nat)) (vs : List V) : List V :=
  vs.zipIdx.map fun x => match gv with
    | some (j, _) => if x.2 = j then x.1 else x.1.weak
    | none => x.1.weak
def preOf (gv : Option (Nat × Nat)) (vs : List V) : List Wr :=
  match gv with
  | some (j, t) => [.t t (vs.getD j .any).weak]
  | none => []
def callS (gv : Option (Nat × Nat)) (nw : Nat) (f : FuncId) (vs : List V) (dst : Option Nat) : Rd Res := do
  let l0 := dedup [] (vs.flatMap refsV)
  let o0 ← getObs l0
  let l1 := dedup l0 (o0.flatMap Ob.refs)
  let o1 ← getObs l1
  let ids := dedup l1 (o1.flatMap Ob.refs)
  let objs ← getObs ids
  let args := (weakBut gv vs).map (renV (toPar ids))
  let objs := objs.map (Ob.ren (toPar ids))
  let mv := mvOf args objs
  fresh ((mv.filterMap fun j => (ids[j]?).map .alt) ++ (match dst with | some d => (List.range nw).map (.sub d) | none => []))
  pure (.call f args objs nw ⟨preOf gv vs, ids, mv, dst⟩)

/-- A struct's cells, some parts given; a part that is the nil slice leaves the zero cell. -/
def buildS (flds : List (Nat × Nat)) : List V → List (Nat × V) → Option (List V)
  | cs, [] => some cs
  | cs, (i, v) :: r => match flds[i]? with
    | some (off, sz) => match v with
      | .nils => match cs[off]? with
        | some (.own _ []) => if sz = 1 then buildS flds cs r else none
        | _ => none
      | v => if v.weak.scells.length = sz ∧ off + sz ≤ cs.length ∧ v.storable = true then buildS flds (setAll cs off v.weak.scells) r else none
    | none => none

/-- How a function's operations are read: what takes a row over; which literals are rows that are written to; which argument a call is given, and how many objects it brings. -/
structure Mode where
  steal : Nat → Bool
  mu : Nat → Bool
  gv : FuncId → Option Nat
  nw : FuncId → Nat

/-- A nil part of a slice's literal. -/
def fixZ (ez : List V) : V → V
  | .nils => match ez with
    | [.own k []] => .own k []
    | _ => .nils
  | v => v
/-- The rows' places in a zero value. -/
def subs1 : V → List Nat
  | .sl _ (.hole i) _ => [i]
  | _ => []
def subsOf (z : List V) : List Nat := z.flatMap subs1
def subR (d : Nat) : V → V
  | .sl sz (.hole i) n => .sl sz (.sub d i) n
  | v => v
def newObW (d : Nat) (z : List V) : List Wr :=
  .o (.loc d) (.cells false (z.map (subR d))) :: ((subsOf z).map fun i => Wr.o (.sub d i) (.cells true [])) ++ [.t d (.ref (.loc d) 0)]
def newNs (d : Nat) (z : List V) : List Oid := .loc d :: (subsOf z).map (.sub d) ++ (subsOf z).map .hole
def noOwn (l : List V) : Bool := l.all fun x => !x.isOwn
def rowOk (l : List V) : Bool := l.all V.pure1
def eqKey : Nat → V → V → Option Bool
  | 2, .int k a, .int k' b => if k = k' then some (a == b) else none
  | 4, .str a, .str b => some (a == b)
  | 100, .agg [.int k a, .int l b], .agg [.int k' a', .int l' b'] => if k = k' ∧ l = l' then some (a == a' && b == b') else none
  | _, _, _ => none
/-- Where a key stands. -/
def findS (k : Nat) (x : V) : List (V × V) → Nat → Option (Option (Nat × V))
  | [], _ => some none
  | e :: r, i => match eqKey k x e.1 with
    | some true => some (some (i, e.2))
    | some false => findS k x r (i + 1)
    | none => none
def valOf (z : V) : Option (Nat × V) → V
  | some (_, v) => v
  | none => z
def idxOf (n : Nat) : Option (Nat × V) → Nat
  | some (i, _) => i
  | none => n
def setS (l : List (V × V)) (i : Nat) (x v : V) : List (V × V) := l.modify i fun _ => (x, v)
def putS (l : List (V × V)) (x y : V) : Option (Nat × V) → List (V × V)
  | some (i, _) => setS l i x y
  | none => l ++ [(x, y)]

def bytesOf : List V → Option (List UInt8)
  | [] => some []
  | .int .u8 n :: r => (bytesOf r).map (UInt8.ofNat n.toNat :: ·)
  | _ => none
def mapPut (T : Nat → Option TI) (t : Nat) (m k v : Operand) (dst : Option Nat) : Rd Ws := do
  let ti ← rOpt (T t)
  let m ← ev m
  let k ← ev k
  let v ← ev v
  let (kd, _) ← rOpt ti.kv
  match m with
  | .mp u =>
    .ob u fun
    | some (.map b l) => do
      let _ ← rOpt (eqKey kd k k)
      let r ← rOpt (findS kd k l 0)
      if v.cells.length = 1 ∧ k.pure = true ∧ v.pure = true ∧ dst = none then
        pure (.ws [.o u (.map b (putS l k v.weak r))])
      else .fail
    | _ => .fail
  | _ => .fail

/-- Nil where a row that is written to stood. -/
def nilSl (row : Bool) (cs : List V) (off : Nat) : V → Option (Nat × Oid)
  | .nils => match row, cs[off]? with
    | false, some (.sl sz q _) => some (sz, q)
    | _, _ => none
  | _ => none

/-- Where a literal's parts lie. -/
def bf (ti : TI) : List (Nat × Nat) :=
  match ti.arr with
  | some (n, k) => (List.range n).map fun i => (i * k, k)
  | none => ti.flds
/-- A string's bytes that are appended. -/
def strArg (T : Nat → Option TI) : List Nat → Bool
  | [t, u] => t != u && (match T u with | some tj => tj.isStr | none => false)
  | _ => false
def byteVs (b : List UInt8) : List V := b.map fun x => .int .u8 (x.toNat : Int)
def appStr (ti : TI) (sz bytes : Nat) (x : Operand) (dst : Option Nat) (vs : List V) : Rd Ws :=
  match vs.map (fixT (some ti)) with
  | [.own s xs, .str b] => if s = sz ∧ sz = 1 ∧ (xs.length + b.length) * bytes ≤ 140737488355328 then
      pure (.ws (giveUp x (.own s xs) ++ out dst (.own sz (xs ++ byteVs b)))) else .fail
  | _ => .fail
def opS (T : Nat → Option TI) (M : Mode) (o : Oper) : Rd Ws :=
  match o.op with
  | .move x => do
    let v ← ev x
    let v := fixT (T o.type) v
    if (o.dst.map M.steal).getD false then pure (.ws (giveUp x v ++ out o.dst v)) else pure (.ws (out o.dst v.weak))
  | .assign x => do
    let v ← ev x
    let v := fixT (T o.type) v
    pure (.ws (giveUp x v ++ out o.dst v))
  | .pick c a b => do
    let .bool c ← ev c | .fail
    let a ← ev a
    let b ← ev b
    pure (.ws (out o.dst (if c then a.weak else b.weak)))
  | .alloc e => match o.dst with
    | some d => do
      let ti ← rOpt (T e)
      fresh (newNs d ti.zero)
      pure (.ws (newObW d ti.zero))
    | none => .fail
  | .box e x => match o.dst with
    | some d => do
      let ti ← rOpt (T e)
      let v ← ev x
      fresh (newNs d v.weak.scells)
      if v.weak.scells.length = ti.size ∧ v.storable = true then pure (.ws (newObW d v.weak.scells)) else .fail
    | none => .fail
  | .build t parts => do
    let ti ← rOpt (T t)
    let vs ← evs (parts.toList.map (·.2))
    let cs ← rOpt (buildS (bf ti) ti.zero ((parts.toList.map (·.1)).zip vs))
    if (bf ti).isEmpty then .fail else pure (.ws (out o.dst (.agg (cs.map V.weak1))))
  | .buildSlice t len parts => do
    let ti ← rOpt (T t)
    let vs ← evs (parts.toList.map (·.2))
    let (sz, _) ← rOpt ti.esz
    if (o.dst.map M.mu).getD false then
      match o.dst with
      | some d => do
        let vs := vs.map (fixZ ti.ez)
        fresh [.loc d]
        if parts.toList.map (·.1) = List.range len ∧ len * sz ≤ 16777216 ∧ vs.all (fun v => v.cells.length == sz && v.pure) = true ∧ (len = 1 ∨ noOwn vs = true) then
          pure (.ws (giveUp ((parts.toList.map (·.2)).headD (.global 0)) (vs.headD .any) ++ [.o (.loc d) (.cells true (vs.flatMap V.scells)), .t d (.sl sz (.loc d) len)]))
        else .fail
      | none => .fail
    else
      if parts.toList.map (·.1) = List.range len ∧ len * sz ≤ 16777216 ∧ vs.all (fun v => v.cells.length == sz && v.pure) = true then
        pure (.ws (out o.dst (.own sz (vs.map V.weak))))
      else .fail
  | .load t a => do
    let ti ← rOpt (T t)
    let a ← ev a
    match a with
    | .eptr cs off => do
      let v ← rOpt (getS ti cs off)
      pure (.ws (out o.dst v.weak))
    | .ref u off => do
      .ob u fun
      | some (.cells row cs) => do
        let v ← rOpt (getS ti cs off)
        if (o.dst.map M.steal).getD false && v.isOwn then pure (.ws (.o u (.cells row (cs.set off v.weak)) :: out o.dst v)) else pure (.ws (out o.dst v.weak))
      | _ => .fail
    | _ => .fail
  | .store t a x => do
    let ti ← rOpt (T t)
    let a ← ev a
    let v ← ev x
    match a with
    | .ref u off =>
      .ob u fun
      | some (.cells row cs) => match nilSl row cs off v with
        | some (sz, q) => do
          fresh [.alt q]
          .ob q fun
          | some _ => if ti.size = 1 ∧ o.dst.isNone = true ∧ u ≠ q then pure (.ws [.o q .dead, .o (.alt q) (.cells true []), .o u (.cells row (cs.set off (.sl sz (.alt q) 0)))]) else .fail
          | none => .fail
        | none =>
          let v := fixT (some ti) v
          if v.scells.length = ti.size ∧ off + v.scells.length ≤ cs.length ∧ o.dst.isNone = true ∧ v.storable = true ∧ (row = false ∨ rowOk v.scells = true) then
            .ret (.ws (giveUp x v ++ [.o u (.cells row (setAll cs off v.scells))]))
          else .fail
      | _ => .fail
    | _ => .fail
  | .nilCheck x => do
    let v ← ev x
    match v with
    | .ref u off => pure (.ws (out o.dst (.ref u off)))
    | .eptr cs off => pure (.ws (out o.dst (.eptr cs off)))
    | _ => .fail
  | .binOp op t x y _ => do
    let ti ← rOpt (T t)
    let a ← ev x
    let b ← ev y
    let v ← rOpt (binS ti.eqk op a b)
    pure (.ws (out o.dst v))
  | .unOp op _ x => do
    let a ← ev x
    let v ← rOpt (unS op a)
    pure (.ws (out o.dst v))
  | .slice t x lo hi none => do
    let a ← ev x
    let l ← evOpt lo
    let h ← evOpt hi
    let ti ← rOpt (T t)
    match a with
    | .sl sz u n => match bndS 0 l, bndS n h with
      | some l, some h => if l = 0 ∧ 0 ≤ h ∧ h ≤ n ∧ ti.esz.map (·.1) = some sz then pure (.ws (out o.dst (.sl sz u h.toNat))) else .fail
      | _, _ => .fail
    | a => do
      let v ← rOpt (sliceS ti a l h)
      match (o.dst.map M.steal).getD false, a with
      | true, .own sz xs => match bndS 0 l, bndS xs.length h with
        | some l, some h => if h = xs.length then pure (.ws (giveUp x (.own sz xs) ++ out o.dst (.own sz (xs.drop l.toNat)))) else .fail
        | _, _ => .fail
      | _, _ => pure (.ws (out o.dst v))
  | .fieldAddr s x f => do
    let ti ← rOpt (T s)
    let a ← ev x
    let (off, _) ← rOpt ti.flds[f]?
    match a with
    | .ref u o' => pure (.ws (out o.dst (.ref u (o' + off))))
    | .eptr cs o' => pure (.ws (out o.dst (.eptr cs (o' + off))))
    | _ => .fail
  | .indexAddr t x i => do
    let ti ← rOpt (T t)
    let a ← ev x
    let i ← ev i
    match a, i with
    | .sl sz u n, .int _ i => if 0 ≤ i ∧ i < n ∧ ti.esz.map (·.1) = some sz then pure (.ws (out o.dst (.ref u (i.toNat * sz)))) else .fail
    | .ref u off, .int _ i => match ti.arr with
      | some (len, sz) => if 0 ≤ i ∧ i < len then pure (.ws (out o.dst (.ref u (off + i.toNat * sz)))) else .fail
      | none => .fail
    | .eptr cs off, .int _ i => match ti.arr with
      | some (len, sz) => if 0 ≤ i ∧ i < len then pure (.ws (out o.dst (.eptr cs (off + i.toNat * sz)))) else .fail
      | none => .fail
    | a, i => match a.elems, i with
      | some (sz, xs), .int _ i => do
        let x ← rOpt (idx xs i)
        if ti.esz.map (·.1) = some sz then pure (.ws (out o.dst (.eptr x.cells 0))) else .fail
      | _, _ => .fail
  | .index t x i => do
    let ti ← rOpt (T t)
    let a ← ev x
    let i ← ev i
    match a, i with
    | .str s, .int _ i => do
      let b ← rOpt (idxB s i)
      if ti.isStr then pure (.ws (out o.dst (.int .u8 b.toNat))) else .fail
    | _, _ => .fail
  | .extract x i => do
    let a ← ev x
    match a with
    | .tup vs => do
      let v ← rOpt vs[i]?
      pure (.ws (out o.dst v.weak))
    | _ => .fail
  | .call { callee := .builtin .len, args, argTypes } => do
    let vs ← evs args.toList
    let t ← rOpt argTypes[0]?
    let ti ← rOpt (T t)
    match vs with
    | [.str s] => if ti.isStr then pure (.ws (out o.dst (.int .i64 s.length))) else .fail
    | [.sl _ _ n] => if ti.esz.isSome then pure (.ws (out o.dst (.int .i64 n))) else .fail
    | [v] => do
      let (_, xs) ← rOpt v.elems
      if ti.esz.isSome then pure (.ws (out o.dst (.int .i64 xs.length))) else .fail
    | _ => .fail
  | .call { callee := .builtin .append, args, argTypes } => do
    let vs ← evs args.toList
    let t ← rOpt argTypes[0]?
    let ti ← rOpt (T t)
    let (sz, bytes) ← rOpt ti.esz
    if strArg T argTypes.toList = true then appStr ti sz bytes (args.getD 0 (.global 0)) o.dst vs else
    match vs.map (fixT (some ti)) with
    | [.own s xs, y] => do
      let (s', ys) ← rOpt y.elems
      if s = sz ∧ s' = sz ∧ (xs.length + ys.length) * bytes ≤ 140737488355328 ∧ argTypes.toList = [t, t] then
        pure (.ws (giveUp (args.getD 0 (.global 0)) (.own s xs) ++ out o.dst (.own sz (xs ++ ys))))
      else .fail
    | [.sl s u n, y] =>
      .ob u fun
      | some (.cells true cs) => do
        fresh [.alt u]
        match y with
        | .sl s' u' m =>
          .ob u' fun
          | some (.cells true ds) =>
            if s = sz ∧ s' = sz ∧ n * sz ≤ cs.length ∧ m * sz ≤ ds.length ∧ (n + m) * bytes ≤ 140737488355328 ∧ argTypes.toList = [t, t] ∧ u ≠ u' ∧ (noOwn (ds.take (m * sz)) = true ∨ m * sz = 1) then
              .ret (.ws ((if noOwn (ds.take (m * sz)) then [] else [.o u' .dead]) ++ [.o u .dead, .o (.alt u) (.cells true (cs.take (n * sz) ++ ds.take (m * sz)))] ++ out o.dst (.sl sz (.alt u) (n + m))))
            else .fail
          | _ => .fail
        | y => do
          let (s', ys) ← rOpt y.elems
          if s = sz ∧ s' = sz ∧ n * sz ≤ cs.length ∧ (n + ys.length) * bytes ≤ 140737488355328 ∧ argTypes.toList = [t, t] then
            pure (.ws ([.o u .dead, .o (.alt u) (.cells true (cs.take (n * sz) ++ ys.flatMap V.cells))] ++ out o.dst (.sl sz (.alt u) (n + ys.length))))
          else .fail
      | _ => .fail
    | _ => .fail
  | .call { callee := .builtin .clear, args, argTypes } => do
    let vs ← evs args.toList
    let t ← rOpt argTypes[0]?
    let _ ← rOpt (T t)
    match vs with
    | [.mp u] =>
      .ob u fun
      | some (.map b l) => .ret (.ws (.o u (.map (b + l.length) []) :: out o.dst (.tup [])))
      | _ => .fail
    | _ => .fail
  | .call { callee := .builtin .min, args, argTypes } => do
    let vs ← evs args.toList
    match vs with
    | [.int k a, .int k' b] => if k = k' then pure (.ws (out o.dst (.int k (min a b)))) else .fail
    | _ => .fail
  | .call { callee := .builtin .max, args, argTypes } => do
    let vs ← evs args.toList
    match vs with
    | [.int k a, .int k' b] => if k = k' then pure (.ws (out o.dst (.int k (max a b)))) else .fail
    | _ => .fail
  | .convert src dst x => do
    let ti ← rOpt (T dst)
    let tj ← rOpt (T src)
    let v ← ev x
    match v with
    | .int _ n => do
      let k ← rOpt ti.ik
      pure (.ws (out o.dst (.int k (k.wrap n))))
    | .sl _ u n =>
      .ob u fun
      | some (.cells true cs) => do
        let s ← rOpt (bytesOf (cs.take n))
        if ti.isStr = true ∧ tj.isB = true ∧ n ≤ cs.length then pure (.ws (out o.dst (.str s))) else .fail
      | _ => .fail
    | _ => .fail
  | .makeSlice t l c => match o.dst with
    | some d => do
      let ti ← rOpt (T t)
      let l ← ev l
      let c ← ev c
      let (_, bytes) ← rOpt ti.esz
      fresh [.loc d]
      match l, c with
      | .int _ n, .int _ m => if n = m ∧ 0 ≤ n ∧ n * bytes ≤ 140737488355328 ∧ ti.esz.map (·.1) = some ti.ez.length ∧ rowOk ti.ez = true then
          pure (.ws [.o (.loc d) (.cells true (List.replicate n.toNat ti.ez).flatten), .t d (.sl ti.ez.length (.loc d) n.toNat)]) else .fail
      | _, _ => .fail
    | none => .fail
  | .mapUpdate t m k v => mapPut T t m k v o.dst
  | .insert t m k v => mapPut T t m k v o.dst
  | .mapEntry t m k => do
    let ti ← rOpt (T t)
    let m ← ev m
    let k ← ev k
    let (kd, z) ← rOpt ti.kv
    match m with
    | .mp u =>
      .ob u fun
      | some (.map b l) => do
        let _ ← rOpt (eqKey kd k k)
        let r ← rOpt (findS kd k l 0)
        pure (.ws (.o u (.map b (putS l k (valOf z.weak r) r)) :: out o.dst (.tup [valOf z.weak r, .int .i64 ((b + idxOf l.length r : Nat) : Int)])))
      | _ => .fail
    | _ => .fail
  | .entryStore t m s v => do
    let m ← ev m
    let s ← ev s
    let v ← ev v
    match m, s with
    | .mp u, .int _ s =>
      .ob u fun
      | some (.map b l) => match l[(s - b).toNat]? with
        | some (k, _) => if v.pure = true ∧ v.cells.length = 1 ∧ o.dst = none ∧ b ≤ s then .ret (.ws [.o u (.map b (setS l (s - b).toNat k v.weak))]) else .fail
        | none => .fail
      | _ => .fail
    | _, _ => .fail
  | .makeMap t none => match o.dst with
    | some d => do
      fresh [.loc d]
      pure (.ws [.o (.loc d) (.map 0 []), .t d (.mp (.loc d))])
    | none => .fail
  | .lookup t x k ok => do
    let ti ← rOpt (T t)
    let m ← ev x
    let k ← ev k
    let (kd, z) ← rOpt ti.kv
    match m with
    | .mp u =>
      .ob u fun
      | some (.map _ l) => do
        let _ ← rOpt (eqKey kd k k)
        let r ← rOpt (findS kd k l 0)
        pure (.ws (out o.dst (if ok then .tup [valOf z r, .bool r.isSome] else valOf z r)))
      | _ => .fail
    | _ => .fail
  | _ => .fail

def gvOf (M : Mode) (f : FuncId) (args : List Operand) : Option (Nat × Nat) :=
  match M.gv f with
  | some j => match args[j]? with
    | some (.tmp t) => some (j, t)
    | _ => none
  | none => none
/-- Every operation. -/
def opF (T : Nat → Option TI) (M : Mode) (o : Oper) : Rd Res :=
  match o.op with
  | .call { callee := .value fo, args, argTypes } => do
    let vs ← evs args.toList
    let vs := vs.zipWith (fun v t => fixT (T t) v) argTypes.toList
    if vs.length = args.size then
      match fo with
      | .func f => callS (gvOf M f args.toList) (M.nw f) f vs o.dst
      | fo => do
        let fv ← ev fo
        match fv with
        | .fn f => callS none 0 f vs o.dst
        | .clo f first caps => callS none 0 f (first ++ vs ++ caps) o.dst
        | _ => .fail
    else .fail
  | _ => do
    let .ws l ← opS T M o
    pure (.ws l)

/-- What a call's contract says: proved apart. -/
abbrev Orc := FuncId → List V → List Ob → V → List Ob → List Ob → Prop

def backO (w : Way) (objs news : List Ob) : List (Oid × Ob) :=
  (w.mv.filterMap fun j => (w.ids[j]?).map fun o => (o, Ob.dead)) ++
  (objs.zipIdx.filterMap fun x => (ofPar w.ids w.mv w.dst (.par x.2)).map fun o => (o, x.1.ren (ofPar w.ids w.mv w.dst))) ++
  news.zipIdx.filterMap fun x => (ofPar w.ids w.mv w.dst (.sub 0 x.2)).map fun o => (o, x.1.ren (ofPar w.ids w.mv w.dst))
def back (w : Way) (r : V) (objs news : List Ob) : List Wr :=
  w.pre ++ ((backO w objs news).map fun x => Wr.o x.1 x.2) ++ out w.dst (renV (ofPar w.ids w.mv w.dst) r)

def wanted (ops : List Oper) (o : Oper) : Rd (Option Bool) :=
  match o.guard with
  | none => .ret (some true)
  | some (j, b) => match (ops[j]?).bind (·.dst) with
    | some t => .tm t fun
      | .bool x => .ret (some (x == b))
      | .tup [] => .ret (some false)
      | _ => .ret none
    | none => .ret none

/-- Operations one behind the other. -/
def runOps (C : Orc) (T : Nat → Option TI) (M : Mode) (ops : List Oper) : List Oper → St → (St → Prop) → Prop
  | [], st, Q => Q st
  | o :: rest, st, Q =>
    match (wanted ops o).run st with
    | some (some true) => match (opF T M o).run st with
      | some (.ws l) => runOps C T M ops rest (st.app l) Q
      | some (.call f args objs nw w) => ∃ r objs' news, C f args objs r objs' news ∧ news.length ≤ nw ∧ runOps C T M ops rest (st.app (back w r objs' news)) Q
      | none => False
    | some (some false) => runOps C T M ops rest (st.app (out o.dst (.tup []))) Q
    | _ => False

/-! #### regions that draw their order: what each operation looks at and writes -/
inductive Wh where
  | t (t : Nat)
  | o (o : Oid)
  deriving DecidableEq
def Rd.reads {α : Type} (st : St) : Rd α → List Wh
  | .ret _ => []
  | .fail => []
  | .tm t k => .t t :: (k (st.tm t)).reads st
  | .ob o k => .o o :: (k (st.ob o)).reads st
def Wr.wh : Wr → Wh
  | .t u _ => .t u
  | .o u _ => .o u


structure Foot where
  rd : List Wh
  wr : List Wh
def meets (a b : List Wh) : Bool := a.any fun x => b.any fun y => decide (x = y)
def Foot.clash (a b : Foot) : Bool := meets a.wr b.rd || meets a.wr b.wr || meets b.wr a.rd
/-- For each operation all that must have been done before it. -/
def closGo : List Oper → List (List Nat) → List (List Nat)
  | [], acc => acc
  | o :: r, acc => closGo r (acc ++ [(o.after.toList.filter (fun e => Region.binds .any e)).flatMap fun e => e.on :: acc.getD e.on []])
def clos (ops : List Oper) : List (List Nat) := closGo ops []
def binding (o : Oper) : List Nat := (o.after.toList.filter (fun e => Region.binds .any e)).map (·.on)
/-- Whatever clashes is in order. -/
def orderOk (ops : List Oper) (fs : List Foot) : Bool :=
  let cl := clos ops
  fs.length == ops.length && (ops.zipIdx).all fun x =>
    (binding x.1).all (fun e => decide (e < x.2)) &&
    (cl.getD x.2 []).all (fun c => (binding x.1).any fun e => c == e || (cl.getD e []).contains c) &&
    (List.range x.2).all fun c => !((fs.getD c ⟨[], []⟩).clash (fs.getD x.2 ⟨[], []⟩)) || (cl.getD x.2 []).contains c
def runD (C : Orc) (T : Nat → Option TI) (M : Mode) (ops : List Oper) : List Oper → St → List Foot → (List Foot → St → Prop) → Prop
  | [], st, fs, Q => Q fs st
  | o :: rest, st, fs, Q =>
    match (wanted ops o).run st with
    | some (some true) => match (opF T M o).run st with
      | some (.ws l) => runD C T M ops rest (st.app l) (fs ++ [⟨(wanted ops o).reads st ++ (opF T M o).reads st, l.map Wr.wh⟩]) Q
      | some (.call f args objs nw w) => ∃ r objs' news, C f args objs r objs' news ∧ news.length ≤ nw ∧ runD C T M ops rest (st.app (back w r objs' news))
          (fs ++ [⟨(wanted ops o).reads st ++ (opF T M o).reads st, (back w r objs' news).map Wr.wh⟩]) Q
      | none => False
    | some (some false) => runD C T M ops rest (st.app (out o.dst (.tup []))) (fs ++ [⟨(wanted ops o).reads st, (out o.dst (.tup [])).map Wr.wh⟩]) Q
    | _ => False

inductive X where
  | normal | ret | exit (id : Nat)

/-- What is asked for later: tmps; objects by their roots; the roots whose rows may have moved. -/
structure Hint where
  live : List Nat
  liveO : List Oid
  mvd : List Oid := []

/-- The youngest of an object's names. -/
def cur (st : St) : Nat → Oid → Oid
  | 0, o => o
  | n + 1, o => match st.ob (.alt o) with
    | some _ => cur st n (.alt o)
    | none => o
def goal (h : Hint) (r : Oid) : Oid := if (place r h.mvd).isSome then .alt r else r
/-- The name that stands for a root: what was handed in stays where it was, if it may not move. -/
def curH (h : Hint) (st : St) : Oid → Oid
  | .par j => if (place (.par j) h.mvd).isSome then cur st 4 (.par j) else .par j
  | r => cur st 4 r
def keep (h : Hint) (st : St) (o : Oid) : Option Oid :=
  if (place o.root h.liveO).isSome then (if curH h st o.root = o then some (goal h o.root) else none) else none
def obR (h : Hint) (st : St) (r : Oid) : Option (Oid × Ob) :=
  if r.root = r then (st.ob (curH h st r)).map fun x => (goal h r, x.ren (keep h st)) else none
def restrict (h : Hint) (st : St) : St :=
  { env := h.live.map fun t => (t, renV (keep h st) (st.tm t)), obs := h.liveO.filterMap (obR h st) }

def stealOf (ops : List Oper) (resT : List Nat) (t : Nat) : Bool :=
  ops.any fun o => match o.op with
    | .call { callee := .builtin .append, args, .. } => match args.getD 0 (.global 0) with | .tmp u => u == t | _ => false
    | .assign (.tmp u) => u == t && (o.dst.any fun d => resT.contains d)
    | _ => false
/-- What a function's text is read by. -/
structure Opt where
  resT : List Nat
  muts : List Nat := []
  gvs : List (FuncId × Nat) := []
  nws : List (FuncId × Nat) := []
def modeOf (ops : List Oper) (p : Opt) : Mode :=
  ⟨stealOf ops p.resT, fun t => p.muts.contains t, fun f => p.gvs.lookup f, fun f => (p.nws.lookup f).getD 0⟩

structure Ctx where
  C : Orc
  T : Nat → Option TI
  hint : Nat → Hint
  opt : Opt

/-- At most so many rounds. -/
def iter (body : St → (X → St → Prop) → Prop) (Q : X → St → Prop) : Nat → St → Prop
  | 0, _ => False
  | n + 1, st => body st fun
    | .normal, st => iter body Q n st
    | e, st => Q e st

/-- The first region in a part of the code. -/
def firstReg : Code → Option Nat
  | .region id _ _ => some id
  | .seq a b => match firstReg a with | some i => some i | none => firstReg b
  | .cond _ a b => match firstReg a with | some i => some i | none => firstReg b
  | .block _ a => firstReg a
  | .loop a => firstReg a
  | _ => none
def awp (c : Ctx) : Code → St → (X → St → Prop) → Prop
  | .skip, st, Q => Q .normal st
  | .ret, st, Q => Q .ret st
  | .exit id, st, Q => Q (.exit id) st
  | .seq a b, st, Q => awp c a st fun
    | .normal, st => awp c b st Q
    | e, st => Q e st
  | .cond x a b, st, Q => match (ev x).run st with
    | some (.bool t) => if t then awp c a st Q else awp c b st Q
    | _ => False
  | .block id a, st, Q => awp c a st fun
    | .exit i, st => if i = id then Q .normal st else Q (.exit i) st
    | e, st => Q e st
  | .loop a, st, Q => ∃ n, iter (fun st Q => awp c a (restrict (c.hint (2 * (firstReg a).getD 0 + 1)) st) Q) Q n st
  | .region id ops false, st, Q => runOps c.C c.T (modeOf ops.toList c.opt) ops.toList ops.toList st fun st => Q .normal (restrict (c.hint (2 * id)) st)
  | .region id ops true, st, Q => runD c.C c.T (modeOf ops.toList c.opt) ops.toList ops.toList st [] fun fs st => orderOk ops.toList fs = true ∧ Q .normal (restrict (c.hint (2 * id)) st)
  | _, _, _ => False

/-! #### a function -/
def argsFrom : Nat → List V → List (Nat × V)
  | _, [] => []
  | k, x :: r => (k, x) :: argsFrom (k + 1) r
def parObsFrom : Nat → List Ob → List (Oid × Ob)
  | _, [] => []
  | k, x :: r => (.par k, x) :: parObsFrom (k + 1) r
def subObsFrom : Nat → List Ob → List (Oid × Ob)
  | _, [] => []
  | k, x :: r => (.sub 0 k, x) :: subObsFrom (k + 1) r
/-- A call's state as its contract tells it. -/
def conSt (args : List V) (objs news : List Ob) : St := { env := argsFrom 0 args, obs := parObsFrom 0 objs ++ subObsFrom 0 news }
/-- The names inside: rows that may move have a further one. -/
def inn (mv : List Nat) : Oid → Option Oid
  | .par j => some (if mv.contains j then .alt (.par j) else .par j)
  | _ => none
def innOb (mv : List Nat) (x : Oid × Ob) : Oid × Ob := ((inn mv x.1).getD x.1, x.2.ren (inn mv))
def initSt (args : List V) (objs : List Ob) : St :=
  { env := argsFrom 0 (args.map (renV (inn (mvOf args objs)))), obs := (parObsFrom 0 objs).map (innOb (mvOf args objs)) }
def resV (T : Nat → Option TI) (st : St) : ResultVar → Option V
  | .tmp t => some (st.tm t)
  | .cell t ty => match st.tm t, T ty with
    | .ref u off, some ti => match st.ob u with
      | some (.cells _ cs) => (getS ti cs off).map V.weak
      | _ => none
    | _, _ => none
def resL (T : Nat → Option TI) (st : St) : List ResultVar → Option (List V)
  | [] => some []
  | x :: r => match resV T st x, resL T st r with
    | some v, some l => if v.isTup then none else some (v.weak :: l)
    | _, _ => none
/-- What a function answers. -/
def resS (T : Nat → Option TI) (st : St) : List ResultVar → Option V
  | [x] => resV T st x
  | l => (resL T st l).map .tup
/-- The names as the caller knows them. -/
def outn (n : Nat) (mv : List Nat) (nws : List Oid) : Oid → Option Oid
  | .par j => if mv.contains j then none else if j < n then some (.par j) else none
  | .alt (.par j) => if mv.contains j then (if j < n then some (.par j) else none) else none
  | o => (place o nws).map (.sub 0)
/-- Its arguments' objects then. -/
def parsOf (mv : List Nat) (f : Oid → Option Oid) (st : St) : Nat → Nat → Option (List Ob)
  | _, 0 => some []
  | k, n + 1 => match st.ob (if mv.contains k then .alt (.par k) else .par k), parsOf mv f st (k + 1) n with
    | some x, some l => some (x.ren f :: l)
    | _, _ => none
/-- New ones. -/
def newsOf (f : Oid → Option Oid) (st : St) : List Oid → Option (List Ob)
  | [] => some []
  | o :: r => match st.ob o, newsOf f st r with
    | some x, some l => some (x.ren f :: l)
    | _, _ => none
/-- Names that new objects may have. -/
def nwOk (l : List Oid) : Bool := decide l.Nodup && l.all fun o => match o.root with | .par _ => false | _ => true

end Go.Ax
