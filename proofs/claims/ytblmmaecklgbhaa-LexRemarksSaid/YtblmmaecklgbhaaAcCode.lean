/- A part of the proof of a law of this seat: no condition. -/
import Derived.Test.YtblmmaecklgbhaaAxTab
set_option linter.unusedVariables false
set_option linter.unusedSimpArgs false
namespace Go.Ax
/-! ### the code made short: types looked up, constants read -/
inductive Src where
  | t (n : Nat)
  | v (x : V)
inductive AK where
  | mv (e : Option Nat) (x : Src)
  | mvS (e : Option Nat) (x : Src)
  | pick (c a b : Src)
  | alloc (z : List V)
  | box (n : Nat) (x : Src)
  | build (flds : List (Nat × Nat)) (zero : List V) (is : List Nat) (xs : List Src)
  | buildSl (sz : Nat) (xs : List Src)
  | load (agg : Option Nat) (s : Bool) (a : Src)
  | store (n : Nat) (e : Option Nat) (a x : Src)
  | nilc (x : Src)
  | bin (isB : List Nat) (op : BinOp) (a b : Src)
  | un (op : UnOp) (a : Src)
  | slc (isStr : Bool) (sz : Option Nat) (x : Src) (lo hi : Option Src)
  | fa (off : Nat) (x : Src)
  | ia (sz : Nat) (x i : Src)
  | ix (x i : Src)
  | ext (x : Src) (i : Nat)
  | lenStr (x : Src)
  | lenSl (x : Src)
  | app (sz bytes : Nat) (x y : Src)
  | call (es : List (Option Nat)) (f : Src) (args : List Src)
structure AO where
  g : Option (Nat × Bool)
  d : Option Nat
  k : AK
inductive AC where
  | skip
  | ret
  | exit (id : Nat)
  | seq (a b : AC)
  | cond (x : Src) (a b : AC)
  | block (id : Nat) (a : AC)
  | loop (live : List Nat) (liveO : List Oid) (a : AC)
  | reg (live : List Nat) (liveO : List Oid) (ops : List AO)
  | regD (live : List Nat) (liveO : List Oid) (ps : List (Nat × Nat)) (ops : List AO)

/-- One of two, by a test. -/
def mrg {α : Type} (x : Bool) (a b : α) : α := bif x then a else b
def Src.rd : Src → Rd V
  | .t n => .tm n .ret
  | .v x => .ret x
def srcs : List Src → Rd (List V)
  | [] => .ret []
  | x :: r => do let v ← x.rd; let vs ← srcs r; pure (v :: vs)
def srcO : Option Src → Rd (Option V)
  | none => .ret none
  | some x => do let v ← x.rd; pure (some v)
def fixE : Option Nat → V → V
  | some n, .nils => .own n []
  | _, v => v
def eOf (ti : Option TI) : Option Nat := (ti.bind (·.esz)).map (·.1)
theorem fixT_eq (ti : Option TI) (v : V) : fixT ti v = fixE (eOf ti) v := by
  unfold fixT eOf
  cases v <;> first | rfl | skip
  rotate_left
  all_goals (cases ti.bind (·.esz) with
    | none => rfl
    | some x => obtain ⟨n, m⟩ := x; rfl)
def giveA (x : Src) (v : V) : List Wr :=
  match x with
  | .t t => if v.isOwn then [.t t v.weak] else []
  | .v _ => []
def getA (agg : Option Nat) (cs : List V) (off : Nat) : Option V :=
  match agg with
  | some n => if off + n ≤ cs.length then some (.agg ((cs.drop off).take n)) else none
  | none => cs[off]?
def sliceA (isStr : Bool) (esz : Option Nat) (x : V) (lo hi : Option V) : Option V :=
  match x with
  | .str s => match bndS 0 lo, bndS s.length hi with
    | some l, some h => if 0 ≤ l ∧ l ≤ h ∧ h ≤ s.length ∧ isStr = true then some (.str ((s.take h.toNat).drop l.toNat)) else none
    | _, _ => none
  | x => match x.elems with
    | some (sz, xs) => match bndS 0 lo, bndS xs.length hi with
      | some l, some h => if 0 ≤ l ∧ l ≤ h ∧ h ≤ xs.length ∧ esz = some sz then some (.slice sz ((xs.take h.toNat).drop l.toNat)) else none
      | _, _ => none
    | none => none

def evS (d : Option Nat) : AK → Rd Ws
  | .mv e x => do let v ← x.rd; pure (.ws (out d (fixE e v).weak))
  | .mvS e x => do let v ← x.rd; let v := fixE e v; pure (.ws (giveA x v ++ out d v))
  | .pick c a b => do
    let c ← c.rd
    match c with
    | .bool c => do
      let a ← a.rd
      let b ← b.rd
      pure (.ws (out d (mrg c a.weak b.weak)))
    | _ => .fail
  | .alloc z => match d with
    | some d => .ob (.loc d) fun
      | none => .ret (.ws [.o (.loc d) (.cells z), .t d (.ref (.loc d) 0)])
      | some _ => .fail
    | none => .fail
  | .box n x => match d with
    | some d => do
      let v ← x.rd
      .ob (.loc d) fun
      | none => if v.weak.scells.length = n ∧ v.storable = true then .ret (.ws [.o (.loc d) (.cells v.weak.scells), .t d (.ref (.loc d) 0)]) else .fail
      | some _ => .fail
    | none => .fail
  | .build flds zero is xs => do
    let vs ← srcs xs
    let cs ← rOpt (buildS flds zero (is.zip vs))
    pure (.ws (out d (.agg (cs.map V.weak1))))
  | .buildSl sz xs => do
    let vs ← srcs xs
    if vs.all (fun v => v.cells.length == sz && v.pure) = true then pure (.ws (out d (.own sz (vs.map V.weak)))) else .fail
  | .load agg s a => do
    let a ← a.rd
    match a with
    | .eptr cs off => do
      let v ← rOpt (getA agg cs off)
      pure (.ws (out d v.weak))
    | .ref u off => do
      .ob u fun
      | some (.cells cs) => do
        let v ← rOpt (getA agg cs off)
        if s && v.isOwn then pure (.ws (.o u (.cells (cs.set off v.weak)) :: out d v)) else pure (.ws (out d v.weak))
      | none => .fail
    | _ => .fail
  | .store n e a x => do
    let a ← a.rd
    let v ← x.rd
    let v := fixE e v
    match a with
    | .ref u off =>
      .ob u fun
      | some (.cells cs) =>
        if v.scells.length = n ∧ off + v.scells.length ≤ cs.length ∧ d.isNone = true ∧ v.storable = true then
          .ret (.ws (giveA x v ++ [.o u (.cells (setAll cs off v.scells))]))
        else .fail
      | none => .fail
    | _ => .fail
  | .nilc x => do
    let v ← x.rd
    match v with
    | .ref u off => pure (.ws (out d (.ref u off)))
    | .eptr cs off => pure (.ws (out d (.eptr cs off)))
    | _ => .fail
  | .bin isB op x y => do
    let a ← x.rd
    let b ← y.rd
    let v ← rOpt (binS isB op a b)
    pure (.ws (out d v))
  | .un op x => do
    let a ← x.rd
    let v ← rOpt (unS op a)
    pure (.ws (out d v))
  | .slc isStr sz x lo hi => do
    let a ← x.rd
    let l ← srcO lo
    let h ← srcO hi
    let v ← rOpt (sliceA isStr sz a l h)
    pure (.ws (out d v))
  | .fa off x => do
    let a ← x.rd
    match a with
    | .ref u o' => pure (.ws (out d (.ref u (o' + off))))
    | .eptr cs o' => pure (.ws (out d (.eptr cs (o' + off))))
    | _ => .fail
  | .ia sz x i => do
    let a ← x.rd
    let i ← i.rd
    match a.elems, i with
    | some (s, xs), .int _ i => do
      let x ← rOpt (idx xs i)
      if some sz = some s then pure (.ws (out d (.eptr x.cells 0))) else .fail
    | _, _ => .fail
  | .ix x i => do
    let a ← x.rd
    let i ← i.rd
    match a, i with
    | .str s, .int _ i => do
      let b ← rOpt (idxB s i)
      pure (.ws (out d (.int .u8 b.toNat)))
    | _, _ => .fail
  | .ext x i => do
    let a ← x.rd
    match a with
    | .tup vs => do
      let v ← rOpt vs[i]?
      pure (.ws (out d v.weak))
    | _ => .fail
  | .lenStr x => do
    let v ← x.rd
    match v with
    | .str s => pure (.ws (out d (.int .i64 s.length)))
    | _ => .fail
  | .lenSl x => do
    let v ← x.rd
    match v with
    | .str _ => .fail
    | v => do
      let (_, xs) ← rOpt v.elems
      pure (.ws (out d (.int .i64 xs.length)))
  | .app sz bytes x y => do
    let a ← x.rd
    let b ← y.rd
    match fixE (some sz) a, fixE (some sz) b with
    | .own s xs, y => do
      let (s', ys) ← rOpt y.elems
      if s = sz ∧ s' = sz ∧ (xs.length + ys.length) * bytes ≤ 140737488355328 then
        pure (.ws (giveA x (.own s xs) ++ out d (.own sz (xs ++ ys))))
      else .fail
    | _, _ => .fail
  | .call .. => .fail
def evA (d : Option Nat) : AK → Rd Res
  | .call es f xs => do
    let fv ← f.rd
    let vs ← srcs xs
    let vs := vs.zipWith (fun v e => fixE e v) es
    if vs.length = xs.length then
      match fv with
      | .fn f => callS f vs d
      | .clo f first caps => callS f (first ++ vs ++ caps) d
      | _ => .fail
    else .fail
  | k => do
    let .ws l ← evS d k
    pure (.ws l)

/-! #### making it short -/
def cO : Operand → Option Src
  | .tmp t => some (.t t)
  | .const v => some (.v (ofConst v))
  | .func f => some (.v (.fn f))
  | .global _ => none
def cOs : List Operand → Option (List Src)
  | [] => some []
  | x :: r => do let a ← cO x; let l ← cOs r; some (a :: l)
def cOO : Option Operand → Option (Option Src)
  | none => some none
  | some x => do let a ← cO x; some (some a)
theorem cO_eq {x : Operand} {s : Src} (h : cO x = some s) : ev x = s.rd := by
  cases x <;> simp [cO] at h <;> subst h <;> rfl
theorem cOs_eq : ∀ {l : List Operand} {s : List Src}, cOs l = some s → evs l = srcs s
  | [], s, h => by simp [cOs] at h; subst h; rfl
  | x :: r, s, h => by
    simp only [cOs, Option.bind_eq_bind, Option.bind_eq_some_iff] at h
    obtain ⟨a, h1, l, h2, h3⟩ := h
    simp at h3
    subst h3
    simp only [evs, srcs, cO_eq h1, cOs_eq h2]
theorem cOO_eq {x : Option Operand} {s : Option Src} (h : cOO x = some s) : evOpt x = srcO s := by
  cases x with
  | none => simp [cOO] at h; subst h; rfl
  | some x =>
    simp only [cOO, Option.bind_eq_bind, Option.bind_eq_some_iff] at h
    obtain ⟨a, h1, h3⟩ := h
    simp at h3
    subst h3
    simp only [evOpt, srcO, cO_eq h1]
theorem cO_give {x : Operand} {s : Src} (h : cO x = some s) (v : V) : giveUp x v = giveA s v := by
  cases x <;> simp [cO] at h <;> subst h <;> rfl
def aggOf (ti : TI) : Option Nat := if ti.isAgg then some ti.size else none
theorem getS_eq (ti : TI) (cs : List V) (off : Nat) : getS ti cs off = getA (aggOf ti) cs off := by
  unfold getS getA aggOf
  split <;> rfl
theorem sliceS_eq (ti : TI) (x : V) (lo hi : Option V) : sliceS ti x lo hi = sliceA ti.isStr (eOf (some ti)) x lo hi := by
  unfold sliceS sliceA
  rfl

def cS (T : Nat → Option TI) (steal : Nat → Bool) (o : Oper) : Option AK :=
  match o.op with
  | .move x => do
    let s ← cO x
    if (o.dst.map steal).getD false then some (.mvS (eOf (T o.type)) s) else some (.mv (eOf (T o.type)) s)
  | .assign x => do let s ← cO x; some (.mvS (eOf (T o.type)) s)
  | .pick c a b => do let c ← cO c; let a ← cO a; let b ← cO b; some (.pick c a b)
  | .alloc e => do let ti ← T e; some (.alloc ti.zero)
  | .box e x => do let ti ← T e; let s ← cO x; some (.box ti.size s)
  | .build t parts => do
    let ti ← T t
    let xs ← cOs (parts.toList.map (·.2))
    if ti.flds.isEmpty then none else some (.build ti.flds ti.zero (parts.toList.map (·.1)) xs)
  | .buildSlice t len parts => do
    let ti ← T t
    let xs ← cOs (parts.toList.map (·.2))
    let (sz, _) ← ti.esz
    if parts.toList.map (·.1) = List.range len ∧ len * sz ≤ 16777216 then some (.buildSl sz xs) else none
  | .load t a => do let ti ← T t; let a ← cO a; some (.load (aggOf ti) ((o.dst.map steal).getD false) a)
  | .store t a x => do let ti ← T t; let a ← cO a; let x ← cO x; some (.store ti.size (eOf (some ti)) a x)
  | .nilCheck x => do let x ← cO x; some (.nilc x)
  | .binOp op t x y _ => do let ti ← T t; let x ← cO x; let y ← cO y; some (.bin ti.eqk op x y)
  | .unOp op _ x => do let x ← cO x; some (.un op x)
  | .slice t x lo hi none => do let ti ← T t; let x ← cO x; let lo ← cOO lo; let hi ← cOO hi; some (.slc ti.isStr (eOf (some ti)) x lo hi)
  | .fieldAddr s x f => do let ti ← T s; let x ← cO x; let p ← ti.flds[f]?; some (.fa p.1 x)
  | .indexAddr t x i => do let ti ← T t; let x ← cO x; let i ← cO i; let (sz, _) ← ti.esz; some (.ia sz x i)
  | .index t x i => do let ti ← T t; let x ← cO x; let i ← cO i; if ti.isStr then some (.ix x i) else none
  | .extract x i => do let x ← cO x; some (.ext x i)
  | .call { callee := .builtin .len, args, argTypes } => do
    let xs ← cOs args.toList
    let t ← argTypes[0]?
    let ti ← T t
    match xs with
    | [x] => if ti.isStr then (if ti.esz.isNone then some (.lenStr x) else none) else if ti.esz.isSome then some (.lenSl x) else none
    | _ => none
  | .call { callee := .builtin .append, args, argTypes } => do
    let xs ← cOs args.toList
    let t ← argTypes[0]?
    let ti ← T t
    let (sz, bytes) ← ti.esz
    match xs with
    | [x, y] => if argTypes.toList = [t, t] then some (.app sz bytes x y) else none
    | _ => none
  | _ => none
def cA (T : Nat → Option TI) (steal : Nat → Bool) (o : Oper) : Option AK :=
  match o.op with
  | .call { callee := .value f, args, argTypes } => do
    let f ← cO f
    let xs ← cOs args.toList
    if xs.length = args.size then some (.call (argTypes.toList.map fun t => eOf (T t)) f xs) else none
  | _ => cS T steal o
end Go.Ax
