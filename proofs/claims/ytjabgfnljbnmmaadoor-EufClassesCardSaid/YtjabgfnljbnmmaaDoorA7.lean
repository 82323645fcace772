/- A part of the proof of a law of this seat: no condition. -/
import Derived.Test.YtjabgfnljbnmmaaDoorA6
set_option linter.unusedVariables false
set_option linter.unusedSimpArgs false
namespace Go.Ax
/-! ### the code made short: types looked up, constants read -/
inductive Src where
 | t (n : Nat)
 | v (x : V)
inductive AK where
 | mv (e : Option Nat) (x : Src)
 | mvS (e : Option Nat) (x : Src)
 | pick (c a b : Src)
 | alloc (z : List V)
 | box (n : Nat) (z : List V) (x : Src)
 | build (flds : List (Nat × Nat)) (zero : List V) (is : List Nat) (xs : List Src)
 | buildSl (sz : Nat) (xs : List Src)
 | buildMu (sz : Nat) (ez : List V) (xs : List Src)
 | load (agg : Option Nat) (s : Bool) (a : Src)
 | store (n : Nat) (e : Option Nat) (a x : Src)
 | nilc (x : Src)
 | bin (isB : List Nat) (op : BinOp) (a b : Src)
 | un (op : UnOp) (a : Src)
 | slc (isStr : Bool) (sz : Option Nat) (s : Bool) (x : Src) (lo hi : Option Src)
 | fa (off : Nat) (x : Src)
 | ia (sz : Option Nat) (arr : Option (Nat × Nat)) (x i : Src)
 | ix (x i : Src)
 | ext (x : Src) (i : Nat)
 | lenStr (x : Src)
 | lenSl (x : Src)
 | app (sz bytes : Nat) (x y : Src)
 | conv (ik : Option IntKind) (isB : Bool) (x : Src)
 | mkSl (bytes : Nat) (ez : List V) (l c : Src)
 | mput (kd : Nat) (m k v : Src)
 | ment (kd : Nat) (z : V) (m k : Src)
 | mst (m s v : Src)
 | mkMap
 | mlook (kd : Nat) (z : V) (ok : Bool) (m k : Src)
 | clr (x : Src)
 | mn (x y : Src)
 | mx (x y : Src)
 | bad
 | call (es : List (Option Nat)) (gv : Option (Nat × Nat)) (nw : Nat) (f : FuncId) (args : List Src)
 | callD (es : List (Option Nat)) (f : Src) (args : List Src)
structure AO where
 g : Option (Nat × Bool)
 d : Option Nat
 k : AK
inductive AC where
 | skip
 | ret
 | exit (id : Nat)
 | seq (a b : AC)
 | cond (x : Src) (a b : AC)
 | block (id : Nat) (a : AC)
 | loop (h : Hint) (a : AC)
 | reg (h : Hint) (ops : List AO)
 | regD (h : Hint) (ps : List (Nat × Nat)) (ops : List AO)

/-- One of two, by a test. -/
def mrg {α : Type} (x : Bool) (a b : α) : α := bif x then a else b
def Src.rd : Src → Rd V
 | .t n => .tm n .ret
 | .v x => .ret x
def srcs : List Src → Rd (List V)
 | [] => .ret []
 | x :: r => do let v ← x.rd; let vs ← srcs r; pure (v :: vs)
def srcO : Option Src → Rd (Option V)
 | none => .ret none
 | some x => do let v ← x.rd; pure (some v)
def fixE : Option Nat → V → V
 | some n, .nils => .own n []
 | _, v => v
def eOf (ti : Option TI) : Option Nat := (ti.bind (·.esz)).map (·.1)
theorem fixT_eq (ti : Option TI) (v : V) : fixT ti v = fixE (eOf ti) v := by
 unfold fixT eOf
 cases v <;> first | rfl | skip
 rotate_left
 all_goals (cases ti.bind (·.esz) with
  | none => rfl
  | some x => obtain ⟨n, m⟩ := x; rfl)
def giveA (x : Src) (v : V) : List Wr :=
 match x with
 | .t t => if v.isOwn then [.t t v.weak] else []
 | .v _ => []
def getA (agg : Option Nat) (cs : List V) (off : Nat) : Option V :=
 match agg with
 | some n => if off + n ≤ cs.length then some (.agg ((cs.drop off).take n)) else none
 | none => cs[off]?
def sliceA (isStr : Bool) (esz : Option Nat) (x : V) (lo hi : Option V) : Option V :=
 match x with
 | .str s => match bndS 0 lo, bndS s.length hi with
  | some l, some h => if 0 ≤ l ∧ l ≤ h ∧ h ≤ s.length ∧ isStr = true then some (.str ((s.take h.toNat).drop l.toNat)) else none
  | _, _ => none
 | x => match x.elems with
  | some (sz, xs) => match bndS 0 lo, bndS xs.length hi with
   | some l, some h => if 0 ≤ l ∧ l ≤ h ∧ h ≤ xs.length ∧ esz = some sz then some (.slice sz ((xs.take h.toNat).drop l.toNat)) else none
   | _, _ => none
  | none => none

def evS (d : Option Nat) : AK → Rd Ws
 | .mv e x => do let v ← x.rd; pure (.ws (out d (fixE e v).weak))
 | .mvS e x => do let v ← x.rd; let v := fixE e v; pure (.ws (giveA x v ++ out d v))
 | .pick c a b => do
  let c ← c.rd
  match c with
  | .bool c => do
   let a ← a.rd
   let b ← b.rd
   pure (.ws (out d (mrg c a.weak b.weak)))
  | _ => .fail
 | .alloc z => match d with
  | some d => do
   fresh (newNs d z)
   pure (.ws (newObW d z))
  | none => .fail
 | .box n z x => match d with
  | some d => do
   let v ← x.rd
   fresh (newNs d (boxZ z v.weak.scells))
   if v.weak.scells.length = n ∧ v.storable = true then pure (.ws (newObW d (boxZ z v.weak.scells))) else .fail
  | none => .fail
 | .build flds zero is xs => do
  let vs ← srcs xs
  let cs ← rOpt (buildS flds zero (is.zip vs))
  pure (.ws (out d (.agg (cs.map V.weak1))))
 | .buildSl sz xs => do
  let vs ← srcs xs
  if vs.all (fun v => v.cells.length == sz && v.pure) = true then pure (.ws (out d (.own sz (vs.map V.weak)))) else .fail
 | .buildMu sz ez xs => match d with
  | some d => do
   let vs ← srcs xs
   let vs := vs.map (fixZ ez)
   fresh [.loc d]
   if vs.all (fun v => v.cells.length == sz && v.pure) = true ∧ (xs.length = 1 ∨ noOwn vs = true) then
    pure (.ws (giveA (xs.headD (.v .any)) (vs.headD .any) ++ [.o (.loc d) (.cells true (vs.flatMap V.scells)), .t d (.sl sz (.loc d) xs.length)]))
   else .fail
  | none => .fail
 | .load agg s a => do
  let a ← a.rd
  match a with
  | .eptr cs off => do
   let v ← rOpt (getA agg cs off)
   pure (.ws (out d v.weak))
  | .ref u off => do
   .ob u fun
   | some (.cells row cs) => do
    let v ← rOpt (getA agg cs off)
    if s && v.isOwn then pure (.ws (.o u (.cells row (cs.set off v.weak)) :: out d v)) else pure (.ws (out d v.weak))
   | _ => .fail
  | _ => .fail
 | .store n e a x => do
  let a ← a.rd
  let v ← x.rd
  match a with
  | .ref u off =>
   .ob u fun
   | some (.cells row cs) => match nilSl row cs off v with
    | some (sz, q) => do
     fresh [.alt q]
     .ob q fun
     | some _ => if n = 1 ∧ d.isNone = true ∧ u ≠ q then pure (.ws [.o q .dead, .o (.alt q) (.cells true []), .o u (.cells row (cs.set off (.sl sz (.alt q) 0)))]) else .fail
     | none => .fail
    | none =>
     let v := fixE e v
     if v.scells.length = n ∧ off + v.scells.length ≤ cs.length ∧ d.isNone = true ∧ v.storable = true ∧ (row = false ∨ rowOk v.scells = true) then
      .ret (.ws (giveA x v ++ [.o u (.cells row (setAll cs off v.scells))]))
     else .fail
   | _ => .fail
  | _ => .fail
 | .nilc x => do
  let v ← x.rd
  match v with
  | .ref u off => pure (.ws (out d (.ref u off)))
  | .eptr cs off => pure (.ws (out d (.eptr cs off)))
  | _ => .fail
 | .bin isB op x y => do
  let a ← x.rd
  let b ← y.rd
  let v ← rOpt (binS isB op a b)
  pure (.ws (out d v))
 | .un op x => do
  let a ← x.rd
  let v ← rOpt (unS op a)
  pure (.ws (out d v))
 | .slc isStr esz s x lo hi => do
  let a ← x.rd
  let l ← srcO lo
  let h ← srcO hi
  match a with
  | .sl sz u n => match bndS 0 l, bndS n h with
   | some l, some h => if l = 0 ∧ 0 ≤ h ∧ h ≤ n ∧ esz = some sz then pure (.ws (out d (.sl sz u h.toNat))) else .fail
   | _, _ => .fail
  | a => do
   let v ← rOpt (sliceA isStr esz a l h)
   match s, a with
   | true, .own sz xs => match bndS 0 l, bndS xs.length h with
    | some l, some h => if h = xs.length then pure (.ws (giveA x (.own sz xs) ++ out d (.own sz (xs.drop l.toNat)))) else .fail
    | _, _ => .fail
   | _, _ => pure (.ws (out d v))
 | .fa off x => do
  let a ← x.rd
  match a with
  | .ref u o' => pure (.ws (out d (.ref u (o' + off))))
  | .eptr cs o' => pure (.ws (out d (.eptr cs (o' + off))))
  | _ => .fail
 | .ia esz arr x i => do
  let a ← x.rd
  let i ← i.rd
  match a, i with
  | .sl sz u n, .int _ i => if 0 ≤ i ∧ i < n ∧ esz = some sz then pure (.ws (out d (.ref u (i.toNat * sz)))) else .fail
  | .ref u off, .int _ i => match arr with
   | some (len, sz) => if 0 ≤ i ∧ i < len then pure (.ws (out d (.ref u (off + i.toNat * sz)))) else .fail
   | none => .fail
  | .eptr cs off, .int _ i => match arr with
   | some (len, sz) => if 0 ≤ i ∧ i < len then pure (.ws (out d (.eptr cs (off + i.toNat * sz)))) else .fail
   | none => .fail
  | a, i => match a.elems, i with
   | some (sz, xs), .int _ i => do
    let x ← rOpt (idx xs i)
    if esz = some sz then pure (.ws (out d (.eptr x.cells 0))) else .fail
   | _, _ => .fail
 | .ix x i => do
  let a ← x.rd
  let i ← i.rd
  match a, i with
  | .str s, .int _ i => do
   let b ← rOpt (idxB s i)
   pure (.ws (out d (.int .u8 b.toNat)))
  | _, _ => .fail
 | .ext x i => do
  let a ← x.rd
  match a with
  | .tup vs => do
   let v ← rOpt vs[i]?
   pure (.ws (out d v.weak))
  | _ => .fail
 | .lenStr x => do
  let v ← x.rd
  match v with
  | .str s => pure (.ws (out d (.int .i64 s.length)))
  | _ => .fail
 | .lenSl x => do
  let v ← x.rd
  match v with
  | .str _ => .fail
  | .sl _ _ n => pure (.ws (out d (.int .i64 n)))
  | v => do
   let (_, xs) ← rOpt v.elems
   pure (.ws (out d (.int .i64 xs.length)))
 | .app sz bytes x y => do
  let a ← x.rd
  let b ← y.rd
  match fixE (some sz) a, fixE (some sz) b with
  | .own s xs, y => do
   let (s', ys) ← rOpt y.elems
   if s = sz ∧ s' = sz ∧ (xs.length + ys.length) * bytes ≤ 140737488355328 then
    pure (.ws (giveA x (.own s xs) ++ out d (.own sz (xs ++ ys))))
   else .fail
  | .sl s u n, y =>
   .ob u fun
   | some (.cells true cs) => do
    fresh [.alt u]
    match y with
    | .sl s' u' m =>
     .ob u' fun
     | some (.cells true ds) =>
      if s = sz ∧ s' = sz ∧ n * sz ≤ cs.length ∧ m * sz ≤ ds.length ∧ (n + m) * bytes ≤ 140737488355328 ∧ u ≠ u' ∧ (noOwn (ds.take (m * sz)) = true ∨ m * sz = 1) then
       .ret (.ws ((if noOwn (ds.take (m * sz)) then [] else [.o u' .dead]) ++ [.o u .dead, .o (.alt u) (.cells true (cs.take (n * sz) ++ ds.take (m * sz)))] ++ out d (.sl sz (.alt u) (n + m))))
      else .fail
     | _ => .fail
    | y => do
     let (s', ys) ← rOpt y.elems
     if s = sz ∧ s' = sz ∧ n * sz ≤ cs.length ∧ (n + ys.length) * bytes ≤ 140737488355328 then
      pure (.ws ([.o u .dead, .o (.alt u) (.cells true (cs.take (n * sz) ++ ys.flatMap V.cells))] ++ out d (.sl sz (.alt u) (n + ys.length))))
     else .fail
   | _ => .fail
  | _, _ => .fail
 | .conv ik isB x => do
  let v ← x.rd
  match v with
  | .int _ n => do
   let k ← rOpt ik
   pure (.ws (out d (.int k (k.wrap n))))
  | .sl _ u n =>
   .ob u fun
   | some (.cells true cs) => do
    let s ← rOpt (bytesOf (cs.take n))
    if isB = true ∧ n ≤ cs.length then pure (.ws (out d (.str s))) else .fail
   | _ => .fail
  | _ => .fail
 | .mkSl bytes ez l c => match d with
  | some d => do
   let l ← l.rd
   let c ← c.rd
   fresh [.loc d]
   match l, c with
   | .int _ n, .int _ m => if n = m ∧ 0 ≤ n ∧ n * bytes ≤ 140737488355328 then
     pure (.ws [.o (.loc d) (.cells true (List.replicate n.toNat ez).flatten), .t d (.sl ez.length (.loc d) n.toNat)]) else .fail
   | _, _ => .fail
  | none => .fail
 | .mput kd m k v => do
  let m ← m.rd
  let k ← k.rd
  let v ← v.rd
  match m with
  | .mp u =>
   .ob u fun
   | some (.map b l) => do
    let _ ← rOpt (eqKey kd k k)
    let r ← rOpt (findS kd k l 0)
    if v.cells.length = 1 ∧ k.pure = true ∧ v.pure = true ∧ d = none then
     pure (.ws [.o u (.map b (putS l k v.weak r))])
    else .fail
   | _ => .fail
  | _ => .fail
 | .ment kd z m k => do
  let m ← m.rd
  let k ← k.rd
  match m with
  | .mp u =>
   .ob u fun
   | some (.map b l) => do
    let _ ← rOpt (eqKey kd k k)
    let r ← rOpt (findS kd k l 0)
    pure (.ws (.o u (.map b (putS l k (valOf z.weak r) r)) :: out d (.tup [valOf z.weak r, .int .i64 ((b + idxOf l.length r : Nat) : Int)])))
   | _ => .fail
  | _ => .fail
 | .mst m s v => do
  let m ← m.rd
  let s ← s.rd
  let v ← v.rd
  match m, s with
  | .mp u, .int _ s =>
   .ob u fun
   | some (.map b l) => match l[(s - b).toNat]? with
    | some (k, _) => if v.pure = true ∧ v.cells.length = 1 ∧ d = none ∧ b ≤ s then .ret (.ws [.o u (.map b (setS l (s - b).toNat k v.weak))]) else .fail
    | none => .fail
   | _ => .fail
  | _, _ => .fail
 | .mkMap => match d with
  | some d => do
   fresh [.loc d]
   pure (.ws [.o (.loc d) (.map 0 []), .t d (.mp (.loc d))])
  | none => .fail
 | .mlook kd z ok m k => do
  let m ← m.rd
  let k ← k.rd
  match m with
  | .mp u =>
   .ob u fun
   | some (.map _ l) => do
    let _ ← rOpt (eqKey kd k k)
    let r ← rOpt (findS kd k l 0)
    pure (.ws (out d (if ok then .tup [valOf z.weak r, .bool r.isSome] else valOf z.weak r)))
   | _ => .fail
  | _ => .fail
 | .clr x => do
  let m ← x.rd
  match m with
  | .mp u =>
   .ob u fun
   | some (.map b l) => .ret (.ws (.o u (.map (b + l.length) []) :: out d (.tup [])))
   | _ => .fail
  | _ => .fail
 | .mn x y => do
  let a ← x.rd
  let b ← y.rd
  match a, b with
  | .int k a, .int k' b => if k = k' then pure (.ws (out d (.int k (min a b)))) else .fail
  | _, _ => .fail
 | .mx x y => do
  let a ← x.rd
  let b ← y.rd
  match a, b with
  | .int k a, .int k' b => if k = k' then pure (.ws (out d (.int k (max a b)))) else .fail
  | _, _ => .fail
 | .bad => .fail
 | .call .. => .fail
 | .callD .. => .fail
def evA (d : Option Nat) : AK → Rd Res
 | .call es gv nw f xs => do
  let vs ← srcs xs
  let vs := vs.zipWith (fun v e => fixE e v) es
  if vs.length = xs.length then callS gv nw f vs d else .fail
 | .callD es f xs => do
  let vs ← srcs xs
  let vs := vs.zipWith (fun v e => fixE e v) es
  if vs.length = xs.length then do
   let fv ← f.rd
   match fv with
   | .fn f => callS none 0 f vs d
   | .clo f first caps => callS none 0 f (first ++ vs ++ caps) d
   | _ => .fail
  else .fail
 | k => do
  let .ws l ← evS d k
  pure (.ws l)

/-! #### making it short -/
def cO : Operand → Option Src
 | .tmp t => some (.t t)
 | .const v => some (.v (ofConst v))
 | .func f => some (.v (.fn f))
 | .global _ => none
def cOs : List Operand → Option (List Src)
 | [] => some []
 | x :: r => do let a ← cO x; let l ← cOs r; some (a :: l)
def cOO : Option Operand → Option (Option Src)
 | none => some none
 | some x => do let a ← cO x; some (some a)
theorem cO_eq {x : Operand} {s : Src} (h : cO x = some s) : ev x = s.rd := by
 cases x <;> simp [cO] at h <;> subst h <;> rfl
theorem cOs_eq : ∀ {l : List Operand} {s : List Src}, cOs l = some s → evs l = srcs s
 | [], s, h => by simp [cOs] at h; subst h; rfl
 | x :: r, s, h => by
  simp only [cOs, Option.bind_eq_bind, Option.bind_eq_some_iff] at h
  obtain ⟨a, h1, l, h2, h3⟩ := h
  simp at h3
  subst h3
  simp only [evs, srcs, cO_eq h1, cOs_eq h2]
theorem cOO_eq {x : Option Operand} {s : Option Src} (h : cOO x = some s) : evOpt x = srcO s := by
 cases x with
 | none => simp [cOO] at h; subst h; rfl
 | some x =>
  simp only [cOO, Option.bind_eq_bind, Option.bind_eq_some_iff] at h
  obtain ⟨a, h1, h3⟩ := h
  simp at h3
  subst h3
  simp only [evOpt, srcO, cO_eq h1]
theorem cO_give {x : Operand} {s : Src} (h : cO x = some s) (v : V) : giveUp x v = giveA s v := by
 cases x <;> simp [cO] at h <;> subst h <;> rfl
def aggOf (ti : TI) : Option Nat := if ti.isAgg then some ti.size else none
theorem getS_eq (ti : TI) (cs : List V) (off : Nat) : getS ti cs off = getA (aggOf ti) cs off := by
 unfold getS getA aggOf
 split <;> rfl
theorem sliceS_eq (ti : TI) (x : V) (lo hi : Option V) : sliceS ti x lo hi = sliceA ti.isStr (eOf (some ti)) x lo hi := by
 unfold sliceS sliceA
 rfl

def cS (T : Nat → Option TI) (M : Mode) (o : Oper) : Option AK :=
 match o.op with
 | .move x => do
  let s ← cO x
  if (o.dst.map M.steal).getD false then some (.mvS (eOf (T o.type)) s) else some (.mv (eOf (T o.type)) s)
 | .assign x => do let s ← cO x; some (.mvS (eOf (T o.type)) s)
 | .pick c a b => do let c ← cO c; let a ← cO a; let b ← cO b; some (.pick c a b)
 | .alloc e => do let ti ← T e; some (.alloc ti.zero)
 | .box e x => do let ti ← T e; let s ← cO x; some (.box ti.size ti.zero s)
 | .build t parts => do
  let ti ← T t
  let xs ← cOs (parts.toList.map (·.2))
  if (bf ti).isEmpty then none else some (.build (bf ti) (z0 ti) (parts.toList.map (·.1)) xs)
 | .buildSlice t len parts => do
  let ti ← T t
  let xs ← cOs (parts.toList.map (·.2))
  let (sz, _) ← ti.esz
  if parts.toList.map (·.1) = List.range len ∧ len * sz ≤ 16777216 then (if (o.dst.map M.mu).getD false then some (.buildMu sz ti.ez xs) else some (.buildSl sz xs)) else none
 | .load t a => do let ti ← T t; let a ← cO a; some (.load (aggOf ti) ((o.dst.map M.steal).getD false) a)
 | .store t a x => do let ti ← T t; let a ← cO a; let x ← cO x; some (.store ti.size (eOf (some ti)) a x)
 | .nilCheck x => do let x ← cO x; some (.nilc x)
 | .binOp op t x y _ => do let ti ← T t; let x ← cO x; let y ← cO y; some (.bin ti.eqk op x y)
 | .unOp op _ x => do let x ← cO x; some (.un op x)
 | .slice t x lo hi none => do let ti ← T t; let x ← cO x; let lo ← cOO lo; let hi ← cOO hi; some (.slc ti.isStr (eOf (some ti)) ((o.dst.map M.steal).getD false) x lo hi)
 | .fieldAddr s x f => do let ti ← T s; let x ← cO x; let p ← ti.flds[f]?; some (.fa p.1 x)
 | .indexAddr t x i => do let ti ← T t; let x ← cO x; let i ← cO i; some (.ia (eOf (some ti)) ti.arr x i)
 | .index t x i => do let ti ← T t; let x ← cO x; let i ← cO i; if ti.isStr then some (.ix x i) else none
 | .extract x i => do let x ← cO x; some (.ext x i)
 | .call { callee := .builtin .len, args, argTypes } => do
  let xs ← cOs args.toList
  let t ← argTypes[0]?
  let ti ← T t
  match xs with
  | [x] => if ti.isStr then (if ti.esz.isNone then some (.lenStr x) else none) else if ti.esz.isSome then some (.lenSl x) else none
  | _ => none
 | .call { callee := .builtin .append, args, argTypes } => do
  let xs ← cOs args.toList
  let t ← argTypes[0]?
  let ti ← T t
  let (sz, bytes) ← ti.esz
  match xs with
  | [x, y] => if argTypes.toList = [t, t] then some (.app sz bytes x y) else none
  | _ => none
 | .call { callee := .builtin .clear, args, argTypes } => do
  let xs ← cOs args.toList
  let t ← argTypes[0]?
  let _ ← T t
  match xs with
  | [x] => some (.clr x)
  | _ => none
 | .call { callee := .builtin .min, args, argTypes := _ } => do
  let xs ← cOs args.toList
  match xs with
  | [x, y] => some (.mn x y)
  | _ => none
 | .call { callee := .builtin .max, args, argTypes := _ } => do
  let xs ← cOs args.toList
  match xs with
  | [x, y] => some (.mx x y)
  | _ => none
 | .convert src dst x => do let ti ← T dst; let tj ← T src; let x ← cO x; some (.conv ti.ik (ti.isStr && tj.isB) x)
 | .makeSlice t l c => do
  let ti ← T t
  let l ← cO l
  let c ← cO c
  let (_, bytes) ← ti.esz
  if ti.esz.map (·.1) = some ti.ez.length ∧ rowOk ti.ez = true then some (.mkSl bytes ti.ez l c) else none
 | .mapUpdate t m k v => do let ti ← T t; let m ← cO m; let k ← cO k; let v ← cO v; let p ← ti.kv; some (.mput p.1 m k v)
 | .insert t m k v => do let ti ← T t; let m ← cO m; let k ← cO k; let v ← cO v; let p ← ti.kv; some (.mput p.1 m k v)
 | .mapEntry t m k => do let ti ← T t; let m ← cO m; let k ← cO k; let p ← ti.kv; some (.ment p.1 p.2 m k)
 | .entryStore _ m s v => do let m ← cO m; let s ← cO s; let v ← cO v; some (.mst m s v)
 | .makeMap _ none => some .mkMap
 | .lookup t x k ok => do let ti ← T t; let x ← cO x; let k ← cO k; let p ← ti.kv; some (.mlook p.1 p.2 ok x k)
 | .makeInterface _ _ => some .bad
 | .panic _ => some .bad
 | _ => none
end Go.Ax
set_option linter.unusedVariables false
set_option linter.unusedSimpArgs false
namespace Go.Ax
theorem rdb {α β : Type} (x : Rd α) (f : α → Rd β) : (x >>= f) = x.bind f := rfl
theorem rdp {α : Type} (a : α) : (pure a : Rd α) = .ret a := rfl
theorem rdr {α β : Type} (a : α) (f : α → Rd β) : (Rd.ret a).bind f = f a := rfl
theorem cOs_head {l : List Operand} {xs : List Src} (h : cOs l = some xs) (v : V) : giveUp (l.headD (.global 0)) v = giveA (xs.headD (.v .any)) v := by
 cases l with
 | nil => simp [cOs] at h; subst h; rfl
 | cons a r =>
  simp only [cOs, Option.bind_eq_bind, Option.bind_eq_some_iff] at h
  obtain ⟨a', g1, l', g2, g3⟩ := h
  simp at g3
  subst g3
  exact cO_give g1 v
theorem cOs_len {l : List Operand} {xs : List Src} (h : cOs l = some xs) : xs.length = l.length := by
 induction l generalizing xs with
 | nil => simp [cOs] at h; subst h; rfl
 | cons a r ih =>
  simp only [cOs, Option.bind_eq_bind, Option.bind_eq_some_iff] at h
  obtain ⟨a', g1, l', g2, g3⟩ := h
  simp at g3
  subst g3
  simp [ih g2]
theorem cS_eq {T : Nat → Option TI} {M : Mode} {o : Oper} {k : AK} (h : cS T M o = some k) : opS T M o = evS o.dst k := by
 obtain ⟨dst, op, type, pos, after, guard⟩ := o
 cases op <;> simp only [cS, Option.bind_eq_bind, Option.bind_eq_some_iff] at h <;> try (simp at h; done)
 case makeInterface t x => injection h with h; subst h; rfl
 case panic x => injection h with h; subst h; rfl
 case move x =>
  obtain ⟨s, h1, h⟩ := h
  split at h
  ·rename_i hs
   injection h with h; subst h
   simp only [opS, evS, cO_eq h1, fixT_eq, hs, cO_give h1, if_true]
  ·rename_i hs
   injection h with h; subst h
   simp only [opS, evS, cO_eq h1, fixT_eq, hs, if_false]
   rfl
 case assign x =>
  obtain ⟨s, h1, h⟩ := h
  injection h with h; subst h
  simp only [opS, evS, cO_eq h1, fixT_eq, cO_give h1]
 case pick c a b =>
  obtain ⟨c', h1, a', h2, b', h3, h⟩ := h
  injection h with h; subst h
  simp only [opS, evS, cO_eq h1, cO_eq h2, cO_eq h3, mrg, cond_eq_ite]
  congr 1
 case alloc e =>
  obtain ⟨ti, h1, h⟩ := h
  injection h with h; subst h
  simp only [opS, evS, h1, rOpt, rdb, rdr]
  cases dst <;> rfl
 case box e x =>
  obtain ⟨ti, h1, s, h2, h⟩ := h
  injection h with h; subst h
  simp only [opS, evS, h1, rOpt, rdb, rdr, cO_eq h2]
  cases dst <;> rfl
 case build t parts =>
  obtain ⟨ti, h1, xs, h2, h⟩ := h
  split at h
  ·simp at h
  ·rename_i hs
   injection h with h; subst h
   simp at hs
   simp only [opS, evS, h1, rOpt, rdb, rdr, cOs_eq h2]
   simp [hs]
 case buildSlice t len parts =>
  obtain ⟨ti, h1, xs, h2, ⟨sz, b⟩, h3, h⟩ := h
  split at h
  ·rename_i hs
   split at h
   ·rename_i hm
    injection h with h; subst h
    have hl : xs.length = len := by
     have e1 := cOs_len h2
     have e2 := congrArg List.length hs.1
     simp at e1 e2
     omega
    simp only [opS, evS, h1, rOpt, rdb, rdr, cOs_eq h2, h3, hm, if_true, cOs_head h2, hl]
    cases dst with
    | none => simp at hm
    | some d => simp only [hs.1, hs.2, true_and]
   ·rename_i hm
    injection h with h; subst h
    simp only [opS, evS, h1, rOpt, rdb, rdr, cOs_eq h2, h3, hm, hs.1, hs.2, true_and]
    rfl
  ·simp at h
 case load t a =>
  obtain ⟨ti, h1, s, h2, h⟩ := h
  injection h with h; subst h
  simp only [opS, evS, h1, rOpt, rdb, rdr, cO_eq h2, getS_eq]
  rfl
 case store t a x =>
  obtain ⟨ti, h1, s, h2, y, h3, h⟩ := h
  injection h with h; subst h
  simp only [opS, evS, h1, rOpt, rdb, rdr, cO_eq h2, cO_eq h3, fixT_eq, cO_give h3]
  rfl
 case nilCheck x =>
  obtain ⟨s, h2, h⟩ := h
  injection h with h; subst h
  simp only [opS, evS, cO_eq h2]
  try rfl
 case binOp op t x y u =>
  obtain ⟨ti, h1, s, h2, y, h3, h⟩ := h
  injection h with h; subst h
  simp only [opS, evS, h1, rOpt, rdb, rdr, cO_eq h2, cO_eq h3]
 case unOp op t x =>
  obtain ⟨s, h2, h⟩ := h
  injection h with h; subst h
  simp only [opS, evS, cO_eq h2]
 case slice t x lo hi m =>
  cases m with
  | some m => simp at h
  | none =>
   simp only [Option.bind_eq_some_iff] at h
   obtain ⟨ti, h1, s, h2, l, h3, u, h4, h⟩ := h
   injection h with h; subst h
   simp only [opS, evS, h1, rOpt, rdb, rdr, cO_eq h2, cOO_eq h3, cOO_eq h4, sliceS_eq, cO_give h2]
   try rfl
 case fieldAddr t x f =>
  obtain ⟨ti, h1, s, h2, ⟨p, q⟩, h3, h⟩ := h
  injection h with h; subst h
  simp only [opS, evS, h1, rOpt, rdb, rdr, cO_eq h2, h3]
  try rfl
 case indexAddr t x i =>
  obtain ⟨ti, h1, s, h2, y, h3, h⟩ := h
  injection h with h; subst h
  simp only [opS, evS, h1, rOpt, rdb, rdr, cO_eq h2, cO_eq h3]
  try rfl
 case index t x i =>
  obtain ⟨ti, h1, s, h2, y, h3, h⟩ := h
  split at h
  ·rename_i hs
   injection h with h; subst h
   simp only [opS, evS, h1, rOpt, rdb, rdr, cO_eq h2, cO_eq h3, hs, if_true]
   try rfl
  ·simp at h
 case extract x i =>
  obtain ⟨s, h2, h⟩ := h
  injection h with h; subst h
  simp only [opS, evS, cO_eq h2]
  try rfl
 case call c =>
  obtain ⟨callee, args, argTypes⟩ := c
  rcases callee with f | ⟨r, m⟩ | b
  ·simp at h
  ·simp at h
  cases b <;> try (simp at h; done)
  case len =>
   simp only [Option.bind_eq_some_iff] at h
   obtain ⟨xs, h1, t, h2, ti, h3, h⟩ := h
   simp only [opS, evS, h2, h3, rOpt, rdb, rdr, cOs_eq h1]
   split at h
   ·rename_i x
    split at h
    ·rename_i hs
     split at h
     ·rename_i hn
      injection h with h; subst h
      simp at hn
      simp only [srcs, hs, hn, if_true, evS, rdb, rdp]
      cases x with
      | t n => simp only [Src.rd, Rd.bind]; congr 1; funext v; cases v <;> simp [V.elems, Rd.bind, rOpt, hn]
      | v v => simp only [Src.rd, Rd.bind]; cases v <;> simp [V.elems, Rd.bind, rOpt, hn]
     ·simp at h
    ·rename_i hs
     split at h
     ·rename_i hn
      injection h with h; subst h
      simp only [srcs, hs, hn, if_true, evS, rdb, rdp]
      cases x with
      | t n => simp only [Src.rd, Rd.bind]; congr 1; funext v; cases v <;> simp [V.elems, Rd.bind, rOpt]
      | v v => simp only [Src.rd, Rd.bind]; cases v <;> simp [V.elems, Rd.bind, rOpt]
     ·simp at h
   ·simp at h
  case append =>
   simp only [Option.bind_eq_some_iff] at h
   obtain ⟨xs, h1, t, h2, ti, h3, ⟨sz, by'⟩, h4, h⟩ := h
   simp only [opS, evS, h2, h3, h4, rOpt, rdb, rdr, cOs_eq h1]
   split at h
   ·rename_i x y
    split at h
    ·rename_i ha
     injection h with h; subst h
     have hg : args.getD 0 (.global 0) = args.toList.headD (.global 0) := by
      cases args with | mk l => cases l <;> rfl
     have hx : ∀ v, giveUp (args.getD 0 (.global 0)) v = giveA x v := by
      intro v
      rw [hg]
      cases hl : args.toList with
      | nil => rw [hl] at h1; simp [cOs] at h1
      | cons a r =>
       rw [hl] at h1
       simp only [cOs, Option.bind_eq_bind, Option.bind_eq_some_iff] at h1
       obtain ⟨a', g1, l', g2, g3⟩ := h1
       simp at g3
       exact g3.1 ▸ cO_give g1 v
     have he : eOf (some ti) = some sz := by simp [eOf, h4]
     simp only [srcs, evS, rdb, rdp, fixT_eq, he, ha, and_true, true_and, hx]
     rcases x with n | a <;> rcases y with n' | b <;> simp only [Src.rd, Rd.bind]
     ·congr 1; funext a; congr 1; funext b
      simp only [List.map, fixT_eq, he]
      cases fixE (some sz) a <;> rfl
     ·congr 1; funext a
      simp only [List.map, fixT_eq, he]
      cases fixE (some sz) a <;> rfl
     ·congr 1; funext b
      simp only [List.map, fixT_eq, he]
      cases fixE (some sz) a <;> rfl
     ·simp only [List.map, fixT_eq, he]
      cases fixE (some sz) a <;> rfl
    ·simp at h
   ·simp at h
  case clear =>
   simp only [Option.bind_eq_some_iff] at h
   obtain ⟨xs, h1, t, h2, ti, h3, h⟩ := h
   split at h
   ·rename_i x
    injection h with h; subst h
    simp only [opS, evS, h2, h3, rOpt, rdb, rdr, cOs_eq h1, srcs, rdp]
    rcases x with n | a <;> simp only [Src.rd, Rd.bind]
    ·congr 1; funext v; cases v <;> rfl
    ·cases a <;> rfl
   ·simp at h
  case min =>
   simp only [Option.bind_eq_some_iff] at h
   obtain ⟨xs, h1, h⟩ := h
   split at h
   ·rename_i x y
    injection h with h; subst h
    simp only [opS, evS, rOpt, rdb, rdr, cOs_eq h1, srcs, rdp]
    rcases x with n | a <;> rcases y with m | b <;> simp only [Src.rd, Rd.bind]
    ·congr 1; funext v; congr 1; funext u; cases v <;> cases u <;> rfl
    ·congr 1; funext v; cases v <;> cases b <;> rfl
    ·congr 1; funext u; cases a <;> cases u <;> rfl
    ·cases a <;> cases b <;> rfl
   ·simp at h
  case max =>
   simp only [Option.bind_eq_some_iff] at h
   obtain ⟨xs, h1, h⟩ := h
   split at h
   ·rename_i x y
    injection h with h; subst h
    simp only [opS, evS, rOpt, rdb, rdr, cOs_eq h1, srcs, rdp]
    rcases x with n | a <;> rcases y with m | b <;> simp only [Src.rd, Rd.bind]
    ·congr 1; funext v; congr 1; funext u; cases v <;> cases u <;> rfl
    ·congr 1; funext v; cases v <;> cases b <;> rfl
    ·congr 1; funext u; cases a <;> cases u <;> rfl
    ·cases a <;> cases b <;> rfl
   ·simp at h
  all_goals simp at h
 case convert src dst' x =>
  obtain ⟨ti, h1, tj, h2, s, h3, h⟩ := h
  injection h with h; subst h
  simp only [opS, evS, h1, h2, rOpt, rdb, rdr, cO_eq h3, Bool.and_eq_true, and_assoc]
  rfl
 case makeSlice t l c =>
  obtain ⟨ti, h1, s, h2, y, h3, ⟨sz, b⟩, h4, h⟩ := h
  split at h
  ·rename_i hs
   injection h with h; subst h
   simp only [opS, evS, h1, rOpt, rdb, rdr, cO_eq h2, cO_eq h3, h4]
   rw [h4] at hs
   cases dst with
   | none => rfl
   | some d => simp only [hs.1, hs.2, and_true]; rfl
  ·simp at h
 case mapUpdate t m k v =>
  obtain ⟨ti, h1, s, h2, y, h3, z, h4, p, h5, h⟩ := h
  injection h with h; subst h
  simp only [opS, mapPut, evS, h1, rOpt, rdb, rdr, cO_eq h2, cO_eq h3, cO_eq h4, h5]
  rfl
 case insert t m k v =>
  obtain ⟨ti, h1, s, h2, y, h3, z, h4, p, h5, h⟩ := h
  injection h with h; subst h
  simp only [opS, mapPut, evS, h1, rOpt, rdb, rdr, cO_eq h2, cO_eq h3, cO_eq h4, h5]
  rfl
 case mapEntry t m k =>
  obtain ⟨ti, h1, s, h2, y, h3, p, h5, h⟩ := h
  injection h with h; subst h
  simp only [opS, evS, h1, rOpt, rdb, rdr, cO_eq h2, cO_eq h3, h5]
  rfl
 case entryStore t m s v =>
  obtain ⟨s, h2, y, h3, z, h4, h⟩ := h
  injection h with h; subst h
  simp only [opS, evS, rdb, rdr, cO_eq h2, cO_eq h3, cO_eq h4]
  rfl
 case makeMap t r =>
  cases r with
  | none =>
   injection h with h; subst h
   simp only [opS, evS]
   try rfl
  | some r => simp at h
 case lookup t x k ok =>
  obtain ⟨ti, h1, s, h2, y, h3, p, h5, h⟩ := h
  injection h with h; subst h
  simp only [opS, evS, h1, rOpt, rdb, rdr, cO_eq h2, cO_eq h3, h5]
  rfl
end Go.Ax
set_option linter.unusedVariables false
set_option linter.unusedSimpArgs false
namespace Go.Ax
def AK.notCall : AK → Bool
 | .call .. => false
 | .callD .. => false
 | _ => true
def cB (T : Nat → Option TI) (M : Mode) (o : Oper) : Option AK :=
 match o.op with
 | .call { callee := .value f, args, argTypes } => do
  let xs ← cOs args.toList
  if xs.length = args.size then
   match f with
   | .func g => some (.call (argTypes.toList.map fun t => eOf (T t)) (gvOf M g args.toList) (M.nw g) g xs)
   | f => do let s ← cO f; some (.callD (argTypes.toList.map fun t => eOf (T t)) s xs)
  else none
 | _ => (cS T M o).bind fun k => if k.notCall then some k else none
theorem evA_not {d : Option Nat} {k : AK} (h : k.notCall = true) : evA d k = (do let .ws l ← evS d k; pure (.ws l)) := by
 cases k <;> first | rfl | simp [AK.notCall] at h
theorem zip_fix (T : Nat → Option TI) : ∀ (vs : List V) (ts : List Nat), vs.zipWith (fun v t => fixT (T t) v) ts = vs.zipWith (fun v e => fixE e v) (ts.map fun t => eOf (T t)) := by
 intro vs
 induction vs with
 | nil => intro ts; simp
 | cons v r ih => intro ts; cases ts with
  | nil => simp
  | cons t ts => rw [List.zipWith_cons_cons, List.map_cons, List.zipWith_cons_cons, ih, fixT_eq]
theorem cB_eq {T : Nat → Option TI} {M : Mode} {o : Oper} {k : AK} (h : cB T M o = some k) : opF T M o = evA o.dst k := by
 have other : (cS T M o).bind (fun k => if k.notCall then some k else none) = some k → (opS T M o >>= fun | .ws l => pure (.ws l)) = evA o.dst k := by
  intro h
  rw [Option.bind_eq_some_iff] at h
  obtain ⟨k', h1, h2⟩ := h
  split at h2
  ·rename_i hn
   injection h2 with h2
   subst h2
   rw [evA_not hn, cS_eq h1]
  ·simp at h2
 obtain ⟨dst, op, type, pos, after, guard⟩ := o
 cases op
 case call c =>
  obtain ⟨callee, args, argTypes⟩ := c
  rcases callee with f | ⟨r, m⟩ | b
  ·simp only [cB, Option.bind_eq_bind, Option.bind_eq_some_iff] at h
   obtain ⟨xs, h2, h⟩ := h
   split at h
   ·rename_i hl
    split at h
    ·rename_i g
     injection h with h; subst h
     simp only [opF, evA, cOs_eq h2, zip_fix, hl]
    ·rename_i hng
     simp only [Option.bind_eq_some_iff] at h
     obtain ⟨s, h1, h⟩ := h
     injection h with h; subst h
     cases f with
     | func g => exact absurd rfl (hng g)
     | tmp t => simp only [opF, evA, cOs_eq h2, zip_fix, hl, cO_eq h1]; rfl
     | const v => simp only [opF, evA, cOs_eq h2, zip_fix, hl, cO_eq h1]; rfl
     | global g => simp [cO] at h1
   ·simp at h
  ·exact other h
  ·exact other h
 all_goals exact other h

def cG (all : List Oper) (o : Oper) : Option (Option (Nat × Bool)) :=
 match o.guard with
 | none => some none
 | some (j, b) => match (all[j]?).bind (·.dst) with
  | some t => some (some (t, b))
  | none => none
def cOps (T : Nat → Option TI) (M : Mode) (all : List Oper) : List Oper → Option (List AO)
 | [] => some []
 | o :: r => do let k ← cB T M o; let g ← cG all o; let l ← cOps T M all r; some (⟨g, o.dst, k⟩ :: l)

/-! #### running it -/
def Src.val (st : St) : Src → V
 | .t n => st.tm n
 | .v x => x
def Fin (Q : St → Prop) (st : St) : Prop := Q st
def br (x : Bool) (A B : Prop) : Prop := (x = true → A) ∧ (x = false → B)
def CallA (C : Orc) (f : FuncId) (args : List V) (objs : List Ob) (nw : Nat) (K : V → List Ob → List Ob → Prop) : Prop := ∃ r objs' news, C f args objs r objs' news ∧ news.length ≤ nw ∧ K r objs' news
def brV (v : V) (b : Bool) (A B : Prop) : Prop :=
 match v with
 | .bool x => if b then br x A B else br x B A
 | .tup [] => B
 | _ => False
mutual
def runA (C : Orc) (h : Hint) : List AO → St → (St → Prop) → Prop
 | [], st, Q => Fin Q (restrict h st)
 | ⟨none, d, k⟩ :: r, st, Q => resK C h r st Q ((evA d k).run st)
 | ⟨some (t, b), d, k⟩ :: r, st, Q => brV (st.tm t) b (resK C h r st Q ((evA d k).run st)) (runA C h r (st.app (out d (.tup []))) Q)
def resK (C : Orc) (h : Hint) (r : List AO) (st : St) (Q : St → Prop) : Option Res → Prop
 | some (.ws l) => runA C h r (st.app l) Q
 | some (.call f args objs nw w) => CallA C f args objs nw fun v os ns => runA C h r (st.app (back w v os ns)) Q
 | none => False
end
def FinD (h : Hint) (fs : List Foot) (n : Nat) (ps : List (Nat × Nat)) (Q : St → Prop) (st : St) : Prop :=
 (fs.length = n ∧ (ps.all fun p => !((fs.getD p.1 ⟨[], []⟩).clash (fs.getD p.2 ⟨[], []⟩))) = true) ∧ Fin Q (restrict h st)
mutual
def runB (C : Orc) (h : Hint) (n : Nat) (ps : List (Nat × Nat)) : List AO → St → List Foot → (St → Prop) → Prop
 | [], st, fs, Q => FinD h fs n ps Q st
 | ⟨none, d, k⟩ :: r, st, fs, Q => resB C h n ps r st fs Q ((evA d k).reads st) ((evA d k).run st)
 | ⟨some (t, b), d, k⟩ :: r, st, fs, Q => brV (st.tm t) b (resB C h n ps r st fs Q (.t t :: (evA d k).reads st) ((evA d k).run st))
  (runB C h n ps r (st.app (out d (.tup []))) (fs ++ [⟨[.t t], (out d (.tup [])).map Wr.wh⟩]) Q)
def resB (C : Orc) (h : Hint) (n : Nat) (ps : List (Nat × Nat)) (r : List AO) (st : St) (fs : List Foot) (Q : St → Prop) (rs : List Wh) : Option Res → Prop
 | some (.ws l) => runB C h n ps r (st.app l) (fs ++ [⟨rs, l.map Wr.wh⟩]) Q
 | some (.call f args objs nw w) => CallA C f args objs nw fun v os ns => runB C h n ps r (st.app (back w v os ns)) (fs ++ [⟨rs, (back w v os ns).map Wr.wh⟩]) Q
 | none => False
end

theorem wantedA_run {all : List Oper} {o : Oper} {g : Option (Nat × Bool)} (h : cG all o = some g) (st : St) :
  (wanted all o).run st = match g with | none => some (some true) | some (t, b) => match st.tm t with | .bool x => some (some (x == b)) | .tup [] => some (some false) | _ => some none := by
 unfold cG at h
 unfold wanted
 cases hg : o.guard with
 | none => rw [hg] at h; simp at h; subst h; rfl
 | some jb =>
  obtain ⟨j, b⟩ := jb
  rw [hg] at h
  simp only at h ⊢
  cases hj : (all[j]?).bind (·.dst) with
  | none => rw [hj] at h; simp at h
  | some t =>
   rw [hj] at h
   simp at h
   subst h
   simp only [Rd.run]
   cases st.tm t with
   | tup vs => cases vs <;> rfl
   | _ => rfl
theorem wantedA_reads {all : List Oper} {o : Oper} {g : Option (Nat × Bool)} (h : cG all o = some g) (st : St) :
  (wanted all o).reads st = match g with | none => [] | some (t, b) => [.t t] := by
 unfold cG at h
 unfold wanted
 cases hg : o.guard with
 | none => rw [hg] at h; simp at h; subst h; rfl
 | some jb =>
  obtain ⟨j, b⟩ := jb
  rw [hg] at h
  simp only at h ⊢
  cases hj : (all[j]?).bind (·.dst) with
  | none => rw [hj] at h; simp at h
  | some t =>
   rw [hj] at h
   simp at h
   subst h
   simp only [Rd.reads]
   cases st.tm t with
   | tup vs => cases vs <;> rfl
   | _ => rfl
theorem runA_mono {C : Orc} {h : Hint} {Q Q' : St → Prop} : ∀ (l : List AO) {st : St}, (∀ st, Q st → Q' st) → runA C h l st Q → runA C h l st Q' := by
 intro l
 induction l with
 | nil => intro st hq hr; simp only [runA] at hr ⊢; exact hq _ hr
 | cons o r ih =>
  intro st hq hr
  have step : ∀ x, resK C h r st Q x → resK C h r st Q' x := by
   intro x
   rcases x with _ | (l | ⟨f, args, objs, nw, w⟩)
   ·intro h; simp [resK] at h
   ·intro h; simp only [resK] at h ⊢; exact ih hq h
   ·intro h
    simp only [resK, CallA] at h ⊢
    obtain ⟨a, b, c, h1, h0, h2⟩ := h
    exact ⟨a, b, c, h1, h0, ih hq h2⟩
  obtain ⟨g, d, k⟩ := o
  rcases g with _ | ⟨t, b⟩
  ·simp only [runA] at hr ⊢; exact step _ hr
  ·simp only [runA] at hr ⊢
   cases htm : st.tm t <;> rw [htm] at hr <;> simp only [brV] at hr ⊢
   rotate_left
   ·rename_i vs
    cases vs with
    | nil => exact ih hq hr
    | cons _ _ => exact hr
   cases b
   ·exact ⟨fun hx => ih hq (hr.1 hx), fun hx => step _ (hr.2 hx)⟩
   ·exact ⟨fun hx => step _ (hr.1 hx), fun hx => ih hq (hr.2 hx)⟩
theorem runA_sound {C : Orc} {T : Nat → Option TI} {M : Mode} {all : List Oper} {h : Hint} {Q : St → Prop} : ∀ (ops : List Oper) {l : List AO} {st : St}, cOps T M all ops = some l →
  runA C h l st Q → runOps C T M all ops st fun st => Q (restrict h st) := by
 intro ops
 induction ops with
 | nil => intro l st hl hr; simp [cOps] at hl; subst hl; simpa [runA, runOps, Fin] using hr
 | cons o r ih =>
  intro l st hl hr
  simp only [cOps, Option.bind_eq_bind, Option.bind_eq_some_iff] at hl
  obtain ⟨k, h1, g, h2, l', h3, hl⟩ := hl
  injection hl with hl
  subst hl
  have step : resK C h l' st Q ((evA o.dst k).run st) → (match (opF T M o).run st with
    | some (.ws l) => runOps C T M all r (st.app l) fun st => Q (restrict h st)
    | some (.call f args objs nw w) => ∃ r' objs' news, C f args objs r' objs' news ∧ news.length ≤ nw ∧ runOps C T M all r (st.app (back w r' objs' news)) fun st => Q (restrict h st)
    | none => False) := by
   rw [cB_eq h1]
   cases (evA o.dst k).run st with
   | none => intro h; simp [resK] at h
   | some x => cases x with
    | ws l => intro h; simp only [resK] at h; exact ih h3 h
    | call f args objs nw w =>
     intro h
     simp only [resK, CallA] at h
     obtain ⟨a, b, c, h4, h0, h5⟩ := h
     exact ⟨a, b, c, h4, h0, ih h3 h5⟩
  unfold runOps
  rw [wantedA_run h2]
  cases g with
  | none => simp only [runA] at hr; exact step hr
  | some tb =>
   obtain ⟨t, b⟩ := tb
   simp only [runA] at hr
   cases htm : st.tm t <;> rw [htm] at hr <;> simp only [brV] at hr
   rotate_left
   ·rename_i vs
    cases vs with
    | nil => simp [htm]; exact ih h3 hr
    | cons _ _ => exact hr.elim
   rename_i x
   cases b <;> cases x <;> simp [br, htm] at hr ⊢
   ·exact step hr
   ·exact ih h3 hr
   ·exact ih h3 hr
   ·exact step hr
end Go.Ax
set_option linter.unusedVariables false
set_option linter.unusedSimpArgs false
namespace Go.Ax
theorem runB_sound {C : Orc} {T : Nat → Option TI} {M : Mode} {all : List Oper} {h : Hint} {n : Nat} {ps : List (Nat × Nat)} {Q : List Foot → St → Prop} {Q' : St → Prop}
  (hQ : ∀ fs st, FinD h fs n ps Q' st → Q fs st) : ∀ (ops : List Oper) {l : List AO} {st : St} {fs : List Foot}, cOps T M all ops = some l →
  runB C h n ps l st fs Q' → runD C T M all ops st fs Q := by
 intro ops
 induction ops with
 | nil => intro l st fs hl hr; simp [cOps] at hl; subst hl; simp only [runB] at hr; exact hQ _ _ hr
 | cons o r ih =>
  intro l st fs hl hr
  simp only [cOps, Option.bind_eq_bind, Option.bind_eq_some_iff] at hl
  obtain ⟨k, h1, g, h2, l', h3, hl⟩ := hl
  injection hl with hl
  subst hl
  have step : ∀ rs, resB C h n ps l' st fs Q' rs ((evA o.dst k).run st) → (match (opF T M o).run st with
    | some (.ws l) => runD C T M all r (st.app l) (fs ++ [⟨rs, l.map Wr.wh⟩]) Q
    | some (.call f args objs nw w) => ∃ r' objs' news, C f args objs r' objs' news ∧ news.length ≤ nw ∧ runD C T M all r (st.app (back w r' objs' news))
     (fs ++ [⟨rs, (back w r' objs' news).map Wr.wh⟩]) Q
    | none => False) := by
   intro rs
   rw [cB_eq h1]
   cases (evA o.dst k).run st with
   | none => intro h; simp [resB] at h
   | some x => cases x with
    | ws l => intro h; simp only [resB] at h; exact ih h3 h
    | call f args objs nw w =>
     intro h
     simp only [resB, CallA] at h
     obtain ⟨a, b, c, h4, h0, h5⟩ := h
     exact ⟨a, b, c, h4, h0, ih h3 h5⟩
  unfold runD
  rw [wantedA_run h2, wantedA_reads h2]
  cases g with
  | none =>
   simp only [runB] at hr
   have := step _ hr
   rw [cB_eq h1] at this ⊢
   exact this
  | some tb =>
   obtain ⟨t, b⟩ := tb
   simp only [runB] at hr
   cases htm : st.tm t <;> rw [htm] at hr <;> simp only [brV] at hr
   rotate_left
   ·rename_i vs
    cases vs with
    | nil => simp [htm]; exact ih h3 hr
    | cons _ _ => exact hr.elim
   rename_i x
   cases b <;> cases x <;> simp [br, htm] at hr ⊢
   ·have := step _ hr; rw [cB_eq h1] at this ⊢; exact this
   ·exact ih h3 hr
   ·exact ih h3 hr
   ·have := step _ hr; rw [cB_eq h1] at this ⊢; exact this

/-- The part of the order that no state enters. -/
def orderSt (ops : List Oper) : Bool :=
 let cl := clos ops
 (ops.zipIdx).all fun x =>
  (binding x.1).all (fun e => decide (e < x.2)) &&
  (cl.getD x.2 []).all (fun c => (binding x.1).any fun e => c == e || (cl.getD e []).contains c)
def pairsOf (M : Mode) (ops : List Oper) : List (Nat × Nat) :=
 let cl := clos ops
 (List.range ops.length).flatMap fun x => ((List.range x).filter fun c => !(cl.getD x []).contains c && !freeAt M ops c x).map fun c => (c, x)
theorem order_of {M : Mode} {ops : List Oper} {fs : List Foot} (h1 : orderSt ops = true) (h2 : fs.length = ops.length)
  (h3 : ((pairsOf M ops).all fun p => !((fs.getD p.1 ⟨[], []⟩).clash (fs.getD p.2 ⟨[], []⟩))) = true) : orderOk M ops fs = true := by
 unfold orderOk
 simp only [Bool.and_eq_true, h2, beq_self_eq_true, true_and]
 rw [List.all_eq_true]
 intro x hx
 have g1 := List.all_eq_true.1 h1 x hx
 simp only [Bool.and_eq_true] at g1 ⊢
 refine ⟨⟨g1.1, g1.2⟩, ?_⟩
 rw [List.all_eq_true]
 intro c hc
 have hlt : c < x.2 := List.mem_range.1 hc
 have hxl : x.2 < ops.length := by
  have := List.mem_zipIdx hx
  omega
 by_cases hcc : ((clos ops).getD x.2 []).contains c = true
 ·rw [hcc]; simp
 ·by_cases hfr : freeAt M ops c x.2 = true
  ·rw [hfr]; simp
  have : (c, x.2) ∈ pairsOf M ops := by
   simp only [pairsOf, List.mem_flatMap, List.mem_range, List.mem_map, List.mem_filter]
   exact ⟨x.2, hxl, c, ⟨hlt, by simp only [Bool.and_eq_true, Bool.not_eq_true']; exact ⟨by simpa using hcc, by simpa using hfr⟩⟩, rfl⟩
  have := List.all_eq_true.1 h3 _ this
  simp only at this
  rw [this]; rfl

def cCode (T : Nat → Option TI) (p : Opt) (hint : Nat → Hint) : Code → Option AC
 | .skip => some .skip
 | .ret => some .ret
 | .exit id => some (.exit id)
 | .seq a b => do let a ← cCode T p hint a; let b ← cCode T p hint b; some (.seq a b)
 | .cond x a b => do let x ← cO x; let a ← cCode T p hint a; let b ← cCode T p hint b; some (.cond x a b)
 | .block id a => do let a ← cCode T p hint a; some (.block id a)
 | .loop a => do let h := hint (2 * (firstReg a).getD 0 + 1); let a ← cCode T p hint a; some (.loop h a)
 | .region id ops false => do let l ← cOps T (modeOf ops.toList p) ops.toList ops.toList; some (.reg (hint (2 * id)) l)
 | .region id ops true => do
  let l ← cOps T (modeOf ops.toList p) ops.toList ops.toList
  if orderSt ops.toList then some (.regD (hint (2 * id)) (pairsOf (modeOf ops.toList p) ops.toList) l) else none
 | _ => none

def condV (v : V) (A B : Prop) : Prop :=
 match v with
 | .bool x => br x A B
 | _ => False
/-- What follows a part of the code. -/
def nextA (K : St → Prop) (Q : X → St → Prop) : X → St → Prop
 | .normal, st => K st
 | e, st => Q e st
def leaveA (id : Nat) (Q : X → St → Prop) : X → St → Prop
 | .exit i, st => if i = id then Q .normal st else Q (.exit i) st
 | e, st => Q e st
def acwp (C : Orc) : AC → St → (X → St → Prop) → Prop
 | .skip, st, Q => Q .normal st
 | .ret, st, Q => Q .ret st
 | .exit id, st, Q => Q (.exit id) st
 | .seq a b, st, Q => acwp C a st (nextA (fun st => acwp C b st Q) Q)
 | .cond x a b, st, Q => condV (x.val st) (acwp C a st Q) (acwp C b st Q)
 | .block id a, st, Q => acwp C a st (leaveA id Q)
 | .loop h a, st, Q => ∃ n, iter (fun st Q => acwp C a (restrict h st) Q) Q n st
 | .reg h ops, st, Q => runA C h ops st (Q .normal)
 | .regD h ps ops, st, Q => runB C h ops.length ps ops st [] (Q .normal)
theorem cOps_len {T : Nat → Option TI} {M : Mode} {all : List Oper} : ∀ (ops : List Oper) {l : List AO}, cOps T M all ops = some l → l.length = ops.length := by
 intro ops
 induction ops with
 | nil => intro l h; simp [cOps] at h; subst h; rfl
 | cons o r ih =>
  intro l hl
  simp only [cOps, Option.bind_eq_bind, Option.bind_eq_some_iff] at hl
  obtain ⟨k, h1, g, h2, l', h3, hl⟩ := hl
  injection hl with hl
  subst hl
  simp [ih h3]
theorem ev_val {x : Operand} {s : Src} (h : cO x = some s) (st : St) : (ev x).run st = some (s.val st) := by
 cases x <;> simp [cO] at h <;> subst h <;> rfl
theorem acwp_sound {C : Orc} {T : Nat → Option TI} {p : Opt} {hint : Nat → Hint} : ∀ (c : Code) {a : AC} {st : St} {Q Q' : X → St → Prop}, cCode T p hint c = some a →
  (∀ e st, Q e st → Q' e st) → acwp C a st Q → awp ⟨C, T, hint, p⟩ c st Q' := by
 intro c
 induction c with
 | skip => intro a st Q Q' h hq hr; simp [cCode] at h; subst h; exact hq _ _ hr
 | ret => intro a st Q Q' h hq hr; simp [cCode] at h; subst h; exact hq _ _ hr
 | exit id => intro a st Q Q' h hq hr; simp [cCode] at h; subst h; exact hq _ _ hr
 | seq a b iha ihb =>
  intro a' st Q Q' h hq hr
  simp only [cCode, Option.bind_eq_bind, Option.bind_eq_some_iff] at h
  obtain ⟨x, h1, y, h2, h⟩ := h
  injection h with h; subst h
  simp only [acwp] at hr
  simp only [awp]
  refine iha h1 (fun e st he => ?_) hr
  cases e with
  | normal => exact ihb h2 hq he
  | ret => exact hq _ _ he
  | exit i => exact hq _ _ he
 | cond v a b iha ihb =>
  intro a' st Q Q' h hq hr
  simp only [cCode, Option.bind_eq_bind, Option.bind_eq_some_iff] at h
  obtain ⟨s, h0, x, h1, y, h2, h⟩ := h
  injection h with h; subst h
  simp only [acwp] at hr
  simp only [awp, ev_val h0]
  cases hv : s.val st <;> rw [hv] at hr <;> simp only [condV] at hr
  rename_i t
  cases t
  ·exact ihb h2 hq (hr.2 rfl)
  ·exact iha h1 hq (hr.1 rfl)
 | block id a iha =>
  intro a' st Q Q' h hq hr
  simp only [cCode, Option.bind_eq_bind, Option.bind_eq_some_iff] at h
  obtain ⟨x, h1, h⟩ := h
  injection h with h; subst h
  simp only [acwp] at hr
  simp only [awp]
  refine iha h1 (fun e st he => ?_) hr
  cases e with
  | normal => exact hq _ _ he
  | ret => exact hq _ _ he
  | exit i =>
   simp only [leaveA] at he ⊢
   split at he <;> rename_i hi
   ·rw [if_pos hi]; exact hq _ _ he
   ·rw [if_neg hi]; exact hq _ _ he
 | loop a iha =>
  intro a' st Q Q' h hq hr
  simp only [cCode, Option.bind_eq_bind, Option.bind_eq_some_iff] at h
  obtain ⟨x, h1, h⟩ := h
  injection h with h; subst h
  simp only [acwp] at hr
  obtain ⟨n, hn⟩ := hr
  simp only [awp]
  refine ⟨n, ?_⟩
  induction n generalizing st with
  | zero => exact hn.elim
  | succ n ih =>
   simp only [iter] at hn ⊢
   refine iha h1 (fun e st he => ?_) hn
   cases e with
   | normal => exact ih he
   | ret => exact hq _ _ he
   | exit i => exact hq _ _ he
 | region id ops draw =>
  intro a' st Q Q' h hq hr
  cases draw with
  | false =>
   simp only [cCode, Option.bind_eq_bind, Option.bind_eq_some_iff] at h
   obtain ⟨l, h1, h⟩ := h
   injection h with h; subst h
   simp only [acwp] at hr
   simp only [awp]
   have := runA_sound (Q := Q' .normal) _ h1 (runA_mono _ (fun st => hq .normal st) hr)
   exact this
  | true =>
   simp only [cCode, Option.bind_eq_bind, Option.bind_eq_some_iff] at h
   obtain ⟨l, h1, h⟩ := h
   split at h
   ·rename_i ho
    injection h with h; subst h
    simp only [acwp] at hr
    simp only [awp]
    refine runB_sound (fun fs st hf => ?_) _ h1 hr
    obtain ⟨⟨g1, g2⟩, g3⟩ := hf
    exact ⟨order_of ho (by rw [g1, cOps_len _ h1]) g2, hq _ _ g3⟩
   ·simp at h
 | _ => intro a' st Q Q' h; simp [cCode] at h
end Go.Ax
