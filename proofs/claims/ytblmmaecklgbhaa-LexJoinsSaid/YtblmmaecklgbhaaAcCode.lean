/- A part of the proof of a law of this seat: no condition. -/
import Derived.Test.YtblmmaecklgbhaaAxTab
set_option linter.unusedVariables false
set_option linter.unusedSimpArgs false
namespace Go.Ax
/-! ### the code made short: types looked up, constants read -/
inductive Src where
  | t (n : Nat)
  | v (x : V)
inductive AK where
  | mv (e : Option Nat) (x : Src)
  | mvS (e : Option Nat) (x : Src)
  | pick (c a b : Src)
  | alloc (z : List V)
  | box (n : Nat) (x : Src)
  | build (flds : List (Nat × Nat)) (zero : List V) (is : List Nat) (xs : List Src)
  | buildSl (sz : Nat) (xs : List Src)
  | buildMu (sz : Nat) (ez : List V) (xs : List Src)
  | load (agg : Option Nat) (s : Bool) (a : Src)
  | store (n : Nat) (e : Option Nat) (a x : Src)
  | nilc (x : Src)
  | bin (isB : List Nat) (op : BinOp) (a b : Src)
  | un (op : UnOp) (a : Src)
  | slc (isStr : Bool) (sz : Option Nat) (s : Bool) (x : Src) (lo hi : Option Src)
  | fa (off : Nat) (x : Src)
  | ia (sz : Option Nat) (arr : Option (Nat × Nat)) (x i : Src)
  | ix (x i : Src)
  | ext (x : Src) (i : Nat)
  | lenStr (x : Src)
  | lenSl (x : Src)
  | app (sz bytes : Nat) (x y : Src)
  | conv (ik : Option IntKind) (isB : Bool) (x : Src)
  | mkSl (bytes : Nat) (ez : List V) (l c : Src)
  | mput (kd : Nat) (m k v : Src)
  | ment (kd : Nat) (z : V) (m k : Src)
  | mst (m s v : Src)
  | mkMap
  | appS (bytes : Nat) (x y : Src)
  | mlook (kd : Nat) (z : V) (ok : Bool) (m k : Src)
  | clr (x : Src)
  | mn (x y : Src)
  | mx (x y : Src)
  | call (es : List (Option Nat)) (gv : Option (Nat × Nat)) (nw : Nat) (f : FuncId) (args : List Src)
  | callD (es : List (Option Nat)) (f : Src) (args : List Src)
structure AO where
  g : Option (Nat × Bool)
  d : Option Nat
  k : AK
inductive AC where
  | skip
  | ret
  | exit (id : Nat)
  | seq (a b : AC)
  | cond (x : Src) (a b : AC)
  | block (id : Nat) (a : AC)
  | loop (h : Hint) (a : AC)
  | reg (h : Hint) (ops : List AO)
  | regD (h : Hint) (ps : List (Nat × Nat)) (ops : List AO)

/-- One of two, by a test. -/
def mrg {α : Type} (x : Bool) (a b : α) : α := bif x then a else b
def Src.rd : Src → Rd V
  | .t n => .tm n .ret
  | .v x => .ret x
def srcs : List Src → Rd (List V)
  | [] => .ret []
  | x :: r => do let v ← x.rd; let vs ← srcs r; pure (v :: vs)
def srcO : Option Src → Rd (Option V)
  | none => .ret none
  | some x => do let v ← x.rd; pure (some v)
def fixE : Option Nat → V → V
  | some n, .nils => .own n []
  | _, v => v
def eOf (ti : Option TI) : Option Nat := (ti.bind (·.esz)).map (·.1)
theorem fixT_eq (ti : Option TI) (v : V) : fixT ti v = fixE (eOf ti) v := by
  unfold fixT eOf
  cases v <;> first | rfl | skip
  rotate_left
  all_goals (cases ti.bind (·.esz) with
    | none => rfl
    | some x => obtain ⟨n, m⟩ := x; rfl)
def giveA (x : Src) (v : V) : List Wr :=
  match x with
  | .t t => if v.isOwn then [.t t v.weak] else []
  | .v _ => []
def getA (agg : Option Nat) (cs : List V) (off : Nat) : Option V :=
  match agg with
  | some n => if off + n ≤ cs.length then some (.agg ((cs.drop off).take n)) else none
  | none => cs[off]?
def sliceA (isStr : Bool) (esz : Option Nat) (x : V) (lo hi : Option V) : Option V :=
  match x with
  | .str s => match bndS 0 lo, bndS s.length hi with
    | some l, some h => if 0 ≤ l ∧ l ≤ h ∧ h ≤ s.length ∧ isStr = true then some (.str ((s.take h.toNat).drop l.toNat)) else none
    | _, _ => none
  | x => match x.elems with
    | some (sz, xs) => match bndS 0 lo, bndS xs.length hi with
      | some l, some h => if 0 ≤ l ∧ l ≤ h ∧ h ≤ xs.length ∧ esz = some sz then some (.slice sz ((xs.take h.toNat).drop l.toNat)) else none
      | _, _ => none
    | none => none

def evS (d : Option Nat) : AK → Rd Ws
  | .mv e x => do let v ← x.rd; pure (.ws (out d (fixE e v).weak))
  | .mvS e x => do let v ← x.rd; let v := fixE e v; pure (.ws (giveA x v ++ out d v))
  | .pick c a b => do
    let c ← c.rd
    match c with
    | .bool c => do
      let a ← a.rd
      let b ← b.rd
      pure (.ws (out d (mrg c a.weak b.weak)))
    | _ => .fail
  | .alloc z => match d with
    | some d => do
      fresh (newNs d z)
      pure (.ws (newObW d z))
    | none => .fail
  | .box n x => match d with
    | some d => do
      let v ← x.rd
      fresh (newNs d v.weak.scells)
      if v.weak.scells.length = n ∧ v.storable = true then pure (.ws (newObW d v.weak.scells)) else .fail
    | none => .fail
  | .build flds zero is xs => do
    let vs ← srcs xs
    let cs ← rOpt (buildS flds zero (is.zip vs))
    pure (.ws (out d (.agg (cs.map V.weak1))))
  | .buildSl sz xs => do
    let vs ← srcs xs
    if vs.all (fun v => v.cells.length == sz && v.pure) = true then pure (.ws (out d (.own sz (vs.map V.weak)))) else .fail
  | .buildMu sz ez xs => match d with
    | some d => do
      let vs ← srcs xs
      let vs := vs.map (fixZ ez)
      fresh [.loc d]
      if vs.all (fun v => v.cells.length == sz && v.pure) = true ∧ (xs.length = 1 ∨ noOwn vs = true) then
        pure (.ws (giveA (xs.headD (.v .any)) (vs.headD .any) ++ [.o (.loc d) (.cells true (vs.flatMap V.scells)), .t d (.sl sz (.loc d) xs.length)]))
      else .fail
    | none => .fail
  | .load agg s a => do
    let a ← a.rd
    match a with
    | .eptr cs off => do
      let v ← rOpt (getA agg cs off)
      pure (.ws (out d v.weak))
    | .ref u off => do
      .ob u fun
      | some (.cells row cs) => do
        let v ← rOpt (getA agg cs off)
        if s && v.isOwn then pure (.ws (.o u (.cells row (cs.set off v.weak)) :: out d v)) else pure (.ws (out d v.weak))
      | _ => .fail
    | _ => .fail
  | .store n e a x => do
    let a ← a.rd
    let v ← x.rd
    match a with
    | .ref u off =>
      .ob u fun
      | some (.cells row cs) => match nilSl row cs off v with
        | some (sz, q) => do
          fresh [.alt q]
          .ob q fun
          | some _ => if n = 1 ∧ d.isNone = true ∧ u ≠ q then pure (.ws [.o q .dead, .o (.alt q) (.cells true []), .o u (.cells row (cs.set off (.sl sz (.alt q) 0)))]) else .fail
          | none => .fail
        | none =>
          let v := fixE e v
          if v.scells.length = n ∧ off + v.scells.length ≤ cs.length ∧ d.isNone = true ∧ v.storable = true ∧ (row = false ∨ rowOk v.scells = true) then
            .ret (.ws (giveA x v ++ [.o u (.cells row (setAll cs off v.scells))]))
          else .fail
      | _ => .fail
    | _ => .fail
  | .nilc x => do
    let v ← x.rd
    match v with
    | .ref u off => pure (.ws (out d (.ref u off)))
    | .eptr cs off => pure (.ws (out d (.eptr cs off)))
    | _ => .fail
  | .bin isB op x y => do
    let a ← x.rd
    let b ← y.rd
    let v ← rOpt (binS isB op a b)
    pure (.ws (out d v))
  | .un op x => do
    let a ← x.rd
    let v ← rOpt (unS op a)
    pure (.ws (out d v))
  | .slc isStr esz s x lo hi => do
    let a ← x.rd
    let l ← srcO lo
    let h ← srcO hi
    match a with
    | .sl sz u n => match bndS 0 l, bndS n h with
      | some l, some h => if l = 0 ∧ 0 ≤ h ∧ h ≤ n ∧ esz = some sz then pure (.ws (out d (.sl sz u h.toNat))) else .fail
      | _, _ => .fail
    | a => do
      let v ← rOpt (sliceA isStr esz a l h)
      match s, a with
      | true, .own sz xs => match bndS 0 l, bndS xs.length h with
        | some l, some h => if h = xs.length then pure (.ws (giveA x (.own sz xs) ++ out d (.own sz (xs.drop l.toNat)))) else .fail
        | _, _ => .fail
      | _, _ => pure (.ws (out d v))
  | .fa off x => do
    let a ← x.rd
    match a with
    | .ref u o' => pure (.ws (out d (.ref u (o' + off))))
    | .eptr cs o' => pure (.ws (out d (.eptr cs (o' + off))))
    | _ => .fail
  | .ia esz arr x i => do
    let a ← x.rd
    let i ← i.rd
    match a, i with
    | .sl sz u n, .int _ i => if 0 ≤ i ∧ i < n ∧ esz = some sz then pure (.ws (out d (.ref u (i.toNat * sz)))) else .fail
    | .ref u off, .int _ i => match arr with
      | some (len, sz) => if 0 ≤ i ∧ i < len then pure (.ws (out d (.ref u (off + i.toNat * sz)))) else .fail
      | none => .fail
    | .eptr cs off, .int _ i => match arr with
      | some (len, sz) => if 0 ≤ i ∧ i < len then pure (.ws (out d (.eptr cs (off + i.toNat * sz)))) else .fail
      | none => .fail
    | a, i => match a.elems, i with
      | some (sz, xs), .int _ i => do
        let x ← rOpt (idx xs i)
        if esz = some sz then pure (.ws (out d (.eptr x.cells 0))) else .fail
      | _, _ => .fail
  | .ix x i => do
    let a ← x.rd
    let i ← i.rd
    match a, i with
    | .str s, .int _ i => do
      let b ← rOpt (idxB s i)
      pure (.ws (out d (.int .u8 b.toNat)))
    | _, _ => .fail
  | .ext x i => do
    let a ← x.rd
    match a with
    | .tup vs => do
      let v ← rOpt vs[i]?
      pure (.ws (out d v.weak))
    | _ => .fail
  | .lenStr x => do
    let v ← x.rd
    match v with
    | .str s => pure (.ws (out d (.int .i64 s.length)))
    | _ => .fail
  | .lenSl x => do
    let v ← x.rd
    match v with
    | .str _ => .fail
    | .sl _ _ n => pure (.ws (out d (.int .i64 n)))
    | v => do
      let (_, xs) ← rOpt v.elems
      pure (.ws (out d (.int .i64 xs.length)))
  | .app sz bytes x y => do
    let a ← x.rd
    let b ← y.rd
    match fixE (some sz) a, fixE (some sz) b with
    | .own s xs, y => do
      let (s', ys) ← rOpt y.elems
      if s = sz ∧ s' = sz ∧ (xs.length + ys.length) * bytes ≤ 140737488355328 then
        pure (.ws (giveA x (.own s xs) ++ out d (.own sz (xs ++ ys))))
      else .fail
    | .sl s u n, y =>
      .ob u fun
      | some (.cells true cs) => do
        fresh [.alt u]
        match y with
        | .sl s' u' m =>
          .ob u' fun
          | some (.cells true ds) =>
            if s = sz ∧ s' = sz ∧ n * sz ≤ cs.length ∧ m * sz ≤ ds.length ∧ (n + m) * bytes ≤ 140737488355328 ∧ u ≠ u' ∧ (noOwn (ds.take (m * sz)) = true ∨ m * sz = 1) then
              .ret (.ws ((if noOwn (ds.take (m * sz)) then [] else [.o u' .dead]) ++ [.o u .dead, .o (.alt u) (.cells true (cs.take (n * sz) ++ ds.take (m * sz)))] ++ out d (.sl sz (.alt u) (n + m))))
            else .fail
          | _ => .fail
        | y => do
          let (s', ys) ← rOpt y.elems
          if s = sz ∧ s' = sz ∧ n * sz ≤ cs.length ∧ (n + ys.length) * bytes ≤ 140737488355328 then
            pure (.ws ([.o u .dead, .o (.alt u) (.cells true (cs.take (n * sz) ++ ys.flatMap V.cells))] ++ out d (.sl sz (.alt u) (n + ys.length))))
          else .fail
      | _ => .fail
    | _, _ => .fail
  | .conv ik isB x => do
    let v ← x.rd
    match v with
    | .int _ n => do
      let k ← rOpt ik
      pure (.ws (out d (.int k (k.wrap n))))
    | .sl _ u n =>
      .ob u fun
      | some (.cells true cs) => do
        let s ← rOpt (bytesOf (cs.take n))
        if isB = true ∧ n ≤ cs.length then pure (.ws (out d (.str s))) else .fail
      | _ => .fail
    | _ => .fail
  | .mkSl bytes ez l c => match d with
    | some d => do
      let l ← l.rd
      let c ← c.rd
      fresh [.loc d]
      match l, c with
      | .int _ n, .int _ m => if n = m ∧ 0 ≤ n ∧ n * bytes ≤ 140737488355328 then
          pure (.ws [.o (.loc d) (.cells true (List.replicate n.toNat ez).flatten), .t d (.sl ez.length (.loc d) n.toNat)]) else .fail
      | _, _ => .fail
    | none => .fail
  | .mput kd m k v => do
    let m ← m.rd
    let k ← k.rd
    let v ← v.rd
    match m with
    | .mp u =>
      .ob u fun
      | some (.map b l) => do
        let _ ← rOpt (eqKey kd k k)
        let r ← rOpt (findS kd k l 0)
        if v.cells.length = 1 ∧ k.pure = true ∧ v.pure = true ∧ d = none then
          pure (.ws [.o u (.map b (putS l k v.weak r))])
        else .fail
      | _ => .fail
    | _ => .fail
  | .ment kd z m k => do
    let m ← m.rd
    let k ← k.rd
    match m with
    | .mp u =>
      .ob u fun
      | some (.map b l) => do
        let _ ← rOpt (eqKey kd k k)
        let r ← rOpt (findS kd k l 0)
        pure (.ws (.o u (.map b (putS l k (valOf z.weak r) r)) :: out d (.tup [valOf z.weak r, .int .i64 ((b + idxOf l.length r : Nat) : Int)])))
      | _ => .fail
    | _ => .fail
  | .mst m s v => do
    let m ← m.rd
    let s ← s.rd
    let v ← v.rd
    match m, s with
    | .mp u, .int _ s =>
      .ob u fun
      | some (.map b l) => match l[(s - b).toNat]? with
        | some (k, _) => if v.pure = true ∧ v.cells.length = 1 ∧ d = none ∧ b ≤ s then .ret (.ws [.o u (.map b (setS l (s - b).toNat k v.weak))]) else .fail
        | none => .fail
      | _ => .fail
    | _, _ => .fail
  | .mkMap => match d with
    | some d => do
      fresh [.loc d]
      pure (.ws [.o (.loc d) (.map 0 []), .t d (.mp (.loc d))])
    | none => .fail
  | .mlook kd z ok m k => do
    let m ← m.rd
    let k ← k.rd
    match m with
    | .mp u =>
      .ob u fun
      | some (.map _ l) => do
        let _ ← rOpt (eqKey kd k k)
        let r ← rOpt (findS kd k l 0)
        pure (.ws (out d (if ok then .tup [valOf z r, .bool r.isSome] else valOf z r)))
      | _ => .fail
    | _ => .fail
  | .appS bytes x y => do
    let a ← x.rd
    let b ← y.rd
    match fixE (some 1) a, fixE (some 1) b with
    | .own s xs, .str b =>
      if s = 1 ∧ (xs.length + b.length) * bytes ≤ 140737488355328 then
        pure (.ws (giveA x (.own s xs) ++ out d (.own 1 (xs ++ byteVs b))))
      else .fail
    | _, _ => .fail
  | .clr x => do
    let m ← x.rd
    match m with
    | .mp u =>
      .ob u fun
      | some (.map b l) => .ret (.ws (.o u (.map (b + l.length) []) :: out d (.tup [])))
      | _ => .fail
    | _ => .fail
  | .mn x y => do
    let a ← x.rd
    let b ← y.rd
    match a, b with
    | .int k a, .int k' b => if k = k' then pure (.ws (out d (.int k (min a b)))) else .fail
    | _, _ => .fail
  | .mx x y => do
    let a ← x.rd
    let b ← y.rd
    match a, b with
    | .int k a, .int k' b => if k = k' then pure (.ws (out d (.int k (max a b)))) else .fail
    | _, _ => .fail
  | .call .. => .fail
  | .callD .. => .fail
def evA (d : Option Nat) : AK → Rd Res
  | .call es gv nw f xs => do
    let vs ← srcs xs
    let vs := vs.zipWith (fun v e => fixE e v) es
    if vs.length = xs.length then callS gv nw f vs d else .fail
  | .callD es f xs => do
    let vs ← srcs xs
    let vs := vs.zipWith (fun v e => fixE e v) es
    if vs.length = xs.length then do
      let fv ← f.rd
      match fv with
      | .fn f => callS none 0 f vs d
      | .clo f first caps => callS none 0 f (first ++ vs ++ caps) d
      | _ => .fail
    else .fail
  | k => do
    let .ws l ← evS d k
    pure (.ws l)

/-! #### making it short -/
def cO : Operand → Option Src
  | .tmp t => some (.t t)
  | .const v => some (.v (ofConst v))
  | .func f => some (.v (.fn f))
  | .global _ => none
def cOs : List Operand → Option (List Src)
  | [] => some []
  | x :: r => do let a ← cO x; let l ← cOs r; some (a :: l)
def cOO : Option Operand → Option (Option Src)
  | none => some none
  | some x => do let a ← cO x; some (some a)
theorem cO_eq {x : Operand} {s : Src} (h : cO x = some s) : ev x = s.rd := by
  cases x <;> simp [cO] at h <;> subst h <;> rfl
theorem cOs_eq : ∀ {l : List Operand} {s : List Src}, cOs l = some s → evs l = srcs s
  | [], s, h => by simp [cOs] at h; subst h; rfl
  | x :: r, s, h => by
    simp only [cOs, Option.bind_eq_bind, Option.bind_eq_some_iff] at h
    obtain ⟨a, h1, l, h2, h3⟩ := h
    simp at h3
    subst h3
    simp only [evs, srcs, cO_eq h1, cOs_eq h2]
theorem cOO_eq {x : Option Operand} {s : Option Src} (h : cOO x = some s) : evOpt x = srcO s := by
  cases x with
  | none => simp [cOO] at h; subst h; rfl
  | some x =>
    simp only [cOO, Option.bind_eq_bind, Option.bind_eq_some_iff] at h
    obtain ⟨a, h1, h3⟩ := h
    simp at h3
    subst h3
    simp only [evOpt, srcO, cO_eq h1]
theorem cO_give {x : Operand} {s : Src} (h : cO x = some s) (v : V) : giveUp x v = giveA s v := by
  cases x <;> simp [cO] at h <;> subst h <;> rfl
def aggOf (ti : TI) : Option Nat := if ti.isAgg then some ti.size else none
theorem getS_eq (ti : TI) (cs : List V) (off : Nat) : getS ti cs off = getA (aggOf ti) cs off := by
  unfold getS getA aggOf
  split <;> rfl
theorem sliceS_eq (ti : TI) (x : V) (lo hi : Option V) : sliceS ti x lo hi = sliceA ti.isStr (eOf (some ti)) x lo hi := by
  unfold sliceS sliceA
  rfl

def cS (T : Nat → Option TI) (M : Mode) (o : Oper) : Option AK :=
  match o.op with
  | .move x => do
    let s ← cO x
    if (o.dst.map M.steal).getD false then some (.mvS (eOf (T o.type)) s) else some (.mv (eOf (T o.type)) s)
  | .assign x => do let s ← cO x; some (.mvS (eOf (T o.type)) s)
  | .pick c a b => do let c ← cO c; let a ← cO a; let b ← cO b; some (.pick c a b)
  | .alloc e => do let ti ← T e; some (.alloc ti.zero)
  | .box e x => do let ti ← T e; let s ← cO x; some (.box ti.size s)
  | .build t parts => do
    let ti ← T t
    let xs ← cOs (parts.toList.map (·.2))
    if (bf ti).isEmpty then none else some (.build (bf ti) ti.zero (parts.toList.map (·.1)) xs)
  | .buildSlice t len parts => do
    let ti ← T t
    let xs ← cOs (parts.toList.map (·.2))
    let (sz, _) ← ti.esz
    if parts.toList.map (·.1) = List.range len ∧ len * sz ≤ 16777216 then (if (o.dst.map M.mu).getD false then some (.buildMu sz ti.ez xs) else some (.buildSl sz xs)) else none
  | .load t a => do let ti ← T t; let a ← cO a; some (.load (aggOf ti) ((o.dst.map M.steal).getD false) a)
  | .store t a x => do let ti ← T t; let a ← cO a; let x ← cO x; some (.store ti.size (eOf (some ti)) a x)
  | .nilCheck x => do let x ← cO x; some (.nilc x)
  | .binOp op t x y _ => do let ti ← T t; let x ← cO x; let y ← cO y; some (.bin ti.eqk op x y)
  | .unOp op _ x => do let x ← cO x; some (.un op x)
  | .slice t x lo hi none => do let ti ← T t; let x ← cO x; let lo ← cOO lo; let hi ← cOO hi; some (.slc ti.isStr (eOf (some ti)) ((o.dst.map M.steal).getD false) x lo hi)
  | .fieldAddr s x f => do let ti ← T s; let x ← cO x; let p ← ti.flds[f]?; some (.fa p.1 x)
  | .indexAddr t x i => do let ti ← T t; let x ← cO x; let i ← cO i; some (.ia (eOf (some ti)) ti.arr x i)
  | .index t x i => do let ti ← T t; let x ← cO x; let i ← cO i; if ti.isStr then some (.ix x i) else none
  | .extract x i => do let x ← cO x; some (.ext x i)
  | .call { callee := .builtin .len, args, argTypes } => do
    let xs ← cOs args.toList
    let t ← argTypes[0]?
    let ti ← T t
    match xs with
    | [x] => if ti.isStr then (if ti.esz.isNone then some (.lenStr x) else none) else if ti.esz.isSome then some (.lenSl x) else none
    | _ => none
  | .call { callee := .builtin .append, args, argTypes } => do
    let xs ← cOs args.toList
    let t ← argTypes[0]?
    let ti ← T t
    let (sz, bytes) ← ti.esz
    match xs with
    | [x, y] => if argTypes.toList = [t, t] then some (.app sz bytes x y) else if strArg T argTypes.toList = true ∧ sz = 1 ∧ ti.isB = true then some (.appS bytes x y) else none
    | _ => none
  | .call { callee := .builtin .clear, args, argTypes } => do
    let xs ← cOs args.toList
    let t ← argTypes[0]?
    let _ ← T t
    match xs with
    | [x] => some (.clr x)
    | _ => none
  | .call { callee := .builtin .min, args, argTypes := _ } => do
    let xs ← cOs args.toList
    match xs with
    | [x, y] => some (.mn x y)
    | _ => none
  | .call { callee := .builtin .max, args, argTypes := _ } => do
    let xs ← cOs args.toList
    match xs with
    | [x, y] => some (.mx x y)
    | _ => none
  | .convert src dst x => do let ti ← T dst; let tj ← T src; let x ← cO x; some (.conv ti.ik (ti.isStr && tj.isB) x)
  | .makeSlice t l c => do
    let ti ← T t
    let l ← cO l
    let c ← cO c
    let (_, bytes) ← ti.esz
    if ti.esz.map (·.1) = some ti.ez.length ∧ rowOk ti.ez = true then some (.mkSl bytes ti.ez l c) else none
  | .mapUpdate t m k v => do let ti ← T t; let m ← cO m; let k ← cO k; let v ← cO v; let p ← ti.kv; some (.mput p.1 m k v)
  | .insert t m k v => do let ti ← T t; let m ← cO m; let k ← cO k; let v ← cO v; let p ← ti.kv; some (.mput p.1 m k v)
  | .mapEntry t m k => do let ti ← T t; let m ← cO m; let k ← cO k; let p ← ti.kv; some (.ment p.1 p.2 m k)
  | .entryStore _ m s v => do let m ← cO m; let s ← cO s; let v ← cO v; some (.mst m s v)
  | .makeMap _ none => some .mkMap
  | .lookup t x k ok => do let ti ← T t; let x ← cO x; let k ← cO k; let p ← ti.kv; some (.mlook p.1 p.2 ok x k)
  | _ => none
end Go.Ax
