/- A part of the proof of a law of this seat: no condition. -/
import Derived.Test.YtjabgfnljbnmmaaDoorA2
import Derived.Laws.Append
set_option linter.unusedVariables false
set_option linter.unusedSimpArgs false
namespace Go.Ax
attribute [local simp] look_cons
section
variable {P : Program} {T : Nat → Option TI} {M : Mode} {H H' : Heap} {μ μ' : Oid → Option Nat} {F : Fr} {st st' : St} {tm tm' : Nat → Value} {w w' : World} {ρ : Operand → Value}

def setAllV : List Value → Nat → List Value → List Value
 | cs, _, [] => cs
 | cs, off, v :: vs => setAllV (cs.set off v) (off + 1) vs
theorem fold_set (vs : List Value) : ∀ (cells : Array Value) (off k : Nat),
  ((vs.zipIdx k).foldl (fun (cs : Array Value) (x : Value × Nat) => cs.setIfInBounds (off + x.2) x.1) cells).toList = setAllV cells.toList (off + k) vs := by
 induction vs with
 | nil => intro cells off k; rfl
 | cons v vs ih =>
  intro cells off k
  simp only [List.zipIdx_cons, List.foldl_cons, setAllV]
  rw [ih]
  simp [Nat.add_assoc]
theorem fold_set_arr (vs : Array Value) (cells : Array Value) (off : Nat) :
  (vs.zipIdx.foldl (fun (cs : Array Value) (x : Value × Nat) => cs.setIfInBounds (off + x.2) x.1) cells).toList = setAllV cells.toList off vs.toList := by
 have := fold_set vs.toList cells off 0
 rw [← Array.foldl_toList]
 simpa using this
theorem setAllV_length (vs : List Value) : ∀ (cs : List Value) (off : Nat), (setAllV cs off vs).length = cs.length := by
 induction vs with
 | nil => intro cs off; rfl
 | cons v vs ih => intro cs off; simp [setAllV, ih]
theorem RepC.set {cs vs} (h : RepC H μ cs vs) {j : Nat} {x : V} {v : Value} (h1 : x.isCell = true) (h2 : cellV v = true) (h3 : Rep1 H μ x v) : RepC H μ (cs.set j x) (vs.set j v) := by
 have hl := h.length
 refine RepC.of_get (by simpa using hl) fun k hk hk' => ?_
 rw [List.getElem_set, List.getElem_set]
 split
 ·exact ⟨h1, h2, h3⟩
 ·exact h.get k (by simpa using hk) (by simpa using hk')
theorem RepC.setAll {xs us} (hx : RepC H μ xs us) : ∀ {cs vs off}, RepC H μ cs vs → RepC H μ (setAll cs off xs) (setAllV vs off us) := by
 induction xs generalizing us with
 | nil => intro cs vs off h; cases hx; exact h
 | cons x xs ih =>
  intro cs vs off h
  cases hx with
  | cons _ u _ us h1 h2 h3 hs => exact ih hs (h.set h1 h2 h3)

theorem run_places {t : TypeId} {ti : TI} (hti : TIok P t ti) {fs : Array Field} (h : P.underlying t = some (.struct fs)) (w : World) :
  ∃ pl : Array (Nat × Nat), (fs.mapM (m := Sem) fun f => do pure (f.offset, ← sizeOf f.type)).run P w = .ok pl w ∧ ∀ (k off n : Nat), ti.flds[k]? = some (off, n) → pl[k]? = some (off, n) := by
 have hall := hti.all fs h
 have key : ∀ l : List Field, (∀ f ∈ l, ∃ i, P.info? f.type = some i) →
   ∃ pl : List (Nat × Nat), (l.mapM (m := Sem) fun f => do pure (f.offset, ← sizeOf f.type)).run P w = .ok pl w ∧ pl.length = l.length ∧
    ∀ (k : Nat) (f : Field) (i : TypeInfo), l[k]? = some f → P.info? f.type = some i → pl[k]? = some (f.offset, i.size) := by
  intro l
  induction l with
  | nil => intro _; exact ⟨[], by simp, rfl, by simp⟩
  | cons f l ih =>
   intro hf
   obtain ⟨pl, h1, h2, h3⟩ := ih (fun g hg => hf g (by simp [hg]))
   obtain ⟨i, hi⟩ := hf f (by simp)
   refine ⟨(f.offset, i.size) :: pl, ?_, by simp [h2], fun k g j hk hj => ?_⟩
   ·rw [List.mapM_cons]
    simp only [Sem.run_bind, runSize hi, Result.andThen_ok, Sem.run_pure, h1]
   ·cases k with
    | zero =>
     simp at hk
     subst hk
     rw [hi] at hj
     injection hj with hj
     subst hj
     simp
    | succ k => simpa using h3 k g j (by simpa using hk) hj
 obtain ⟨pl, h1, h2, h3⟩ := key fs.toList (fun f hf => by
  obtain ⟨k, hk, e⟩ := List.getElem_of_mem hf
  obtain ⟨i, hi, _⟩ := hall k f (by rw [Array.getElem?_eq_getElem (by simpa using hk)]; simpa using e)
  exact ⟨i, hi⟩)
 refine ⟨pl.toArray, ?_, fun k off n hk => ?_⟩
 ·rw [Array.mapM_eq_mapM_toList, Sem.run_map, h1]
  rfl
 ·obtain ⟨fs', fd, i, g1, g2, g3, g4, g5, g6⟩ := hti.flds k off n hk
  rw [h] at g1
  injection g1 with g1
  injection g1 with g1
  subst g1
  have := h3 k fd i (by simpa using g2) g4
  rw [g3, g5] at this
  simpa using this

theorem fill_run {fl : List (Nat × Nat)} {place : Nat → Option (Nat × Nat)} (hp : ∀ (k off n : Nat), fl[k]? = some (off, n) → place k = some (off, n)) :
  ∀ (parts : List (Nat × V)) (vals : List (Nat × Value)) (cs : List V) (cells : Array Value) (r : List V), parts.length = vals.length →
   (∀ j (hj : j < parts.length) (hj' : j < vals.length), vals[j].1 = parts[j].1 ∧ RepS H μ parts[j].2 vals[j].2) → RepC H μ cs cells.toList →
   buildS fl cs parts = some r → ∃ cells', Instr.fill place cells vals = some cells' ∧ RepC H μ r cells'.toList := by
 intro parts
 induction parts with
 | nil =>
  intro vals cs cells r hl _ hc hb
  cases vals with
  | nil => simp [buildS] at hb; subst hb; exact ⟨cells, rfl, hc⟩
  | cons => simp at hl
 | cons p parts ih =>
  intro vals cs cells r hl hv hc hb
  cases vals with
  | nil => simp at hl
  | cons q vals =>
   obtain ⟨i, v⟩ := p
   obtain ⟨i', u⟩ := q
   have h0 := hv 0 (by simp) (by simp)
   simp at h0
   obtain ⟨rfl, hu⟩ := h0
   have hv' : ∀ j (hj : j < parts.length) (hj' : j < vals.length), vals[j].1 = parts[j].1 ∧ RepS H μ parts[j].2 vals[j].2 := fun j hj hj' => hv (j + 1) (by simpa using hj) (by simpa using hj')
   have hcl := hc.length
   simp only [buildS] at hb
   split at hb
   ·rename_i off sz hoff
    have hpl := hp _ _ _ hoff
    split at hb
    ·split at hb
     ·rename_i n hcs
      split at hb
      ·rename_i hsz
       have hu0 := hu.nils
       subst hu0
       subst hsz
       obtain ⟨hlt, hcs'⟩ := List.getElem?_eq_some_iff.1 hcs
       have hlt' : off < cells.size := by simp at hcl; omega
       have hg := hc.get off hlt (by simpa using hlt')
       simp only [Instr.fill, hpl]
       have hsz : (Value.slice none 0 0).cells.size = 1 := rfl
       have hcond : (decide ((Value.slice none 0 0).cells.size ≠ 1) || decide (off + (Value.slice none 0 0).cells.size > cells.size)) = false := by simp [hsz]; omega
       simp only [hcond, Bool.false_eq_true, if_false]
       refine ih vals cs _ r (by simpa using hl) hv' ?_ hb
       rw [fold_set_arr]
       show RepC H μ cs (setAllV cells.toList off [.slice none 0 0])
       simp only [setAllV]
       have : RepC H μ (cs.set off (.own n [])) (cells.toList.set off (.slice none 0 0)) := hc.set rfl rfl (.own0 n)
       rwa [show cs.set off (.own n []) = cs from by rw [← hcs']; exact List.set_getElem_self _] at this
      ·simp at hb
     ·rename_i hcs
      split at hb
      ·rename_i hsz
       have hu0 := hu.nils
       subst hu0
       subst hsz
       obtain ⟨hlt, hcs'⟩ := List.getElem?_eq_some_iff.1 hcs
       have hlt' : off < cells.size := by simp at hcl; omega
       have hg := hc.get off hlt (by simpa using hlt')
       simp only [Instr.fill, hpl]
       have hsz : (Value.slice none 0 0).cells.size = 1 := rfl
       have hcond : (decide ((Value.slice none 0 0).cells.size ≠ 1) || decide (off + (Value.slice none 0 0).cells.size > cells.size)) = false := by simp [hsz]; omega
       simp only [hcond, Bool.false_eq_true, if_false]
       refine ih vals cs _ r (by simpa using hl) hv' ?_ hb
       rw [fold_set_arr]
       show RepC H μ cs (setAllV cells.toList off [.slice none 0 0])
       simp only [setAllV]
       have : RepC H μ (cs.set off .nils) (cells.toList.set off (.slice none 0 0)) := hc.set rfl rfl .nils
       rwa [show cs.set off .nils = cs from by rw [← hcs']; exact List.set_getElem_self _] at this
      ·simp at hb
     ·simp at hb
    ·rename_i hnn
     split at hb
     ·rename_i hcond
      obtain ⟨c1, c2, c3⟩ := hcond
      have hst : v.weak.storable = true := by cases v <;> simp_all [V.weak, V.storable]
      have hsc := hu.weak.scells hst
      have hlen := hsc.length
      simp only [Instr.fill, hpl]
      have hsz : u.cells.size = sz := by simp at hlen; omega
      have hcond : (decide (u.cells.size ≠ sz) || decide (off + u.cells.size > cells.size)) = false := by simp at hcl; simp [hsz]; omega
      simp only [hcond, Bool.false_eq_true, if_false]
      refine ih vals _ _ r (by simpa using hl) hv' ?_ hb
      rw [fold_set_arr]
      exact hsc.setAll hc
     ·simp at hb
   ·simp at hb

theorem good_build (hT : TabOk P T) (hr : Rel H μ F st tm w) (hρ : Env ρ tm) {o : Oper} {t : TypeId} {parts : Array (Nat × Operand)} (ho : o.op = .build t parts) {l : List Wr}
  (h : (opS T M o).run st = some (.ws l)) : Good P H μ F tm w o.dst (st.app l) (execOp ρ o) := by
 unfold opS at h
 rw [ho] at h
 replace h := rd_bind _ _ _ h
 obtain ⟨ti, hti, h⟩ := h
 have hti := hT _ _ (rd_rOpt hti)
 replace h := rd_bind _ _ _ h
 obtain ⟨vs, hvs, h⟩ := h
 obtain ⟨e1, e2⟩ := evs_rep hr hρ hvs
 replace h := rd_bind _ _ _ h
 obtain ⟨cs, hcs, h⟩ := h
 have hcs := rd_rOpt hcs
 split at h
 ·simp [Rd.run] at h
 rename_i hne
 have := rd_pure h
 injection this with this
 subst this
 obtain ⟨i, z, g1, g2, g3, g4, g5, g6⟩ := hti.info
 have hlp : vs.length = parts.toList.length := by simpa using e1
 have hfill : ∀ (place : Nat → Option (Nat × Nat)), (∀ (k off n : Nat), (bf ti)[k]? = some (off, n) → place k = some (off, n)) →
   ∃ cells', Instr.fill place z.cells (parts.map fun x => (x.1, ρ x.2)).toList = some cells' ∧ RepC H μ cs cells'.toList := by
  intro place hp
  obtain ⟨cells', f1, f2⟩ := fill_run (H := H) (μ := μ) hp ((parts.toList.map (·.1)).zip vs) (parts.toList.map fun x => (x.1, ρ x.2)) (z0 ti) z.cells cs
   (by simp [hlp]) (fun j hj hj' => by
    simp at hj hj'
    have := e2 j (by omega) (by simp; omega)
    simp at this ⊢
    exact this.1) (zcs_rep0 g4) hcs
  exact ⟨cells', by simpa using f1, f2⟩
 cases harr : ti.arr with
 | none =>
  have hbf : bf ti = ti.flds := by simp [bf, harr]
  rw [hbf] at hne hfill
  have hstr : ∃ fs, P.underlying t = some (.struct fs) := by
   cases hq : ti.flds with
   | nil => rw [hq] at hne; simp at hne
   | cons q qs =>
    obtain ⟨fs, _, _, g, _⟩ := hti.flds 0 q.1 q.2 (by rw [hq]; rfl)
    exact ⟨fs, g⟩
  obtain ⟨fs, hfs⟩ := hstr
  obtain ⟨pl, p1, p2⟩ := run_places hti hfs w
  obtain ⟨cells', f1, f2⟩ := hfill (fun k => pl[k]?) p2
  refine good_val (v := .agg cells') hr ?_ (.two _ _ (by simpa using Rep2.agg _ _ f2.weak)) rfl
  simp only [execOp, ho, Instr.build, Sem.run_bind, runZero g1 g3, Result.andThen_ok, runUnder hfs, p1]
  rw [f1]
  rfl
 | some nk =>
  obtain ⟨n, k⟩ := nk
  obtain ⟨e, ie, q1, q2, q3⟩ := hti.arr n k harr
  obtain ⟨cells', f1, f2⟩ := hfill (fun i => some (i * k, k)) (fun j off m hj => by
   simp only [bf, harr, List.getElem?_map] at hj
   cases hq : (List.range n)[j]? with
   | none => rw [hq] at hj; simp at hj
   | some x =>
    rw [hq] at hj
    have : x = j := by
     obtain ⟨hlt, he⟩ := List.getElem?_eq_some_iff.1 hq
     simpa using he.symm
    subst this
    simpa using hj)
  refine good_val (v := .agg cells') hr ?_ (.two _ _ (by simpa using Rep2.agg _ _ f2.weak)) rfl
  simp only [execOp, ho, Instr.build, Sem.run_bind, runZero g1 g3, Result.andThen_ok, runUnder q1, runSize q2, q3]
  rw [f1]
  rfl
end
end Go.Ax
set_option linter.unusedVariables false
set_option linter.unusedSimpArgs false
namespace Go.Ax
attribute [local simp] look_cons
section
variable {P : Program} {T : Nat → Option TI} {M : Mode} {H H' : Heap} {μ μ' : Oid → Option Nat} {F : Fr} {st st' : St} {tm tm' : Nat → Value} {w w' : World} {ρ : Operand → Value}

theorem atL_push (h : Rel H μ F st tm w) {ob : Obj} (hh : w'.heap = w.heap.push ob) {ℓ x v} (hl : atL μ st tm w' ℓ x v) : atL μ st tm w ℓ x v := by
 cases ℓ with
 | t m => exact hl
 | o u j =>
  obtain ⟨row, cs', b', g1, g2, g3, g4⟩ := hl
  refine ⟨row, cs', b', g1, g2, g3, ?_⟩
  rw [← g4]
  have := (h.obLt (h.cellsLive g1 g2)).choose_spec.2.2.2
  exact (cell?_eq (by rw [hh, Array.getElem?_push]; simp [Nat.ne_of_lt this]) j).symm
theorem Holds_push (h : Rel H μ F st tm w) {ob : Obj} (hh : w'.heap = w.heap.push ob) {ℓ b} (hl : Holds μ st tm w' ℓ b) : Holds μ st tm w ℓ b := by
 obtain ⟨sz, xs, off, n, c, hl⟩ := hl
 exact ⟨sz, xs, off, n, c, atL_push h hh hl⟩
theorem Rel.noNew (h : Rel H μ F st tm w) (k : Nat) : H w.heap.size k = none := by
 cases hk : H w.heap.size k with
 | none => rfl
 | some v => have := cell?_lt (h.heap _ _ _ hk); simp at this
theorem Rel.noSize (h : Rel H μ F st tm w) : H.size w.heap.size = 0 := by
 have := h.size w.heap.size
 have h2 : ¬ 0 < blkSize w w.heap.size := fun hp => by have := blkSize_lt hp; omega
 omega
theorem Rel.noHold (h : Rel H μ F st tm w) {ob : Obj} (hh : w'.heap = w.heap.push ob) (ℓ : Loc) : ¬ Holds μ st tm w' ℓ w.heap.size := by
 intro hl
 obtain ⟨sz, xs, off, n, c, hl⟩ := Holds_push h hh hl
 obtain ⟨⟨vs2, ty2, g1, _⟩, _⟩ := h.own ℓ _ _ _ _ _ _ hl
 have := (Array.getElem?_eq_some_iff.1 g1).1
 simp at this
/-- A new row that is written to. -/
theorem Rel.newRowOb (h : Rel H μ F st tm w) {o : Oid} (hop : ∀ j, o ≠ .par j) (ho : st.ob o = none) {xs : List V} {vs : Array Value} {ty : TypeId} (hrep : RepC H μ xs (vs.toList.take xs.length)) (hrow : rowOk xs = true)
  (hinj : ∀ (j j' sz : Nat) (ys : List V) (off n c sz' : Nat) (ys' : List V) (off' n' c' b : Nat), xs[j]? = some (.own sz ys) → vs[j]? = some (.slice (some ⟨b, off, none⟩) n c) →
   xs[j']? = some (.own sz' ys') → vs[j']? = some (.slice (some ⟨b, off', none⟩) n' c') → j = j')
  (hown : ∀ (j sz : Nat) (ys : List V) (b off n c : Nat), xs[j]? = some (.own sz ys) → vs[j]? = some (.slice (some ⟨b, off, none⟩) n c) → OwnAt H (live st μ) F w b (off + n * sz) (off + c * sz) ∧ ∀ ℓ, ¬ Holds μ st tm w ℓ b)
  (hh : w'.heap = w.heap.push (.cells vs ty)) (hio : Io w w') :
  Rel (H.put w.heap.size vs.size) (updO μ o (some w.heap.size)) F (st.putO o (.cells true xs)) tm w' ∧ Ext F H w (H.put w.heap.size vs.size) w' := by
 have hle : Le H (H.put w.heap.size vs.size) := Heap.put_le _ _ _ (by rw [h.noSize]; exact Nat.zero_le _)
 have hblk : w'.heap[w.heap.size]? = some (.cells vs ty) := by rw [hh]; simp
 have hμ := h.dom o ho
 have hlm : LeM μ (updO μ o (some w.heap.size)) := by
  intro u b hb
  unfold updO
  by_cases e : u = o
  ·subst e; rw [hμ] at hb; simp at hb
  ·simpa [e] using hb
 have h0 : Rel (H.put w.heap.size vs.size) μ F st tm w' := h.push _ hh hle (fun _ _ _ => rfl) (fun k v hv => by
   have : H w.heap.size k = some v := hv
   rw [h.noNew] at this; simp at this) (fun b hb => by simp [Heap.put, hb]) (by rw [blkSize_of hblk]; simp [Heap.put])
 have hcell : ∀ j, w'.cell? ⟨w.heap.size, j, none⟩ = vs[j]? := fun j => cell?_of hblk j
 refine ⟨h0.addOb hop ho rfl ⟨vs, ty, hblk, hrep.mono hle hlm, fun _ => hrow⟩ (fun u hu => ?_) (fun k => h.noNew k) (fun hF => absurd (h.Flt.1 _ hF) (by simp)) (h.noHold hh) ?_ ?_, Ext.push F _ hh hio hle (fun _ _ _ => rfl)⟩
 ·have := (h.obLt hu).choose_spec.2.2.2
  omega
 ·intro row cs j sz ys b' off n c e1 e2 e3
  simp only [Ob.cells.injEq] at e1
  obtain ⟨_, rfl⟩ := e1
  rw [hcell] at e3
  obtain ⟨⟨⟨vs', ty', g1, g1'⟩, g2, g3, g4⟩, g5⟩ := hown j sz ys b' off n c e2 e3
  have hlt := (Array.getElem?_eq_some_iff.1 g1).1
  refine ⟨Nat.ne_of_lt hlt, ⟨⟨vs', ty', ?_, g1'⟩, g2, g3, g4⟩, fun ℓ hl => g5 ℓ (Holds_push h hh hl)⟩
  rw [hh, Array.getElem?_push]
  simp [Nat.ne_of_lt hlt, g1]
 ·rintro j j' b' ⟨row, cs, sz, ys, off, n, c, e1, e2, e3⟩ ⟨row', cs', sz', ys', off', n', c', e1', e2', e3'⟩
  simp only [Ob.cells.injEq] at e1 e1'
  obtain ⟨_, rfl⟩ := e1
  obtain ⟨_, rfl⟩ := e1'
  rw [hcell] at e3 e3'
  exact hinj _ _ _ _ _ _ _ _ _ _ _ _ _ e2 e3 e2' e3'
theorem inj_one {xs : List V} (hone : noOwn xs = true ∨ xs.length = 1) {j j' sz sz' : Nat} {ys ys' : List V} (e2 : xs[j]? = some (.own sz ys)) (e2' : xs[j']? = some (.own sz' ys')) : j = j' := by
 rcases hone with hone | hone
 ·have := List.all_eq_true.1 hone _ (List.mem_of_getElem? e2)
  simp [V.isOwn] at this
 ·have h1 := (List.getElem?_eq_some_iff.1 e2).1
  have h2 := (List.getElem?_eq_some_iff.1 e2').1
  omega
/-- A new row: its elements are told; what lies behind them is nobody's. -/
theorem Rel.newRow (h : Rel H μ F st tm w) {sz c : Nat} {xs : List V} {flat : List Value} {vs : Array Value} {ty : TypeId} (hh : w'.heap = w.heap.push (.cells vs ty)) (hio : Io w w')
  (hf : ∃ rest, vs.toList = flat ++ rest) (hx : ∀ x ∈ xs, x.cells.length = sz) (hr : RepL H (xs.flatMap V.cells) flat) (hc : xs.length ≤ c) (hcs : c * sz ≤ vs.size) :
  Rel (H.row w.heap.size 0 flat) μ F st tm w' ∧ Ext F H w (H.row w.heap.size 0 flat) w' ∧ Rep1 (H.row w.heap.size 0 flat) μ (.own sz xs) (.slice (some ⟨w.heap.size, 0, none⟩) xs.length c) ∧
   OwnAt (H.row w.heap.size 0 flat) (live st μ) F w' w.heap.size (0 + xs.length * sz) (0 + c * sz) ∧ ∀ ℓ, ¬ Holds μ st tm w' ℓ w.heap.size := by
 obtain ⟨rest, hrest⟩ := hf
 have hblk : w'.heap[w.heap.size]? = some (.cells vs ty) := by rw [hh]; simp
 have hHn : ∀ k, H w.heap.size k = none := by
  intro k
  cases hk : H w.heap.size k with
  | none => rfl
  | some v => have := cell?_lt (h.heap _ _ _ hk); simp at this
 have hle : Le H (H.row w.heap.size 0 flat) := Heap.row_le _ _ _ _ (fun k _ => hHn k)
 have hrel : Rel (H.row w.heap.size 0 flat) μ F st tm w' := h.push _ hh hle (fun b k hb => Heap.row_ne _ _ _ _ _ _ hb) (fun k v hv => by
  simp only [Heap.row] at hv
  split at hv
  ·rename_i hk
   rw [cell?_of hblk, ← Array.getElem?_toList, hrest, List.getElem?_append_left (by omega)]
   simpa using hv
  ·rw [hHn] at hv; simp at hv) (fun _ _ => rfl) (by show H.size w.heap.size ≤ _; rw [h.noSize]; exact Nat.zero_le _)
 have hlen : flat.length = xs.length * sz := by
  rw [← hr.length]
  clear hr hrest hc hcs hrel hle
  induction xs with
  | nil => simp
  | cons x xs ih =>
   rw [List.flatMap_cons, List.length_append, hx x (by simp), ih (fun y hy => hx y (by simp [hy])), List.length_cons, Nat.succ_mul, Nat.add_comm]
 refine ⟨hrel, Ext.push F _ hh hio hle (fun b k hb => Heap.row_ne _ _ _ _ _ _ hb), .own _ _ _ _ _ ?_ hc, ⟨⟨vs, ty, hblk, by omega⟩, fun k hk _ => ?_, fun o ho => ?_, fun hF => ?_⟩, h.noHold hh⟩
 ·refine RepRow.of_flat hx (hr.mono hle) fun j hj => ?_
  rw [Heap.row_at]
 ·simp only [Heap.row]
  rw [if_neg (by omega)]
  exact hHn k
 ·have := (h.obLt (o := o) (b := w.heap.size) ho).choose_spec.2.2.2
  omega
 ·exact absurd (h.Flt.1 _ hF) (by simp)

theorem RepD.of_pure {x : V} {v : Value} (h : RepS H μ x v) (hp : x.pure = true) : RepD H x.weak v := by
 cases h with
 | tup => simp [V.pure, V.pure1] at hp
 | two _ _ h =>
  cases h with
  | clo => simp [V.pure, V.pure1] at hp
  | agg cs vs h =>
   simp only [V.pure] at hp
   simp only [V.weak]
   refine .agg _ _ ?_
   induction cs generalizing vs with
   | nil => cases h; exact .nil
   | cons x xs ih =>
    cases h with
    | cons _ v _ vs h1 hv h hs =>
     simp at hp
     refine .cons _ _ _ _ (isCell_weak1 h1) ?_ (ih _ hs (by simpa using hp.2))
     have hp1 := hp.1
     cases h with
     | data _ _ h => cases h <;> first | (constructor <;> assumption) | simp [V.pure1] at hp1
     | own0 => exact .slice0 _
     | own sz xs b off c hr hc => exact .slice _ _ _ _ _ hr hc
     | _ => simp [V.pure1] at hp1
  | one _ _ h =>
   cases h with
   | data _ _ h =>
    cases h with
    | agg cs vs h =>
     simp only [V.weak]
     refine .agg _ _ ?_
     clear hp
     induction cs generalizing vs with
     | nil => cases h; exact .nil
     | cons x xs ih =>
      cases h with
      | cons _ v _ vs h1 h hs =>
       refine .cons _ _ _ _ (isCell_weak1 h1) ?_ (ih _ hs)
       cases h <;> (constructor <;> assumption)
    | _ => first | (constructor <;> assumption) | constructor
   | own0 => exact .slice0 _
   | own sz xs b off c hr hc => exact .slice _ _ _ _ _ hr hc
   | _ => simp [V.pure, V.pure1] at hp
theorem RepD.cells {x : V} {v : Value} (h : RepD H x v) : RepL H x.cells v.cells.toList := by
 cases h with
 | agg cs vs h => simpa [V.cells, Value.cells] using h
 | _ => exact .cons _ _ _ _ rfl (by constructor <;> assumption) .nil
theorem cells_weak_length (x : V) : x.weak.cells.length = x.cells.length := by cases x <;> simp [V.weak, V.cells]

theorem setAllV_get (us : List Value) : ∀ (cs : List Value) (off j : Nat), off + us.length ≤ cs.length →
  (setAllV cs off us)[j]? = if off ≤ j ∧ j < off + us.length then us[j - off]? else cs[j]? := by
 induction us with
 | nil => intro cs off j _; simp [setAllV]; omega
 | cons u us ih =>
  intro cs off j hle
  simp at hle
  rw [setAllV, ih _ _ _ (by simp; omega)]
  by_cases h1 : off = j
  ·subst h1
   have : off < cs.length := by omega
   rw [if_neg (by omega), if_pos (by simp)]
   simp [this]
  ·by_cases h2 : off + 1 ≤ j ∧ j < off + 1 + us.length
   ·rw [if_pos h2, if_pos (by simp; omega)]
    rw [show j - off = (j - (off + 1)) + 1 from by omega, List.getElem?_cons_succ]
   ·rw [if_neg h2, if_neg (by simp; omega), List.getElem?_set_ne h1]
/-- A slice's literal, its parts in their order. -/
theorem fill_row {sz : Nat} (hsz : 0 < sz) : ∀ (vals : List (Nat × Value)) (k : Nat) (cells : Array Value), (∀ j (hj : j < vals.length), vals[j].1 = k + j ∧ vals[j].2.cells.size = sz) →
  k * sz + vals.length * sz ≤ cells.size →
  ∃ cells', Instr.fill (fun i => some (i * sz, sz)) cells vals = some cells' ∧ cells'.size = cells.size ∧ (vals.flatMap (fun x => x.2.cells.toList)).length = vals.length * sz ∧
   ∀ j, cells'.toList[j]? = if k * sz ≤ j ∧ j < k * sz + vals.length * sz then (vals.flatMap (fun x => x.2.cells.toList))[j - k * sz]? else cells.toList[j]? := by
 intro vals
 induction vals with
 | nil => intro k cells _ _; exact ⟨cells, rfl, rfl, by simp, fun j => by simp; omega⟩
 | cons q vals ih =>
  intro k cells hv hle
  obtain ⟨h0, h1⟩ := hv 0 (by simp)
  simp at h0 h1
  simp only [List.length_cons, Nat.succ_mul] at hle
  have hset := fold_set_arr q.2.cells cells (k * sz)
  generalize hc1 : q.2.cells.zipIdx.foldl (fun (cs : Array Value) (x : Value × Nat) => cs.setIfInBounds (k * sz + x.2) x.1) cells = c1 at hset
  have hc1s : c1.size = cells.size := by
   have := congrArg List.length hset
   rw [setAllV_length] at this
   simpa using this
  obtain ⟨cells', g1, g2, g3, g4⟩ := ih (k + 1) c1 (fun j hj => by
   have := hv (j + 1) (by simpa using hj)
   simp at this
   exact ⟨by omega, this.2⟩) (by rw [Nat.succ_mul]; omega)
  refine ⟨cells', ?_, by omega, by simp only [List.flatMap_cons, List.length_append, g3, List.length_cons, Nat.succ_mul, Array.length_toList, h1]; omega, fun j => ?_⟩
  ·simp only [Instr.fill, h0]
   have hcond : (decide (q.2.cells.size ≠ sz) || decide (k * sz + q.2.cells.size > cells.size)) = false := by simp [h1]; omega
   simp only [hcond, Bool.false_eq_true, if_false, hc1]
   exact g1
  ·rw [g4 j, hset, setAllV_get _ _ _ _ (by simp [h1]; omega)]
   simp only [Array.length_toList, h1, List.length_cons, Nat.succ_mul, List.flatMap_cons]
   by_cases c1 : k * sz + sz ≤ j ∧ j < k * sz + sz + vals.length * sz
   ·rw [if_pos c1, if_pos (by omega), List.getElem?_append_right (by simp [h1]; omega)]
    simp only [Array.length_toList, h1]
    congr 1
    omega
   ·rw [if_neg c1]
    by_cases c2 : k * sz ≤ j ∧ j < k * sz + sz
    ·rw [if_pos c2, if_pos (by omega), List.getElem?_append_left (by simp [h1]; omega)]
    ·rw [if_neg c2, if_neg (by omega)]

/-- A slice's literal. -/
theorem buildSlice_run {o : Oper} {t : TypeId} {len : Nat} {parts : Array (Nat × Operand)} (ho : o.op = .buildSlice t len parts) {ti : TI} (hti : TIok P t ti) {sz bytes : Nat} (hsz : ti.esz = some (sz, bytes))
  (c1 : parts.toList.map (·.1) = List.range len) (c2 : len * sz ≤ 16777216) (hc : ∀ x ∈ parts.toList, (ρ x.2).cells.size = sz) :
  ∃ (e : TypeId) (cells' : Array Value), cells'.toList = parts.toList.flatMap (fun x => (ρ x.2).cells.toList) ∧ cells'.size = len * sz ∧
   (execOp ρ o).run P w = .ok (.value (.slice (some ⟨w.heap.size, 0, none⟩) len len)) { w with heap := w.heap.push (.cells cells' e) } := by
 obtain ⟨e, ie, z, g1, g2, g3, g4, g5, g6, g7, g8⟩ := hti.esz _ _ hsz
 have hlen : parts.toList.length = len := by
  have := congrArg List.length c1
  simpa using this
 generalize hvals : (parts.toList.map fun x => (x.1, ρ x.2)) = vals
 have hvall : vals.length = len := by rw [← hvals]; simpa using hlen
 have hval : ∀ j (hj : j < vals.length), vals[j].1 = 0 + j ∧ vals[j].2.cells.size = sz := by
  intro j hj
  subst hvals
  simp only [List.getElem_map, Nat.zero_add]
  have hj1 : j < parts.toList.length := by simpa using hj
  refine ⟨?_, hc _ (List.getElem_mem hj1)⟩
  have := congrArg (fun l => l[j]?) c1
  simp only [List.getElem?_map, List.getElem?_eq_getElem hj1, List.getElem?_range (show j < len by omega)] at this
  simpa using this
 have hzero : ∃ c0 : Array Value, ((Array.range (len * sz)).map (fun i => (if len * sz = 0 then (#[] : Array Value) else z.cells)[i % (if len * sz = 0 then (#[] : Array Value) else z.cells).size]!)) = c0 ∧ c0.size = len * sz := ⟨_, rfl, by simp⟩
 obtain ⟨c0, hc0, hc0s⟩ := hzero
 obtain ⟨cells', f1, f2, f3, f4⟩ := fill_row g7 vals 0 c0 hval (by rw [hc0s, hvall]; omega)
 have hflat : cells'.toList = vals.flatMap (fun x => x.2.cells.toList) := by
  apply List.ext_getElem?
  intro j
  rw [f4 j]
  by_cases hj : j < len * sz
  ·rw [if_pos (by rw [hvall]; omega)]; simp
  ·rw [if_neg (by rw [hvall]; omega), List.getElem?_eq_none (by simp; omega), List.getElem?_eq_none (by rw [f3, hvall]; omega)]
 refine ⟨e, cells', by rw [hflat, ← hvals, List.flatMap_map], by omega, ?_⟩
 have hrun : ∀ w, (if len * sz = 0 then (pure #[] : Sem (Array Value)) else do pure (← zeroValue e).cells).run P w = .ok (if len * sz = 0 then (#[] : Array Value) else z.cells) w := by
  intro w
  split
  ·rfl
  ·simp only [Sem.run_bind, runZero g2 g5, Result.andThen_ok, Sem.run_pure]
 have h24 : ¬ len * sz > 2 ^ 24 := by omega
 have hvals' : (parts.map fun x => (x.1, ρ x.2)).toList = vals := by simpa using hvals
 simp only [execOp, ho, Instr.buildSlice, Sem.run_bind, runUnder g1, Result.andThen_ok, runSize g2, g3, Sem.run_ite, h24, if_false, Sem.run_pure]
 have hz2 : ∀ (zz : Array Value), zz = (if len * sz = 0 then #[] else z.cells) →
   Instr.fill (fun i => some (i * sz, sz)) (Array.map (fun x => zz[x % zz.size]!) (Array.range (len * sz))) (Array.map (fun x => (x.fst, ρ x.snd)) parts).toList = some cells' := by
  intro zz hzz
  subst hzz
  rw [hc0, hvals', f1]
 split
 ·rename_i h0
  rw [hz2 #[] (by rw [if_pos h0])]
  rfl
 ·rename_i h0
  rw [runZero g2 g5, Result.andThen_ok, hz2 z.cells (by rw [if_neg h0])]
  rfl
theorem fixZ_rep {ez : List V} {x : V} {v : Value} (h : RepS H μ x v) : RepS H μ (fixZ ez x) v := by
 unfold fixZ
 split
 ·split
  ·rw [h.nils]
   exact .two _ _ (.one _ _ (.own0 _))
  ·exact h
 ·exact h
theorem pure_storable {x : V} (h : x.pure = true) : x.storable = true := by cases x <;> simp_all [V.pure, V.pure1, V.storable]
theorem pure_scells {x : V} (h : x.pure = true) : ∀ y ∈ x.scells, y.pure1 = true := by
 cases x with
 | agg cs =>
  intro y hy
  simp only [V.scells, List.mem_map] at hy
  obtain ⟨c, hc, rfl⟩ := hy
  simp only [V.pure, List.all_eq_true] at h
  have := h c hc
  cases c <;> simp_all [V.pure1, V.weak1]
 | _ => intro y hy; simp only [V.scells, List.mem_singleton] at hy; subst hy; simpa [V.pure] using h
theorem scells_length (x : V) : x.scells.length = x.cells.length := by cases x <;> simp [V.scells, V.cells]
theorem RepC.append' {cs ds us vs} (h : RepC H μ cs us) (h' : RepC H μ ds vs) : RepC H μ (cs ++ ds) (us ++ vs) := by
 induction cs generalizing us with
 | nil => cases h; exact h'
 | cons x xs ih => cases h with | cons _ v _ _ h1 hv h hs => exact .cons _ _ _ _ h1 hv h (ih hs)
theorem good_buildSlice (hT : TabOk P T) (hr : Rel H μ F st tm w) (hρ : Env ρ tm) {o : Oper} {t : TypeId} {len : Nat} {parts : Array (Nat × Operand)} (ho : o.op = .buildSlice t len parts) {l : List Wr}
  (h : (opS T M o).run st = some (.ws l)) : Good P H μ F tm w o.dst (st.app l) (execOp ρ o) := by
 unfold opS at h
 rw [ho] at h
 replace h := rd_bind _ _ _ h
 obtain ⟨ti, hti, h⟩ := h
 have hti := hT _ _ (rd_rOpt hti)
 replace h := rd_bind _ _ _ h
 obtain ⟨vs, hvs, h⟩ := h
 obtain ⟨e1, e2⟩ := evs_rep hr hρ hvs
 replace h := rd_bind _ _ _ h
 obtain ⟨⟨sz, bytes⟩, hsz, h⟩ := h
 have hsz := rd_rOpt hsz
 dsimp only at h
 have hvl : vs.length = parts.toList.length := by simpa using e1
 have hpart : ∀ j (hj : j < vs.length) (hj' : j < parts.toList.length), RepS H μ vs[j] (ρ parts.toList[j].2) ∧ (ev parts.toList[j].2).run st = some vs[j] := by
  intro j hj hj'
  have := e2 j hj (by simpa using hj')
  simpa using this
 split at h
 ·-- a row that is written to
  split at h
  ·rename_i d hd
   replace h := rd_bind _ _ _ h
   obtain ⟨_, hf, h⟩ := h
   have ho' := fresh_run hf (.loc d) (by simp)
   split at h
   ·rename_i hc
    obtain ⟨c1, c2, c3, c4⟩ := hc
    have := rd_pure h
    injection this with this
    subst this
    have hlen : parts.toList.length = len := by
     have := congrArg List.length c1
     simpa using this
    have hpure : ∀ v ∈ vs.map (fixZ ti.ez), v.cells.length = sz ∧ v.pure = true := by
     intro v hv
     have := List.all_eq_true.1 c3 v hv
     simpa using this
    have hrc : ∀ j (hj : j < vs.length) (hj' : j < parts.toList.length), RepC H μ (fixZ ti.ez vs[j]).scells (ρ parts.toList[j].2).cells.toList :=
     fun j hj hj' => (fixZ_rep (hpart j hj hj').1).scells (pure_storable (hpure _ (List.mem_map_of_mem (List.getElem_mem hj))).2)
    obtain ⟨e, cells', q1, q2, q3⟩ := buildSlice_run (ρ := ρ) (w := w) ho hti hsz c1 c2 (fun x hx => by
     obtain ⟨j, hj, rfl⟩ := List.getElem_of_mem hx
     have hj2 : j < vs.length := by omega
     have := (hrc j hj2 hj).length
     rw [scells_length, (hpure _ (List.mem_map_of_mem (List.getElem_mem hj2))).1] at this
     simpa using this.symm)
    have hrep : RepC H μ ((vs.map (fixZ ti.ez)).flatMap V.scells) cells'.toList := by
     rw [q1]
     have key : ∀ (xs : List V) (us : List (Nat × Operand)), xs.length = us.length → (∀ j (hj : j < xs.length) (hj' : j < us.length), RepC H μ (fixZ ti.ez xs[j]).scells (ρ us[j].2).cells.toList) →
       RepC H μ ((xs.map (fixZ ti.ez)).flatMap V.scells) (us.flatMap (fun x => (ρ x.2).cells.toList)) := by
      intro xs
      induction xs with
      | nil => intro us h1 _; cases us with | nil => exact .nil | cons => simp at h1
      | cons x xs ih =>
       intro us h1 h2
       cases us with
       | nil => simp at h1
       | cons u us =>
        simp only [List.map_cons, List.flatMap_cons]
        exact (h2 0 (by simp) (by simp)).append' (ih us (by simpa using h1) (fun j hj hj' => h2 (j + 1) (by simpa using hj) (by simpa using hj')))
     exact key vs parts.toList hvl hrc
    have hcl := hrep.length
    simp only [Array.length_toList] at hcl
    -- its first part's row is given up
    have hg : ∀ (x : Operand) (v : V), parts.toList.head?.map (·.2) = some x → vs.head? = some v → (ev x).run st = some v ∧ RepS H μ v (ρ x) := by
     intro x v h1 h2
     cases hp : parts.toList with
     | nil => rw [hp] at h1; simp at h1
     | cons p ps =>
      cases hv' : vs with
      | nil => rw [hv'] at h2; simp at h2
      | cons y ys =>
       rw [hp] at h1; rw [hv'] at h2
       simp at h1 h2
       subst h1; subst h2
       have := hpart 0 (by rw [hv']; simp) (by rw [hp]; simp)
       simp only [hp, hv', List.getElem_cons_zero] at this
       exact ⟨this.2, this.1⟩
    generalize hgu : giveUp ((parts.toList.map (·.2)).headD (.global 0)) ((vs.map (fixZ ti.ez)).headD .any) = gu
    have hk : Rel H μ F (st.app gu) tm w ∧ live (st.app gu) μ = live st μ ∧ (∀ u, (st.app gu).ob u = st.ob u) ∧
      ∀ (v : V) (x : Operand), vs.head? = some v → parts.toList.head?.map (·.2) = some x → ∀ sz xs b off n c, fixZ ti.ez v = .own sz xs → ρ x = .slice (some ⟨b, off, none⟩) n c →
       OwnAt H (live (st.app gu) μ) F w b (off + n * sz) (off + c * sz) ∧ ∀ ℓ, ¬ Holds μ (st.app gu) tm w ℓ b := by
     cases hp : parts.toList with
     | nil =>
      have : vs = [] := by
       rw [hp] at hvl
       exact List.eq_nil_of_length_eq_zero (by simpa using hvl)
      subst this
      rw [hp] at hgu
      simp [giveUp] at hgu
      subst hgu
      exact ⟨hr, rfl, fun _ => rfl, by simp⟩
     | cons p ps =>
      cases hv' : vs with
      | nil => rw [hv', hp] at hvl; simp at hvl
      | cons y ys =>
       rw [hp, hv'] at hgu
       simp only [List.map_cons, List.headD_cons] at hgu
       obtain ⟨h1, h2⟩ := hg p.2 y (by rw [hp]; rfl) (by rw [hv']; rfl)
       have hob : ∀ u, (st.app gu).ob u = st.ob u := by
        intro u
        subst hgu
        unfold giveUp
        split
        ·split <;> rfl
        ·rfl
       have hlv : live (st.app gu) μ = live st μ := live_congr hob
       by_cases hy : fixZ ti.ez y = y
       ·have := giveUp_rel (ti := none) hr hρ h1 rfl
        have hfx : fixT none y = y := by cases y <;> rfl
        rw [hfx] at this
        rw [hy] at hgu
        rw [hgu] at this
        refine ⟨this.1, hlv, hob, fun v x hv hx sz' xs b off n c g1 g2 => ?_⟩
        simp at hv hx
        subst hv; subst hx
        rw [hy] at g1
        exact this.2 _ _ _ _ _ _ g1 g2
       ·-- nil, typed
        have hyn : y = .nils := by
         unfold fixZ at hy
         split at hy
         ·rfl
         ·exact absurd rfl hy
        subst hyn
        have hnil := h2.nils
        have hrel : Rel H μ F (st.app gu) tm w := by
         subst hgu
         unfold giveUp
         split
         ·rename_i t' ht'
          split
          ·have hput := hr.put (t := t') (x := (fixZ ti.ez .nils).weak) (v := tm t') (by
            have := h2
            rw [ht', hρ.tmp] at this
            exact (fixZ_rep this).weak) (fun sz xs b off n c e => by have := weak_not_own (fixZ ti.ez .nils); rw [e] at this; simp [V.isOwn] at this)
           have hup : upd tm t' (tm t') = tm := by
            funext a
            by_cases e : a = t'
            ·subst e; simp [upd]
            ·simp [upd, e]
           rw [hup] at hput
           exact hput
          ·exact hr
         ·exact hr
        refine ⟨hrel, hlv, hob, fun v x hv hx sz' xs b off n c g1 g2 => ?_⟩
        simp at hv hx
        subst hv; subst hx
        rw [hnil] at g2
        simp at g2
    obtain ⟨k1, k2, k3, k4⟩ := hk
    have hone : noOwn ((vs.map (fixZ ti.ez)).flatMap V.scells) = true ∨ ((vs.map (fixZ ti.ez)).flatMap V.scells).length = 1 ∨ len = 1 := by
     rcases c4 with c4 | c4
     ·exact .inr (.inr c4)
     ·left
      simp only [noOwn, List.all_eq_true] at c4 ⊢
      intro y hy
      simp only [List.mem_flatMap] at hy
      obtain ⟨v, hv, hy⟩ := hy
      have := c4 v hv
      cases v with
      | agg cs =>
       simp only [V.scells, List.mem_map] at hy
       obtain ⟨c, _, rfl⟩ := hy
       cases c <;> rfl
      | _ => simp only [V.scells, List.mem_singleton] at hy; subst hy; exact this
    have hone2 : noOwn ((vs.map (fixZ ti.ez)).flatMap V.scells) = true ∨ ((vs.map (fixZ ti.ez)).flatMap V.scells).length = 1 := by
     rcases hone with h | h | h
     ·exact .inl h
     ·exact .inr h
     ·have : vs.length = 1 := by omega
      match vs, this with
      | [v], _ =>
       simp only [List.map_cons, List.map_nil, List.flatMap_cons, List.flatMap_nil, List.append_nil]
       cases hq : fixZ ti.ez v with
       | agg cs =>
        left
        simp only [noOwn, V.scells, List.all_eq_true, List.mem_map]
        rintro y ⟨c, _, rfl⟩
        cases c <;> rfl
       | _ => right; rfl
    obtain ⟨n1, n2⟩ := k1.newRowOb (w' := { w with heap := w.heap.push (.cells cells' e) }) (o := .loc d) (by simp) (by rw [k3]; exact ho') (xs := (vs.map (fixZ ti.ez)).flatMap V.scells) (vs := cells') (ty := e)
     (by rw [List.take_of_length_le (by rw [Array.length_toList]; omega)]; exact hrep) (rowOk_iff.2 fun y hy => by
      simp only [List.mem_flatMap] at hy
      obtain ⟨v, hv, hy⟩ := hy
      exact pure_scells (hpure v hv).2 y hy) (fun _ _ _ _ _ _ _ _ _ _ _ _ _ h1 _ h2 _ => inj_one hone2 h1 h2) (fun j sz' ys b off n c h1 h2 => by
       have hl1 : ((vs.map (fixZ ti.ez)).flatMap V.scells).length = 1 := by
        rcases hone2 with h | h
        ·have := List.all_eq_true.1 h _ (List.mem_of_getElem? h1)
         simp [V.isOwn] at this
        ·exact h
       -- one part alone, a row
       cases hv' : vs with
       | nil => rw [hv'] at h1; simp at h1
       | cons v vs' =>
        have hlv : vs' = [] := by
         cases vs' with
         | nil => rfl
         | cons v2 vs2 =>
          exfalso
          have p1 := (hpure (fixZ ti.ez v) (by rw [hv']; simp)).1
          have p2 := (hpure (fixZ ti.ez v2) (by rw [hv']; simp)).1
          obtain ⟨_, _, _, _, _, _, _, _, _, g7, _⟩ := hti.esz _ _ hsz
          rw [hv'] at hl1
          simp only [List.map_cons, List.flatMap_cons, List.length_append, scells_length, p1, p2] at hl1
          omega
        subst hlv
        rw [hv'] at h1 hl1
        simp only [List.map_cons, List.map_nil, List.flatMap_cons, List.flatMap_nil, List.append_nil] at h1 hl1
        have hj0 : j = 0 := by have := (List.getElem?_eq_some_iff.1 h1).1; omega
        subst hj0
        have hsc : (fixZ ti.ez v).scells = [.own sz' ys] := by
         match hq : (fixZ ti.ez v).scells, hl1 with
         | [y], _ => rw [hq] at h1; simp at h1; rw [h1]
        have hown := scells_one hsc
        cases hp : parts.toList with
        | nil => rw [hv', hp] at hvl; simp at hvl
        | cons p ps =>
         have hps : ps = [] := by
          rw [hv', hp] at hvl
          cases ps with
          | nil => rfl
          | cons => simp at hvl
         subst hps
         have h3 := (hg p.2 v (by rw [hp]; rfl) (by rw [hv']; rfl)).2
         have hcs : (ρ p.2).cells.toList = [.slice (some ⟨b, off, none⟩) n c] := by
          rw [hp] at q1
          simp only [List.flatMap_cons, List.flatMap_nil, List.append_nil] at q1
          rw [← q1]
          have hl2 : cells'.toList.length = 1 := by
           rw [q1]
           have := ((fixZ_rep (ez := ti.ez) h3).scells (by rw [hown]; rfl)).length
           rw [hsc] at this
           simpa using this.symm
          rw [← Array.getElem?_toList] at h2
          match hq : cells'.toList, hl2 with
          | [y], _ => rw [hq] at h2; simp at h2; rw [h2]
         have hval := cells_one (hown ▸ fixZ_rep (ez := ti.ez) h3) hcs
         exact k4 v p.2 (by rw [hv']; rfl) (by rw [hp]; rfl) sz' ys b off n c hown hval) rfl ⟨rfl, rfl, rfl⟩
    rw [hd]
    refine ⟨_, updO μ (.loc d) (some w.heap.size), _, _, .slice (some ⟨w.heap.size, 0, none⟩) len len, q3, .inl rfl, ?_, n2⟩
    rw [St.app_append]
    simp only [St.app]
    exact n1.put (.two _ _ (.one _ _ (.sl _ _ _ _ _ (by simp [updO]) (Nat.le_refl _) (by simp [Heap.put, q2])))) (by simp)
   ·simp [Rd.run] at h
  ·simp [Rd.run] at h
 ·split at h
  ·rename_i hc
   obtain ⟨c1, c2, c3⟩ := hc
   have := rd_pure h
   injection this with this
   subst this
   have hlen : parts.toList.length = len := by
    have := congrArg List.length c1
    simpa using this
   have hpure : ∀ v ∈ vs, v.cells.length = sz ∧ v.pure = true := by
    intro v hv
    have := List.all_eq_true.1 c3 v hv
    simpa using this
   have hpd : ∀ j (hj : j < vs.length) (hj' : j < parts.toList.length), RepD H vs[j].weak (ρ parts.toList[j].2) := fun j hj hj' => RepD.of_pure (hpart j hj hj').1 (hpure _ (List.getElem_mem _)).2
   obtain ⟨e, cells', q1, q2, q3⟩ := buildSlice_run (ρ := ρ) (w := w) ho hti hsz c1 c2 (fun x hx => by
    obtain ⟨j, hj, rfl⟩ := List.getElem_of_mem hx
    have hj2 : j < vs.length := by omega
    have := (hpd j hj2 hj).cells.length
    rw [cells_weak_length, (hpure _ (List.getElem_mem hj2)).1] at this
    simpa using this.symm)
   have hrepL : RepL H ((vs.map V.weak).flatMap V.cells) (parts.toList.flatMap (fun x => (ρ x.2).cells.toList)) := by
    have key : ∀ (xs : List V) (us : List (Nat × Operand)), xs.length = us.length → (∀ j (hj : j < xs.length) (hj' : j < us.length), RepD H xs[j].weak (ρ us[j].2)) →
      RepL H ((xs.map V.weak).flatMap V.cells) (us.flatMap (fun x => (ρ x.2).cells.toList)) := by
     intro xs
     induction xs with
     | nil => intro us h1 _; cases us with | nil => exact .nil | cons => simp at h1
     | cons x xs ih =>
      intro us h1 h2
      cases us with
      | nil => simp at h1
      | cons u us =>
       have h0 := h2 0 (by simp) (by simp)
       simp only [List.map_cons, List.flatMap_cons]
       exact (RepD.cells h0).append (ih us (by simpa using h1) (fun j hj hj' => h2 (j + 1) (by simpa using hj) (by simpa using hj')))
    exact key vs parts.toList hvl hpd
   have hx : ∀ x ∈ vs.map V.weak, x.cells.length = sz := by
    intro x hx
    simp only [List.mem_map] at hx
    obtain ⟨y, hy, rfl⟩ := hx
    rw [cells_weak_length]
    exact (hpure y hy).1
   have hvl2 : vs.length = len := by omega
   obtain ⟨n1, n2, n3, n4, n5⟩ := hr.newRow (w' := { w with heap := w.heap.push (.cells cells' e) }) (c := len) (xs := vs.map V.weak) (flat := parts.toList.flatMap (fun x => (ρ x.2).cells.toList)) rfl ⟨rfl, rfl, rfl⟩
    ⟨[], by rw [q1]; simp⟩ hx hrepL (by simp; omega) (by omega)
   refine ⟨_, μ, _, _, .slice (some ⟨w.heap.size, 0, none⟩) len len, q3, .inl rfl, out_rel n1 (.two _ _ (.one _ _ (by simpa [hvl2] using n3))) (fun sz' xs' b off n c q1 q2 => ?_), n2⟩
   simp only [V.own.injEq] at q1
   obtain ⟨rfl, rfl⟩ := q1
   simp only [Value.slice.injEq, Option.some.injEq, Addr.mk.injEq] at q2
   obtain ⟨⟨rfl, rfl, _⟩, rfl, rfl⟩ := q2
   refine ⟨?_, n5⟩
   simpa [hvl2] using n4
  ·simp [Rd.run] at h
end
end Go.Ax
set_option linter.unusedVariables false
set_option linter.unusedSimpArgs false
namespace Go.Ax
attribute [local simp] look_cons
section
variable {P : Program} {T : Nat → Option TI} {M : Mode} {H H' : Heap} {μ μ' : Oid → Option Nat} {F : Fr} {st st' : St} {tm tm' : Nat → Value} {w w' : World} {ρ : Operand → Value}

theorem fillAll {b top : Nat} : ∀ (us : List Value) (w : World) (H : Heap) (off i : Nat), Rel H μ F st tm w → OwnAt H (live st μ) F w b (off + i) top → (∀ ℓ, ¬ Holds μ st tm w ℓ b) →
  off + i + us.length ≤ top → (∀ u ∈ us, cellV u = true) →
  ∃ H2 w2, (storeCells ⟨b, off, none⟩ us i).run P w = .ok () w2 ∧ Rel H2 μ F st tm w2 ∧ OwnAt H2 (live st μ) F w2 b (off + i + us.length) top ∧ (∀ ℓ, ¬ Holds μ st tm w2 ℓ b) ∧ Ext F H w H2 w2 ∧
   ∀ j (hj : j < us.length), H2 b (off + i + j) = some us[j] := by
 intro us
 induction us with
 | nil => intro w H off i h1 h2 h3 _ _; exact ⟨H, w, by simp [storeCells], h1, by simpa using h2, h3, Ext.refl _ _ _, by simp⟩
 | cons u us ih =>
  intro w H off i h1 h2 h3 h4 h5
  simp at h4
  obtain ⟨g1, g2, g3, g4⟩ := h1.fill1 h2 h3 (by omega) u ⟨fun b' k' => if b' = b ∧ k' = off + i then some u else H b' k', H.size, H.blk⟩
   (fun b' k' hn => by show (if _ then _ else _) = _; rw [if_neg hn]) (by show (if _ then _ else _) = _; simp) rfl
  obtain ⟨H2, w2, k1, k2, k3, k4, k5, k6⟩ := ih _ _ off (i + 1) g1 (by simpa [Nat.add_assoc] using g2) g3 (by omega) (fun x hx => h5 x (by simp [hx]))
  refine ⟨H2, w2, ?_, k2, by simpa [Nat.add_assoc, Nat.add_comm, Nat.add_left_comm] using k3, k4, g4.trans k5, fun j hj => ?_⟩
  ·obtain ⟨⟨vs, ty, hblk, htop⟩, _⟩ := h2
   have hcell : w.cell? ⟨b, off + i, none⟩ = some (vs[off + i]'(by omega)) := by rw [cell?_of hblk]; exact Array.getElem?_eq_getElem (by omega)
   have hfr : w.frozen? ⟨b, off + i, none⟩ = false := by simp [World.frozen?, hblk]
   rw [storeCells]
   simp only [Sem.run_bind, addr_add, run_store _ _ _ _ _ (cellV_one (h5 u (by simp))), hcell, hfr, Bool.false_eq_true, if_false, Result.andThen_ok]
   exact k1
  ·cases j with
   | zero => exact k5.le.cell _ _ _ (by simp)
   | succ j =>
    have := k6 j (by simpa using hj)
    rw [show off + i + (j + 1) = off + (i + 1) + j from by omega]
    simpa using this

/-- The cells of what is appended. -/
theorem first_run (hr : Rel H μ F st tm w) {y : V} {v : Value} {sz : Nat} {ys : List V} (h : RepS H μ y v) (he : y.elems = some (sz, ys)) :
  ∃ flat : List Value, (∀ w', (∀ b k u, H b k = some u → w'.cell? ⟨b, k, none⟩ = some u) → (Builtin.firstCells sz ys.length v).run P w' = .ok flat.toArray w') ∧
   (Builtin.lenOf v).run P w = .ok ys.length w ∧ flat.length = ys.length * sz ∧ (∀ x ∈ ys, x.cells.length = sz) ∧ RepL H (ys.flatMap V.cells) flat := by
 rcases h.elems he with ⟨rfl, rfl⟩ | ⟨q, _, rfl, rfl⟩ | ⟨b, off, c, rfl, hc, hrow⟩
 ·exact ⟨[], fun w' _ => by simp [Builtin.firstCells], by simp [Builtin.lenOf], by simp, by simp, .nil⟩
 ·exact ⟨[], fun w' _ => by simp [Builtin.firstCells, loadCells, loadCellsFrom], by simp [Builtin.lenOf], by simp, by simp, .nil⟩
 ·obtain ⟨flat, f1, f2, f3, f4⟩ := hrow.flat
  refine ⟨flat, fun w' hw => ?_, by simp [Builtin.lenOf], f1, f2, f3⟩
  simp only [Builtin.firstCells]
  exact loadCells_run (fun j hj => hw _ _ _ (f4 j hj)) (by omega)

/-- What append does: where there is room, and where there is none. -/
theorem append_run {ti : TI} {t : TypeId} (hti : TIok P t ti) {sz bytes : Nat} (hsz : ti.esz = some (sz, bytes)) {o : Oper} {x z : Operand}
  (ho : o.op = .call { callee := .builtin .append, args := #[x, z], argTypes := #[t, t] }) {n m c : Nat} {base : Option Addr} (hx : ρ x = .slice base n c) {flat : List Value}
  (hfl : ∀ w' : World, w'.heap = w.heap → (Builtin.firstCells sz m (ρ z)).run P w' = .ok flat.toArray w') (hlen : ∀ w' : World, (Builtin.lenOf (ρ z)).run P w' = .ok m w') (hfs : flat.length = m * sz)
  (hlim : (n + m) * bytes ≤ 140737488355328) :
  (n + m ≤ c → (execOp ρ o).run P w = (match base with | some a => (storeCells (a.add (n * sz)) flat).run P w | none => .ok () w).andThen fun _ w2 => .ok (.value (.slice base (n + m) c)) w2) ∧
  (¬ n + m ≤ c → ∀ old : List Value, (∀ w' : World, w'.heap = w.heap → (Builtin.firstCells sz n (.slice base n c)).run P w' = .ok old.toArray w') → old.length = n * sz →
   ∃ (newCap : Nat) (w1 : World) (e : TypeId) (zs : Array Value), n + m ≤ newCap ∧ w1.heap = w.heap ∧ Io w w1 ∧ (old.toArray ++ flat.toArray ++ zs).size = newCap * sz ∧
    (execOp ρ o).run P w = .ok (.value (.slice (some ⟨w1.heap.size, 0, none⟩) (n + m) newCap)) { w1 with heap := w1.heap.push (.cells (old.toArray ++ flat.toArray ++ zs) e) }) := by
 obtain ⟨e, ie, zz, g1, g2, g3, g4, g5, g6, g7, g8⟩ := hti.esz _ _ hsz
 have hbytes : ¬ ie.bytes = 0 := by omega
 have hexec : (execOp ρ o).run P w = ((Builtin.append_ #[t, t] o.type #[ρ x, ρ z]).run P w).andThen fun v w' => .ok (.value v) w' := by
  simp only [execOp, ho, resolve, Sem.run_bind, Sem.run_pure, Result.andThen_ok, invoke, builtin, List.map_toArray, List.map_cons, List.map_nil]
 refine ⟨fun hle => ?_, fun hle old hold ho2 => ?_⟩
 ·have hf := hfl w rfl
  rw [hexec]
  simp only [Builtin.append_, hx, List.getElem?_toArray, List.getElem?_cons_zero, List.getElem?_cons_succ, Sem.run_bind, runUnder g1, Result.andThen_ok, runSize g2, g3, Sem.run_pure,
   Bool.false_eq_true, if_false, hlen, hle, if_true, Bool.not_false, hf]
  cases base with
  | none => simp only [Sem.run_pure, Result.andThen_ok]
  | some a =>
   simp only [Sem.run_bind, Sem.run_pure]
   cases (storeCells (a.add (n * sz)) flat).run P w <;> rfl
 ·have hfit : ¬ Builtin.nextslicecap (n + m) c * ie.bytes > 2 ^ 48 := by
   have := growslice_fits (need := n + m) (old := c) (bytes := ie.bytes) (by omega) (by rw [g4]; exact hlim)
   omega
  have o1 := hold { w with drawn := w.drawn + 1 } rfl
  have hf := hfl { w with drawn := w.drawn + 1 } rfl
  refine ⟨(Question.appendCap (n + m) c e).cut (w.tape w.drawn (.appendCap (n + m) c e)), { w with drawn := w.drawn + 1 }, e, Builtin.zeroCells zz.cells ((Question.appendCap (n + m) c e).cut (w.tape w.drawn (.appendCap (n + m) c e)) - (n + m)), by simp [Question.cut], rfl, ⟨rfl, rfl, rfl⟩, ?_, ?_⟩
  ·have hcap : n + m ≤ (Question.appendCap (n + m) c e).cut (w.tape w.drawn (.appendCap (n + m) c e)) := by simp [Question.cut]
   simp only [Array.size_append, List.size_toArray, ho2, hfs, Builtin.zeroCells, Array.size_map, Array.size_range, g6]
   rw [← Nat.add_mul, ← Nat.add_mul]
   congr 1
   omega
  ·rw [hexec]
   simp only [Builtin.append_, hx, List.getElem?_toArray, List.getElem?_cons_zero, List.getElem?_cons_succ, Sem.run_bind, runUnder g1, Result.andThen_ok, runSize g2, g3, Sem.run_pure,
    Bool.false_eq_true, if_false, hlen, hle, Bool.not_false, if_true, runInfo g2, hbytes, or_self, and_false, hfit, run_choose, Question.forced, run_askRoom, o1, hf, runZero g2 g5, newRow, run_newObj]

/-- Cells behind an object's last are written. -/
theorem pushCells_run {o : Oid} {b : Nat} (hb : μ o = some b) : ∀ (xs : List V) (us : List Value) (st : St) (w : World) (cs : List V) (k i : Nat), Rel H μ F st tm w → st.ob o = some (.cells true cs) → k + i = cs.length →
  RepC H μ xs us → k + i + xs.length ≤ H.size b → rowOk xs = true → (noOwn xs = true ∨ xs.length = 1) →
  (∀ (j sz : Nat) (ys : List V) (b' o' n c : Nat), xs[j]? = some (.own sz ys) → us[j]? = some (.slice (some ⟨b', o', none⟩) n c) → OwnAt H (live st μ) F w b' (o' + n * sz) (o' + c * sz) ∧ ∀ ℓ, ¬ Holds μ st tm w ℓ b') →
  ∃ w', (storeCells ⟨b, k, none⟩ us i).run P w = .ok () w' ∧ Rel H μ F (st.putO o (.cells true (cs ++ xs))) tm w' ∧ Ext F H w H w' := by
 intro xs
 induction xs with
 | nil =>
  intro us st w cs k i hr ho hk hc hle _ _ _
  cases hc
  refine ⟨w, by simp [storeCells], hr.congr (fun t => rfl) (fun u => ?_), Ext.refl _ _ _⟩
  simp only [St.ob_putO, List.append_nil]
  split
  ·rename_i h; subst h; exact ho.symm
  ·rfl
 | cons x xs ih =>
  intro us st w cs k i hr ho hk hc hle hrow hone hown
  cases hc with
  | cons _ u _ us hx hv hrep hs =>
   have hlv := hr.cellsLive ho hb
   obtain ⟨vs, ty, hblk, hrep', _⟩ := hr.cellsAt ho hb
   have hsz := hr.size b
   rw [blkSize_of hblk] at hsz
   have hlt : k + i < vs.size := by simp at hle; omega
   have hset := hr.setCell hb ho (.inr ⟨hk, rfl, by rw [blkSize_of hblk]; exact hlt⟩) hx hv hrep (fun _ => rowOk_iff.1 hrow x (by simp)) (fun sz ys b' o' n c e1 e2 => hown 0 sz ys b' o' n c (by simp [e1]) (by simp [e2]))
   have hno : noOwn xs = true := by
    rcases hone with h | h
    ·simp only [noOwn, List.all_cons, Bool.and_eq_true] at h
     exact h.2
    ·have : xs = [] := by cases xs <;> simp at h ⊢
     subst this
     rfl
   obtain ⟨w2, g1, g2, g3⟩ := ih us (st.putO o (.cells true (cs ++ [x]))) (w.setCell ⟨b, k + i, none⟩ u) (cs ++ [x]) k (i + 1) hset
    (by simp [St.ob_putO]) (by simp; omega) hs (by simp at hle ⊢; omega) (rowOk_iff.2 fun y hy => rowOk_iff.1 hrow y (by simp [hy])) (.inl hno)
    (fun j sz ys b' o' n c e1 _ => by
     have := List.all_eq_true.1 hno _ (List.mem_of_getElem? e1)
     simp [V.isOwn] at this)
   refine ⟨w2, ?_, g2.congr (fun t => rfl) (fun u' => ?_), (Ext.setCell hr hlv (k + i) u).trans g3⟩
   ·have hcell : w.cell? ⟨b, k + i, none⟩ = some (vs[k + i]'hlt) := by rw [cell?_of hblk]; exact Array.getElem?_eq_getElem hlt
    have hfr : w.frozen? ⟨b, k + i, none⟩ = false := by simp [World.frozen?, hblk]
    rw [storeCells]
    simp only [Sem.run_bind, addr_add, run_store _ _ _ _ _ (cellV_one hv), hcell, hfr, Bool.false_eq_true, if_false, Result.andThen_ok]
    exact g1
   ·simp only [St.ob_putO, List.append_assoc, List.cons_append, List.nil_append]
    split <;> rfl

theorem RepL.pure {xs us} (h : RepL H xs us) : ∀ x ∈ xs, x.pure1 = true := by
 induction xs generalizing us with
 | nil => simp
 | cons x xs ih =>
  cases h with
  | cons _ v _ us h1 h hs =>
   intro y hy
   rcases List.mem_cons.1 hy with rfl | hy
   ·cases h <;> first | rfl | simp [V.isCell] at h1
   ·exact ih hs y hy
theorem RepL.noOwn {xs us} (h : RepL H xs us) : Go.Ax.noOwn xs = true := by
 simp only [Go.Ax.noOwn, List.all_eq_true]
 induction xs generalizing us with
 | nil => simp
 | cons x xs ih =>
  cases h with
  | cons _ v _ us h1 h hs =>
   intro y hy
   rcases List.mem_cons.1 hy with rfl | hy
   ·cases h <;> rfl
   ·exact ih hs y hy
theorem RepC.take' {cs vs} (h : RepC H μ cs vs) (n : Nat) : RepC H μ (cs.take n) (vs.take n) := by
 have hl := h.length
 refine RepC.of_get (by simp; omega) fun j hj hj' => ?_
 simp only [List.getElem_take]
 exact h.get _ _ _

/-- A row that is written to grows. -/
theorem appendSl (hr : Rel H μ F st tm w) {sz n m c : Nat} {u : Oid} {cs ws : List V} {flat : List Value} {base : Option Addr} {s : Sem Next} {dst : Option Nat}
  (hu : st.ob u = some (.cells true cs)) (hau : st.ob (.alt u) = none) (hn : n * sz ≤ cs.length) (hsz : 0 < sz)
  (hbase : (n = 0 ∧ base = none ∧ c = 0) ∨ ∃ b, base = some ⟨b, 0, none⟩ ∧ μ u = some b ∧ n ≤ c ∧ c * sz ≤ H.size b)
  (hw : RepC H μ ws flat) (hwr : rowOk ws = true) (hfs : flat.length = m * sz) (hone : noOwn ws = true ∨ ws.length = 1)
  (hown : ∀ (j sz : Nat) (ys : List V) (b' o' n c : Nat), ws[j]? = some (.own sz ys) → flat[j]? = some (.slice (some ⟨b', o', none⟩) n c) → OwnAt H (live st μ) F w b' (o' + n * sz) (o' + c * sz) ∧ ∀ ℓ, ¬ Holds μ st tm w ℓ b')
  (hA : n + m ≤ c → s.run P w = (match base with | some a => (storeCells (a.add (n * sz)) flat).run P w | none => .ok () w).andThen fun _ w2 => .ok (.value (.slice base (n + m) c)) w2)
  (hB : ¬ n + m ≤ c → ∀ old : List Value, (∀ w' : World, w'.heap = w.heap → (Builtin.firstCells sz n (.slice base n c)).run P w' = .ok old.toArray w') → old.length = n * sz →
   ∃ (newCap : Nat) (w1 : World) (e : TypeId) (zs : Array Value), n + m ≤ newCap ∧ w1.heap = w.heap ∧ Io w w1 ∧ (old.toArray ++ flat.toArray ++ zs).size = newCap * sz ∧
    s.run P w = .ok (.value (.slice (some ⟨w1.heap.size, 0, none⟩) (n + m) newCap)) { w1 with heap := w1.heap.push (.cells (old.toArray ++ flat.toArray ++ zs) e) }) :
  Good P H μ F tm w dst (((st.putO u .dead).putO (.alt u) (.cells true (cs.take (n * sz) ++ ws))).app (out dst (.sl sz (.alt u) (n + m)))) s := by
 obtain ⟨k1, k2, k3, k4⟩ := hr.kill (o := u) (by rw [hu]; simp)
 have hne : u ≠ .alt u := by intro e; rw [← e, hu] at hau; simp at hau
 have hau' : (st.putO u .dead).ob (.alt u) = none := by rw [St.ob_putO, if_neg hne]; exact hau
 have hwl : ws.length = m * sz := by rw [hw.length, hfs]
 have hsub : ∀ o b, live (st.putO u .dead) μ o = some b → live st μ o = some b := by
  intro o b h
  rw [live_kill] at h
  split at h
  ·simp at h
  ·exact h
 -- the old row's cells, wherever they lie now
 have hrow : ∀ b, μ u = some b → rowOk cs = true := fun b hb => by
  obtain ⟨vs, ty, _, _, h3⟩ := hr.cellsAt hu hb
  exact h3 rfl
 by_cases hle : n + m ≤ c
 ·rcases hbase with ⟨rfl, rfl, rfl⟩ | ⟨b, rfl, hb, hnc, hcs⟩
  ·have hm : m = 0 := by omega
   subst hm
   have hws : ws = [] := List.eq_nil_of_length_eq_zero (by omega)
   subst hws
   have k5 := k1.addNil (o := .alt u) (by simp) hau'
   refine good_same (v := .slice none 0 0) (by rw [hA hle]; rfl) ?_
   simp only [Nat.zero_mul, List.take_zero, List.append_nil]
   exact out_rel' k5 (.two _ _ (.one _ _ (.sl0 _ _))) rfl
  ·have hlb := hr.cellsLive hu hb
   obtain ⟨vs, ty, hblk, hrep, hro⟩ := hr.cellsAt hu hb
   have hlenr := hrep.length
   rw [List.length_take] at hlenr
   have hlen2 : cs.length ≤ vs.size := by simp at hlenr; omega
   have hold : ∀ ℓ, ¬ Holds μ st tm w ℓ b := by
    rintro ℓ ⟨sz', xs', off', n', c', hl⟩
    exact (hr.own _ _ _ _ _ _ _ hl).noobj u hlb
   have hlm : LeM μ (updO μ (.alt u) (some b)) := by
    intro v b' hb'
    unfold updO
    by_cases e : v = .alt u
    ·subst e; rw [hr.dom _ hau] at hb'; simp at hb'
    ·simpa [e] using hb'
   have hatu : ∀ j sz' xs' b' off' n' c', (cs.take (n * sz))[j]? = some (.own sz' xs') → w.cell? ⟨b, j, none⟩ = some (.slice (some ⟨b', off', none⟩) n' c') → atL μ st tm w (.o u j) (.own sz' xs') (.slice (some ⟨b', off', none⟩) n' c') := by
    intro j sz' xs' b' off' n' c' h1 h2
    have h3 : cs[j]? = some (.own sz' xs') := by
     rw [List.getElem?_take] at h1
     split at h1
     ·exact h1
     ·simp at h1
    exact ⟨true, cs, b, hu, hb, h3, h2⟩
   have k5 := k1.addOb (o := .alt u) (by simp) hau' (x := .cells true (cs.take (n * sz))) rfl (b := b)
    ⟨vs, ty, hblk, by
     have := (hrep.take' (n * sz)).mono (Le.refl _) hlm
     rw [List.take_take] at this
     rw [List.length_take]
     exact this, fun _ => rowOk_iff.2 fun y hy => rowOk_iff.1 (hro rfl) y (List.mem_of_mem_take hy)⟩
    (k3 b hlb) (hr.objH u b hlb) (hr.objF u b hlb) (fun ℓ hl => hold ℓ (k4 _ _ hl))
    (fun row cs' j sz' xs' b' off' n' c' e1 e2 e3 => by
     simp only [Ob.cells.injEq] at e1
     obtain ⟨_, rfl⟩ := e1
     have hl := hatu j sz' xs' b' off' n' c' e2 e3
     have ho := hr.own _ _ _ _ _ _ _ hl
     exact ⟨fun e => ho.noobj u (e ▸ hlb), ho.sub hsub, k2 j b' ⟨_, _, _, _, _, hl⟩⟩)
    (fun j j' b' h1 h2 => by
     obtain ⟨row, cs1, sz1, xs1, off1, n1, c1, e1, e2, e3⟩ := h1
     obtain ⟨row', cs1', sz1', xs1', off1', n1', c1', e1', e2', e3'⟩ := h2
     simp only [Ob.cells.injEq] at e1 e1'
     obtain ⟨_, rfl⟩ := e1
     obtain ⟨_, rfl⟩ := e1'
     have := hr.ownInj _ _ b' ⟨_, _, _, _, _, hatu _ _ _ _ _ _ _ e2 e3⟩ ⟨_, _, _, _, _, hatu _ _ _ _ _ _ _ e2' e3'⟩
     simpa using this)
   have hlv5 : ∀ v b', live ((st.putO u .dead).putO (.alt u) (.cells true (cs.take (n * sz)))) (updO μ (.alt u) (some b)) v = some b' → live st μ v = some b' ∨ b' = b := by
    intro v b' h
    rw [live_add rfl] at h
    split at h
    ·simp at h; exact .inr h.symm
    ·exact .inl (hsub _ _ h)
   have hho5 : ∀ ℓ b', Holds (updO μ (.alt u) (some b)) ((st.putO u .dead).putO (.alt u) (.cells true (cs.take (n * sz)))) tm w ℓ b' → ∃ ℓ', Holds μ st tm w ℓ' b' := by
    rintro ℓ b' ⟨sz1, xs1, off1, n1, c1, hl⟩
    cases ℓ with
    | t q => exact ⟨.t q, sz1, xs1, off1, n1, c1, hl⟩
    | o v j =>
     obtain ⟨row, cs1, b1, h1, h2, h3, h4⟩ := hl
     rw [St.ob_putO] at h1
     by_cases e : (Oid.alt u) = v
     ·rw [if_pos e] at h1
      simp only [Option.some.injEq, Ob.cells.injEq] at h1
      obtain ⟨rfl, rfl⟩ := h1
      subst e
      simp [updO] at h2
      subst h2
      exact ⟨.o u j, _, _, _, _, _, hatu _ _ _ _ _ _ _ h3 h4⟩
     ·rw [if_neg e] at h1
      simp only [updO, Ne.symm e, if_false] at h2
      exact ⟨.o v j, k4 (.o v j) b' ⟨sz1, xs1, off1, n1, c1, ⟨row, cs1, b1, h1, h2, h3, h4⟩⟩⟩
   have hidx : n * sz + m * sz ≤ H.size b := by
    have := Nat.mul_le_mul_right sz hle
    rw [Nat.add_mul] at this
    omega
   obtain ⟨w2, p1, p2, p3⟩ := pushCells_run (P := P) (o := .alt u) (b := b) (by simp [updO]) ws flat _ w (cs.take (n * sz)) (n * sz) 0 k5 (by simp [St.ob_putO]) (by rw [List.length_take]; omega) (hw.mono (Le.refl _) hlm) (by omega) hwr hone
    (fun j sz' ys b' o' n' c' e1 e2 => by
     obtain ⟨ho, hh⟩ := hown j sz' ys b' o' n' c' e1 e2
     refine ⟨⟨ho.blk, ho.free, fun v hv => ?_, ho.nofr⟩, fun ℓ hl => ?_⟩
     ·rcases hlv5 v b' hv with h | h
      ·exact ho.noobj v h
      ·exact ho.noobj u (h ▸ hlb)
     ·obtain ⟨ℓ', hl'⟩ := hho5 _ _ hl
      exact hh ℓ' hl')
   refine ⟨H, updO μ (.alt u) (some b), w2, _, .slice (some ⟨b, 0, none⟩) (n + m) c, ?_, .inl rfl, ?_, p3⟩
   ·rw [hA hle]
    simp only [addr_add, Nat.zero_add, p1, Result.andThen_ok]
   ·have p4 : Rel H (updO μ (.alt u) (some b)) F ((st.putO u .dead).putO (.alt u) (.cells true (cs.take (n * sz) ++ ws))) tm w2 := p2.congr (fun _ => rfl) fun v => by
     simp only [St.ob_putO]
     split <;> rfl
    refine out_rel' (x := .sl sz (.alt u) (n + m)) p4 (.two _ _ (.one _ _ (.sl _ _ b _ _ (by simp [updO]) hle hcs))) rfl
 ·-- a new place
  have hold : ∃ old : List Value, (∀ w' : World, w'.heap = w.heap → (Builtin.firstCells sz n (.slice base n c)).run P w' = .ok old.toArray w') ∧ old.length = n * sz ∧ RepC H μ (cs.take (n * sz)) old ∧
    (∀ j sz' xs' b' off' n' c', (cs.take (n * sz))[j]? = some (.own sz' xs') → old[j]? = some (.slice (some ⟨b', off', none⟩) n' c') → atL μ st tm w (.o u j) (.own sz' xs') (.slice (some ⟨b', off', none⟩) n' c')) := by
   rcases hbase with ⟨rfl, rfl, rfl⟩ | ⟨b, rfl, hb, hnc, hcs⟩
   ·refine ⟨[], fun w' _ => by simp [Builtin.firstCells], by simp, by simpa using RepC.nil, by simp⟩
   ·obtain ⟨vs, ty, hblk, hrep, hro⟩ := hr.cellsAt hu hb
    have hlenr := hrep.length
    rw [List.length_take] at hlenr
    have hlen2 : cs.length ≤ vs.size := by simp at hlenr; omega
    have hol : (vs.toList.take (n * sz)).length = n * sz := by rw [List.length_take]; simp; omega
    refine ⟨vs.toList.take (n * sz), fun w' hw' => ?_, hol, ?_, fun j sz' xs' b' off' n' c' h1 h2 => ?_⟩
    ·simp only [Builtin.firstCells]
     refine loadCells_run (fun j hj => ?_) hol.symm
     rw [Nat.zero_add, cell?_of (by rw [hw']; exact hblk)]
     rw [hol] at hj
     simp only [List.getElem_take, Array.getElem_toList]
     exact Array.getElem?_eq_getElem (by omega)
    ·have := hrep.take' (n * sz)
     rw [List.take_take, Nat.min_eq_left hn] at this
     exact this
    ·have h3 : cs[j]? = some (.own sz' xs') := by
      rw [List.getElem?_take] at h1
      split at h1
      ·exact h1
      ·simp at h1
     have h4 : vs[j]? = some (.slice (some ⟨b', off', none⟩) n' c') := by
      rw [List.getElem?_take] at h2
      split at h2
      ·simpa using h2
      ·simp at h2
     exact ⟨true, cs, b, hu, hb, h3, by rw [cell?_of hblk]; exact h4⟩
  obtain ⟨old, o1, o2, o3, o4⟩ := hold
  obtain ⟨newCap, w1, e, zs, q1, q2, q3, q4, q5⟩ := hB hle old o1 o2
  have hr1 : Rel H μ F (st.putO u .dead) tm w1 := k1.world q2
  have hcr : rowOk (cs.take (n * sz)) = true := by
   rcases hbase with ⟨rfl, _, _⟩ | ⟨b, _, hb, _, _⟩
   ·simp [rowOk]
   ·exact rowOk_iff.2 fun y hy => rowOk_iff.1 (hrow b hb) y (List.mem_of_mem_take hy)
  have hcl : (cs.take (n * sz)).length = n * sz := by rw [List.length_take]; omega
  have hw1 : ∀ ℓ x v, atL μ (st.putO u .dead) tm w1 ℓ x v → atL μ (st.putO u .dead) tm w ℓ x v := by
   intro ℓ x v hl
   cases ℓ with
   | t _ => exact hl
   | o v' j =>
    obtain ⟨row, cs1, b1, h1, h2, h3, h4⟩ := hl
    exact ⟨row, cs1, b1, h1, h2, h3, by rw [← cell?_eq (w := w) (w' := w1) (by rw [q2])]; exact h4⟩
  have hho1 : ∀ ℓ b', Holds μ (st.putO u .dead) tm w1 ℓ b' → Holds μ (st.putO u .dead) tm w ℓ b' := fun ℓ b' ⟨a1, a2, a3, a4, a5, hl⟩ => ⟨a1, a2, a3, a4, a5, hw1 _ _ _ hl⟩
  have hblk1 : ∀ b' e' t', OwnAt H (live st μ) F w b' e' t' → OwnAt H (live (st.putO u .dead) μ) F w1 b' e' t' := by
   rintro b' e' t' ⟨⟨vs', ty', h1, h2⟩, h3, h4, h5⟩
   exact ⟨⟨vs', ty', by rw [q2]; exact h1, h2⟩, h3, fun o ho => h4 o (hsub _ _ ho), h5⟩
  have hget : ∀ (j sz' : Nat) (ys : List V) (b' off' n' c' : Nat), (cs.take (n * sz) ++ ws)[j]? = some (.own sz' ys) → (old.toArray ++ flat.toArray ++ zs)[j]? = some (.slice (some ⟨b', off', none⟩) n' c') →
    ((cs.take (n * sz))[j]? = some (.own sz' ys) ∧ old[j]? = some (.slice (some ⟨b', off', none⟩) n' c') ∧ j < n * sz) ∨ (ws[j - n * sz]? = some (.own sz' ys) ∧ flat[j - n * sz]? = some (.slice (some ⟨b', off', none⟩) n' c') ∧ n * sz ≤ j) := by
   intro j sz' ys b' off' n' c' h1 h2
   have hj := (List.getElem?_eq_some_iff.1 h1).1
   rw [List.length_append, hcl, hwl] at hj
   by_cases hjn : j < n * sz
   ·left
    rw [List.getElem?_append_left (by omega)] at h1
    rw [Array.getElem?_append_left (by simp; omega), Array.getElem?_append_left (by simp; omega)] at h2
    exact ⟨h1, by simpa using h2, hjn⟩
   ·right
    rw [List.getElem?_append_right (by omega), hcl] at h1
    rw [Array.getElem?_append_left (by simp; omega), Array.getElem?_append_right (by simp; omega)] at h2
    exact ⟨h1, by simpa [o2] using h2, by omega⟩
  obtain ⟨n1, n2⟩ := hr1.newRowOb (w' := { w1 with heap := w1.heap.push (.cells (old.toArray ++ flat.toArray ++ zs) e) }) (o := .alt u) (by simp) hau' (xs := cs.take (n * sz) ++ ws) (vs := old.toArray ++ flat.toArray ++ zs) (ty := e)
   (by
    have : (old.toArray ++ flat.toArray ++ zs).toList.take (cs.take (n * sz) ++ ws).length = old ++ flat := by
     rw [List.length_append, hcl, hwl]
     simp only [Array.toList_append]
     rw [List.take_append_of_le_length (by simp; omega), List.take_of_length_le (by simp; omega)]
    rw [this]
    exact o3.append' hw)
   (rowOk_iff.2 fun y hy => by
    rcases List.mem_append.1 hy with hy | hy
    ·exact rowOk_iff.1 hcr y hy
    ·exact rowOk_iff.1 hwr y hy)
   (fun j j' sz1 ys1 off1 n1 c1 sz2 ys2 off2 n2 c2 b' h1 h2 h3 h4 => by
    rcases hget _ _ _ _ _ _ _ h1 h2 with ⟨a1, a2, a3⟩ | ⟨a1, a2, a3⟩ <;> rcases hget _ _ _ _ _ _ _ h3 h4 with ⟨b1, b2, b3⟩ | ⟨b1, b2, b3⟩
    ·have := hr.ownInj _ _ b' ⟨_, _, _, _, _, o4 _ _ _ _ _ _ _ a1 a2⟩ ⟨_, _, _, _, _, o4 _ _ _ _ _ _ _ b1 b2⟩
     simpa using this
    ·exact absurd ⟨_, _, _, _, _, o4 _ _ _ _ _ _ _ a1 a2⟩ ((hown _ _ _ _ _ _ _ b1 b2).2 (.o u j))
    ·exact absurd ⟨_, _, _, _, _, o4 _ _ _ _ _ _ _ b1 b2⟩ ((hown _ _ _ _ _ _ _ a1 a2).2 (.o u j'))
    ·have := inj_one hone a1 b1
     omega)
   (fun j sz' ys b' off' n' c' h1 h2 => by
    rcases hget _ _ _ _ _ _ _ h1 h2 with ⟨a1, a2, a3⟩ | ⟨a1, a2, a3⟩
    ·have hl := o4 _ _ _ _ _ _ _ a1 a2
     exact ⟨hblk1 _ _ _ (hr.own _ _ _ _ _ _ _ hl), fun ℓ hl' => k2 j b' ⟨_, _, _, _, _, hl⟩ ℓ (hho1 _ _ hl')⟩
    ·obtain ⟨ho, hh⟩ := hown _ _ _ _ _ _ _ a1 a2
     exact ⟨hblk1 _ _ _ ho, fun ℓ hl' => hh ℓ (k4 _ _ (hho1 _ _ hl'))⟩) rfl ⟨rfl, rfl, rfl⟩
  refine ⟨_, updO μ (.alt u) (some w1.heap.size), _, _, .slice (some ⟨w1.heap.size, 0, none⟩) (n + m) newCap, q5, .inl rfl, ?_, (Ext.world q2 q3).trans n2⟩
  exact out_rel' (x := .sl sz (.alt u) (n + m)) n1 (.two _ _ (.one _ _ (.sl _ _ w1.heap.size _ _ (by simp [updO]) q1 (by show newCap * sz ≤ (if _ then _ else _); rw [if_pos rfl, q4]; exact Nat.le_refl _)))) rfl

theorem good_append (hT : TabOk P T) (hr : Rel H μ F st tm w) (hρ : Env ρ tm) {o : Oper} {args : Array Operand} {at' : Array TypeId}
  (ho : o.op = .call { callee := .builtin .append, args := args, argTypes := at' }) {l : List Wr}
  (h : (opS T M o).run st = some (.ws l)) : Good P H μ F tm w o.dst (st.app l) (execOp ρ o) := by
 unfold opS at h
 rw [ho] at h
 replace h := rd_bind _ _ _ h
 obtain ⟨vs, hvs, h⟩ := h
 obtain ⟨e1, e2⟩ := evs_rep hr hρ hvs
 replace h := rd_bind _ _ _ h
 obtain ⟨t, ht, h⟩ := h
 have ht := rd_rOpt ht
 replace h := rd_bind _ _ _ h
 obtain ⟨ti, hti, h⟩ := h
 have hti := hT _ _ (rd_rOpt hti)
 replace h := rd_bind _ _ _ h
 obtain ⟨⟨sz, bytes⟩, hsz, h⟩ := h
 have hsz := rd_rOpt hsz
 dsimp only at h
 obtain ⟨_, _, _, _, _, _, _, _, _, hsz0, _⟩ := hti.esz _ _ hsz
 -- the two arguments
 have hargs : ∀ (p q : V), vs.map (fixT (some ti)) = [p, q] → at'.toList = [t, t] → ∃ (x z : Operand) (v0 v1 : V), args = #[x, z] ∧ at' = #[t, t] ∧ vs = [v0, v1] ∧ fixT (some ti) v0 = p ∧ fixT (some ti) v1 = q ∧ RepS H μ p (ρ x) ∧ RepS H μ q (ρ z) ∧ (ev x).run st = some v0 := by
  intro p q hmap hat
  have hvl : vs.length = 2 := by
   have := congrArg List.length hmap
   simpa using this
  obtain ⟨x, z, rfl⟩ := list2 (l := args) (by omega)
  obtain ⟨v0, v1, rfl⟩ : ∃ v0 v1, vs = [v0, v1] := by
   match vs, hvl with
   | [a, b], _ => exact ⟨a, b, rfl⟩
  have hat' : at' = #[t, t] := by
   apply Array.ext'
   simpa using hat
  simp at hmap
  obtain ⟨hm0, hm1⟩ := hmap
  have r0 := e2 0 (by simp) (by simp)
  have r1 := e2 1 (by simp) (by simp)
  simp at r0 r1
  exact ⟨x, z, v0, v1, rfl, hat', rfl, hm0, hm1, hm0 ▸ fixT_rep' r0.1, hm1 ▸ fixT_rep' r1.1, r0.2⟩
 split at h
 ·rename_i s xs y hmap
  replace h := rd_bind _ _ _ h
  obtain ⟨⟨s', ys⟩, hys, h⟩ := h
  have hys := rd_rOpt hys
  dsimp only at h
  split at h
  ·rename_i hc
   obtain ⟨rfl, rfl, hlim, hat⟩ := hc
   have := rd_pure h
   injection this with this
   subst this
   clear h
   obtain ⟨x, z, v0, v1, rfl, rfl, rfl, hm0, hm1, hx, hy, hev⟩ := hargs _ _ hmap hat
   obtain ⟨flat, f1, f2, f3, f4, f5⟩ := first_run (P := P) hr hy hys
   obtain ⟨k1, k2⟩ := giveUp_rel (ti := some ti) hr hρ hev rfl
   rw [hm0] at k1 k2
   have hga : giveUp ((#[x, z] : Array Operand).getD 0 (.global 0)) (.own s' xs) = giveUp x (.own s' xs) := rfl
   rw [hga, St.app_append]
   generalize hst1 : st.app (giveUp x (.own s' xs)) = st1 at k1 k2
   have hcells : ∀ u ∈ flat, cellV u = true := f5.cellsV
   have hlenOf : ∀ w' : World, (Builtin.lenOf (ρ z)).run P w' = .ok ys.length w' := by
    intro w'
    rcases hy.elems hys with ⟨e, e'⟩ | ⟨_, _, e, e'⟩ | ⟨b, off, c, e, _⟩
    ·rw [e, e']; simp [Builtin.lenOf]
    ·rw [e, e']; simp [Builtin.lenOf]
    ·rw [e]; simp [Builtin.lenOf]
   have hlenA : (xs ++ ys).length = xs.length + ys.length := List.length_append
   have hap := fun (c : Nat) (base : Option Addr) (hb : ρ x = .slice base xs.length c) => append_run (P := P) (w := w) hti hsz ho hb (fun w' hw' => f1 w' (fun b k u hu => by rw [cell?_eq (w := w) (w' := w') (by rw [hw'])]; exact hr.heap _ _ _ hu)) hlenOf f3 hlim
   -- a new row
   have hgrow : ∀ (base : Option Addr) (c : Nat) (hbase : ρ x = .slice base xs.length c), ¬ xs.length + ys.length ≤ c → (∀ q ∈ xs, q.cells.length = s') →
     ∀ old : List Value, (∀ w' : World, w'.heap = w.heap → (Builtin.firstCells s' xs.length (.slice base xs.length c)).run P w' = .ok old.toArray w') → old.length = xs.length * s' → RepL H (xs.flatMap V.cells) old →
     Good P H μ F tm w o.dst (st1.app (out o.dst (.own s' (xs ++ ys)))) (execOp ρ o) := by
    intro base c hbase hle hxc old hold o1 o2
    obtain ⟨newCap, w1, e, zs, q1, q2, q3, q4, q5⟩ := (hap c base hbase).2 hle old hold o1
    have k1' : Rel H μ F st1 tm w1 := k1.world q2
    obtain ⟨n1, n2, n3, n4, n5⟩ := k1'.newRow (sz := s') (c := newCap) (xs := xs ++ ys) (flat := old ++ flat) (vs := old.toArray ++ flat.toArray ++ zs) (ty := e)
     (w' := { w1 with heap := w1.heap.push (.cells (old.toArray ++ flat.toArray ++ zs) e) }) rfl ⟨rfl, rfl, rfl⟩
     ⟨zs.toList, by simp⟩
     (fun q hq => by rcases List.mem_append.1 hq with hq | hq; exact hxc q hq; exact f4 q hq)
     (by rw [List.flatMap_append]; exact o2.append f5) (by omega) (by omega)
    refine ⟨_, μ, _, _, .slice (some ⟨w1.heap.size, 0, none⟩) (xs.length + ys.length) newCap, q5, .inl rfl,
     out_rel n1 (.two _ _ (.one _ _ (by rw [hlenA] at n3; exact n3))) (fun sz' xs' b off n c' q1 q2 => ?_), (Ext.world q2 q3).trans n2⟩
    simp only [V.own.injEq] at q1
    obtain ⟨rfl, rfl⟩ := q1
    simp only [Value.slice.injEq, Option.some.injEq, Addr.mk.injEq] at q2
    obtain ⟨⟨rfl, rfl, _⟩, rfl, rfl⟩ := q2
    rw [hlenA] at n4
    exact ⟨n4, n5⟩
   rcases hx.elems (sz := s') (xs := xs) rfl with ⟨ex, exs⟩ | ⟨_, e0, _⟩ | ⟨b, off, c, ex, hcap, hrow⟩
   rotate_left
   ·cases e0
   rotate_left
   ·subst exs
    by_cases hy0 : ys = []
    ·subst hy0
     refine good_same (v := .slice none 0 0) ?_ (out_rel k1 (.two _ _ (.one _ _ (.own0 _))) (fun sz' xs' b off n c q1 q2 => by simp at q2))
     rw [(hap 0 none (by simpa using ex)).1 (by simp)]
     rfl
    ·have : 0 < ys.length := List.length_pos_iff.2 hy0
     exact hgrow none 0 (by simpa using ex) (by simp; omega) (by simp) [] (fun w' _ => by simp [Builtin.firstCells]) (by simp) .nil
   ·by_cases hle : xs.length + ys.length ≤ c
    ·obtain ⟨o1, o2⟩ := k2 _ _ _ _ _ _ rfl ex
     obtain ⟨H2, w2, p1, p2, p3, p4, p5, p6⟩ := fillAll (P := P) flat w H (off + xs.length * s') 0 k1 (by simpa using o1) o2
      (by
       have : off + xs.length * s' + 0 + flat.length = off + (xs.length + ys.length) * s' := by rw [f3, Nat.add_mul]; omega
       rw [this]
       have := Nat.mul_le_mul_right s' hle
       omega) hcells
     have hrow2 : RepRow H2 s' b off (xs ++ ys) := (hrow.mono p5.le).append (RepRow.of_flat f4 (f5.mono p5.le) (fun j hj => by simpa using p6 j hj))
     refine ⟨H2, μ, w2, _, .slice (some ⟨b, off, none⟩) (xs.length + ys.length) c, ?_, .inl rfl, out_rel p2 (.two _ _ (.one _ _ ?_)) (fun sz' xs' b' off' n c' q1 q2 => ?_), p5⟩
     ·rw [(hap _ _ ex).1 hle]
      simp only [addr_add, p1, Result.andThen_ok]
     ·have := Rep1.own (μ := μ) s' (xs ++ ys) b off c hrow2 (by omega)
      rw [hlenA] at this
      exact this
     ·simp only [V.own.injEq] at q1
      obtain ⟨rfl, rfl⟩ := q1
      simp only [Value.slice.injEq, Option.some.injEq, Addr.mk.injEq] at q2
      obtain ⟨⟨rfl, rfl, _⟩, rfl, rfl⟩ := q2
      refine ⟨?_, p4⟩
      have he : off + xs.length * s' + 0 + flat.length = off + (xs.length + ys.length) * s' := by rw [f3, Nat.add_mul]; omega
      rw [← he]
      exact p3
    ·obtain ⟨old, q1, q2, q3, q4⟩ := hrow.flat
     refine hgrow _ _ ex hle q2 old (fun w' hw' => ?_) q1 q3
     simp only [Builtin.firstCells]
     exact loadCells_run (fun j hj => by rw [cell?_eq (w := w) (w' := w') (by rw [hw'])]; exact hr.heap _ _ _ (q4 j hj)) (by omega)
  ·simp [Rd.run] at h
 ·rename_i s u n y hmap
  simp only [Rd.run] at h
  split at h
  ·rename_i cs hob
   replace h := rd_bind _ _ _ h
   obtain ⟨_, hf, h⟩ := h
   have hau := fresh_run hf (.alt u) (by simp)
   have hbase : ∀ x : Operand, RepS H μ (.sl s u n) (ρ x) → ∃ base c, ρ x = .slice base n c ∧ ((n = 0 ∧ base = none ∧ c = 0) ∨ ∃ b, base = some ⟨b, 0, none⟩ ∧ μ u = some b ∧ n ≤ c ∧ c * s ≤ H.size b) := by
    intro x hx
    rcases hx.sl with ⟨h1, h2⟩ | ⟨b, c, h1, h2, h3, h4⟩
    ·exact ⟨none, 0, by rw [h2, h1], .inl ⟨h1, rfl, rfl⟩⟩
    ·exact ⟨_, c, h1, .inr ⟨b, rfl, h2, h3, h4⟩⟩
   split at h
   ·rename_i s' u' m
    simp only [Rd.run] at h
    split at h
    ·rename_i ds hob'
     split at h
     ·rename_i hc
      obtain ⟨rfl, rfl, hn, hm, hlim, hat, hne, hone⟩ := hc
      simp only [Rd.run] at h
      injection h with h
      injection h with h
      subst h
      obtain ⟨x, z, v0, v1, rfl, rfl, rfl, hm0, hm1, hx, hy, hev⟩ := hargs _ _ hmap hat
      obtain ⟨base, c, hb1, hb2⟩ := hbase x hx
      -- the second row's cells
      have hys : ∃ flat : List Value, (∀ w' : World, w'.heap = w.heap → (Builtin.firstCells s' m (ρ z)).run P w' = .ok flat.toArray w') ∧ (∀ w' : World, (Builtin.lenOf (ρ z)).run P w' = .ok m w') ∧ flat.length = m * s' ∧ RepC H μ (ds.take (m * s')) flat ∧ rowOk (ds.take (m * s')) = true ∧
        ∀ j sz' xs' b' off' n' c', (ds.take (m * s'))[j]? = some (.own sz' xs') → flat[j]? = some (.slice (some ⟨b', off', none⟩) n' c') → atL μ st tm w (.o u' j) (.own sz' xs') (.slice (some ⟨b', off', none⟩) n' c') := by
       rcases hy.sl with ⟨h1, h2⟩ | ⟨b, c', h1, h2, h3, h4⟩
       ·subst h1
        refine ⟨[], fun w' _ => by rw [h2]; simp [Builtin.firstCells], fun w' => by rw [h2]; simp [Builtin.lenOf], by simp, by simpa using RepC.nil, by simp [rowOk], by simp⟩
       ·obtain ⟨vs', ty, hblk, hrep, hro⟩ := hr.cellsAt hob' h2
        have hlenr := hrep.length
        rw [List.length_take] at hlenr
        have hlen2 : ds.length ≤ vs'.size := by simp at hlenr; omega
        have hol : (vs'.toList.take (m * s')).length = m * s' := by rw [List.length_take]; simp; omega
        refine ⟨vs'.toList.take (m * s'), fun w' hw' => ?_, fun w' => by rw [h1]; simp [Builtin.lenOf], hol, ?_, rowOk_iff.2 fun y hy => rowOk_iff.1 (hro rfl) y (List.mem_of_mem_take hy), fun j sz' xs' b' off' n' c' g1 g2 => ?_⟩
        ·rw [h1]
         simp only [Builtin.firstCells]
         refine loadCells_run (fun j hj => ?_) hol.symm
         rw [Nat.zero_add, cell?_of (by rw [hw']; exact hblk)]
         rw [hol] at hj
         simp only [List.getElem_take, Array.getElem_toList]
         exact Array.getElem?_eq_getElem (by omega)
        ·have := hrep.take' (m * s')
         rw [List.take_take, Nat.min_eq_left hm] at this
         exact this
        ·have h5 : ds[j]? = some (.own sz' xs') := by
          rw [List.getElem?_take] at g1
          split at g1
          ·exact g1
          ·simp at g1
         have h6 : vs'[j]? = some (.slice (some ⟨b', off', none⟩) n' c') := by
          rw [List.getElem?_take] at g2
          split at g2
          ·simpa using g2
          ·simp at g2
         exact ⟨true, ds, b, hob', h2, h5, by rw [cell?_of hblk]; exact h6⟩
      obtain ⟨flat, f1, f2, f3, f4, f5, f6⟩ := hys
      obtain ⟨hA, hB⟩ := append_run (P := P) (w := w) hti hsz ho hb1 f1 f2 f3 hlim
      by_cases hno : noOwn (ds.take (m * s')) = true
      ·rw [if_pos hno, List.nil_append, St.app_append]
       have := appendSl (dst := o.dst) hr hob hau hn hsz0 hb2 f4 f5 f3 (.inl hno) (fun j sz' ys b' o' n' c' g1 _ => by
        have := List.all_eq_true.1 hno _ (List.mem_of_getElem? g1)
        simp [V.isOwn] at this) hA hB
       simpa [St.app] using this
      ·rw [if_neg hno, St.app_append, St.app_append]
       have hone' : (ds.take (m * s')).length = 1 := by
        rcases hone with h | h
        ·exact absurd h hno
        ·rw [List.length_take]; omega
       obtain ⟨d1, d2, d3, d4⟩ := hr.kill (o := u') (by rw [hob']; simp)
       have hne' : u' ≠ .alt u := by intro e; rw [← e, hob'] at hau; simp at hau
       have hg := appendSl (dst := o.dst) d1 (u := u) (by rw [St.ob_putO, if_neg (Ne.symm hne)]; exact hob) (by rw [St.ob_putO, if_neg hne']; exact hau) hn hsz0 hb2 f4 f5 f3 (.inr hone') (fun j sz' ys b' o' n' c' g1 g2 => by
        have hl := f6 _ _ _ _ _ _ _ g1 g2
        refine ⟨(hr.own _ _ _ _ _ _ _ hl).sub fun v b hv => ?_, d2 j b' ⟨_, _, _, _, _, hl⟩⟩
        rw [live_kill] at hv
        split at hv
        ·simp at hv
        ·exact hv) hA hB
       simpa [St.app] using hg
     ·simp [Rd.run] at h
    ·simp [Rd.run] at h
   ·replace h := rd_bind _ _ _ h
    obtain ⟨⟨s', ys⟩, hys, h⟩ := h
    have hys := rd_rOpt hys
    dsimp only at h
    split at h
    ·rename_i hc
     obtain ⟨rfl, rfl, hn, hlim, hat⟩ := hc
     have := rd_pure h
     injection this with this
     subst this
     obtain ⟨x, z, v0, v1, rfl, rfl, rfl, hm0, hm1, hx, hy, hev⟩ := hargs _ _ hmap hat
     obtain ⟨base, c, hb1, hb2⟩ := hbase x hx
     obtain ⟨flat, f1, f2, f3, f4, f5⟩ := first_run (P := P) hr hy hys
     have hlenOf : ∀ w' : World, (Builtin.lenOf (ρ z)).run P w' = .ok ys.length w' := by
      intro w'
      rcases hy.elems hys with ⟨e, e'⟩ | ⟨_, _, e, e'⟩ | ⟨b, off, c, e, _⟩
      ·rw [e, e']; simp [Builtin.lenOf]
      ·rw [e, e']; simp [Builtin.lenOf]
      ·rw [e]; simp [Builtin.lenOf]
     obtain ⟨hA, hB⟩ := append_run (P := P) (w := w) hti hsz ho hb1 (fun w' hw' => f1 w' (fun b k u hu => by rw [cell?_eq (w := w) (w' := w') (by rw [hw'])]; exact hr.heap _ _ _ hu)) hlenOf f3 hlim
     rw [St.app_append]
     have := appendSl (dst := o.dst) hr hob hau hn hsz0 hb2 f5.toC (rowOk_iff.2 f5.pure) f3 (.inl f5.noOwn) (fun j sz' ys b' o' n' c' g1 _ => by
      have := List.all_eq_true.1 f5.noOwn _ (List.mem_of_getElem? g1)
      simp [V.isOwn] at this) hA hB
     simpa [St.app] using this
    ·simp [Rd.run] at h
  ·simp [Rd.run] at h
 ·simp [Rd.run] at h
end
end Go.Ax
