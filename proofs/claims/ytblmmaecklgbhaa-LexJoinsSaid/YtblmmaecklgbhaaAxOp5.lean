/- A part of the proof of a law of this seat: no condition. -/
import Derived.Test.YtblmmaecklgbhaaAxOp4
set_option linter.unusedVariables false
set_option linter.unusedSimpArgs false
namespace Go.Ax
attribute [local simp] look_cons
section
variable {P : Program} {T : Nat → Option TI} {M : Mode} {H H' : Heap} {μ μ' : Oid → Option Nat} {F : Fr} {st st' : St} {tm tm' : Nat → Value} {w w' : World} {ρ : Operand → Value}

def setAllV : List Value → Nat → List Value → List Value
  | cs, _, [] => cs
  | cs, off, v :: vs => setAllV (cs.set off v) (off + 1) vs
theorem fold_set (vs : List Value) : ∀ (cells : Array Value) (off k : Nat),
    ((vs.zipIdx k).foldl (fun (cs : Array Value) (x : Value × Nat) => cs.setIfInBounds (off + x.2) x.1) cells).toList = setAllV cells.toList (off + k) vs := by
  induction vs with
  | nil => intro cells off k; rfl
  | cons v vs ih =>
    intro cells off k
    simp only [List.zipIdx_cons, List.foldl_cons, setAllV]
    rw [ih]
    simp [Nat.add_assoc]
theorem fold_set_arr (vs : Array Value) (cells : Array Value) (off : Nat) :
    (vs.zipIdx.foldl (fun (cs : Array Value) (x : Value × Nat) => cs.setIfInBounds (off + x.2) x.1) cells).toList = setAllV cells.toList off vs.toList := by
  have := fold_set vs.toList cells off 0
  rw [← Array.foldl_toList]
  simpa using this
theorem setAllV_length (vs : List Value) : ∀ (cs : List Value) (off : Nat), (setAllV cs off vs).length = cs.length := by
  induction vs with
  | nil => intro cs off; rfl
  | cons v vs ih => intro cs off; simp [setAllV, ih]
theorem RepC.set {cs vs} (h : RepC H μ cs vs) {j : Nat} {x : V} {v : Value} (h1 : x.isCell = true) (h2 : cellV v = true) (h3 : Rep1 H μ x v) : RepC H μ (cs.set j x) (vs.set j v) := by
  have hl := h.length
  refine RepC.of_get (by simpa using hl) fun k hk hk' => ?_
  rw [List.getElem_set, List.getElem_set]
  split
  · exact ⟨h1, h2, h3⟩
  · exact h.get k (by simpa using hk) (by simpa using hk')
theorem RepC.setAll {xs us} (hx : RepC H μ xs us) : ∀ {cs vs off}, RepC H μ cs vs → RepC H μ (setAll cs off xs) (setAllV vs off us) := by
  induction xs generalizing us with
  | nil => intro cs vs off h; cases hx; exact h
  | cons x xs ih =>
    intro cs vs off h
    cases hx with
    | cons _ u _ us h1 h2 h3 hs => exact ih hs (h.set h1 h2 h3)

theorem run_places {t : TypeId} {ti : TI} (hti : TIok P t ti) {fs : Array Field} (h : P.underlying t = some (.struct fs)) (w : World) :
    ∃ pl : Array (Nat × Nat), (fs.mapM (m := Sem) fun f => do pure (f.offset, ← sizeOf f.type)).run P w = .ok pl w ∧ ∀ (k off n : Nat), ti.flds[k]? = some (off, n) → pl[k]? = some (off, n) := by
  have hall := hti.all fs h
  have key : ∀ l : List Field, (∀ f ∈ l, ∃ i, P.info? f.type = some i) →
      ∃ pl : List (Nat × Nat), (l.mapM (m := Sem) fun f => do pure (f.offset, ← sizeOf f.type)).run P w = .ok pl w ∧ pl.length = l.length ∧
        ∀ (k : Nat) (f : Field) (i : TypeInfo), l[k]? = some f → P.info? f.type = some i → pl[k]? = some (f.offset, i.size) := by
    intro l
    induction l with
    | nil => intro _; exact ⟨[], by simp, rfl, by simp⟩
    | cons f l ih =>
      intro hf
      obtain ⟨pl, h1, h2, h3⟩ := ih (fun g hg => hf g (by simp [hg]))
      obtain ⟨i, hi⟩ := hf f (by simp)
      refine ⟨(f.offset, i.size) :: pl, ?_, by simp [h2], fun k g j hk hj => ?_⟩
      · rw [List.mapM_cons]
        simp only [Sem.run_bind, runSize hi, Result.andThen_ok, Sem.run_pure, h1]
      · cases k with
        | zero =>
          simp at hk
          subst hk
          rw [hi] at hj
          injection hj with hj
          subst hj
          simp
        | succ k => simpa using h3 k g j (by simpa using hk) hj
  obtain ⟨pl, h1, h2, h3⟩ := key fs.toList (fun f hf => by
    obtain ⟨k, hk, e⟩ := List.getElem_of_mem hf
    obtain ⟨i, hi, _⟩ := hall k f (by rw [Array.getElem?_eq_getElem (by simpa using hk)]; simpa using e)
    exact ⟨i, hi⟩)
  refine ⟨pl.toArray, ?_, fun k off n hk => ?_⟩
  · rw [Array.mapM_eq_mapM_toList, Sem.run_map, h1]
    rfl
  · obtain ⟨fs', fd, i, g1, g2, g3, g4, g5, g6⟩ := hti.flds k off n hk
    rw [h] at g1
    injection g1 with g1
    injection g1 with g1
    subst g1
    have := h3 k fd i (by simpa using g2) g4
    rw [g3, g5] at this
    simpa using this

theorem fill_run {fl : List (Nat × Nat)} {place : Nat → Option (Nat × Nat)} (hp : ∀ (k off n : Nat), fl[k]? = some (off, n) → place k = some (off, n)) :
    ∀ (parts : List (Nat × V)) (vals : List (Nat × Value)) (cs : List V) (cells : Array Value) (r : List V), parts.length = vals.length →
      (∀ j (hj : j < parts.length) (hj' : j < vals.length), vals[j].1 = parts[j].1 ∧ RepS H μ parts[j].2 vals[j].2) → RepC H μ cs cells.toList →
      buildS fl cs parts = some r → ∃ cells', Instr.fill place cells vals = some cells' ∧ RepC H μ r cells'.toList := by
  intro parts
  induction parts with
  | nil =>
    intro vals cs cells r hl _ hc hb
    cases vals with
    | nil => simp [buildS] at hb; subst hb; exact ⟨cells, rfl, hc⟩
    | cons => simp at hl
  | cons p parts ih =>
    intro vals cs cells r hl hv hc hb
    cases vals with
    | nil => simp at hl
    | cons q vals =>
      obtain ⟨i, v⟩ := p
      obtain ⟨i', u⟩ := q
      have h0 := hv 0 (by simp) (by simp)
      simp at h0
      obtain ⟨rfl, hu⟩ := h0
      have hv' : ∀ j (hj : j < parts.length) (hj' : j < vals.length), vals[j].1 = parts[j].1 ∧ RepS H μ parts[j].2 vals[j].2 := fun j hj hj' => hv (j + 1) (by simpa using hj) (by simpa using hj')
      have hcl := hc.length
      simp only [buildS] at hb
      split at hb
      · rename_i off sz hoff
        have hpl := hp _ _ _ hoff
        split at hb
        · split at hb
          · rename_i n hcs
            split at hb
            · rename_i hsz
              have hu0 := hu.nils
              subst hu0
              subst hsz
              obtain ⟨hlt, hcs'⟩ := List.getElem?_eq_some_iff.1 hcs
              have hlt' : off < cells.size := by simp at hcl; omega
              have hg := hc.get off hlt (by simpa using hlt')
              simp only [Instr.fill, hpl]
              have hsz : (Value.slice none 0 0).cells.size = 1 := rfl
              have hcond : (decide ((Value.slice none 0 0).cells.size ≠ 1) || decide (off + (Value.slice none 0 0).cells.size > cells.size)) = false := by simp [hsz]; omega
              simp only [hcond, Bool.false_eq_true, if_false]
              refine ih vals cs _ r (by simpa using hl) hv' ?_ hb
              rw [fold_set_arr]
              show RepC H μ cs (setAllV cells.toList off [.slice none 0 0])
              simp only [setAllV]
              have : RepC H μ (cs.set off (.own n [])) (cells.toList.set off (.slice none 0 0)) := hc.set rfl rfl (.own0 n)
              rwa [show cs.set off (.own n []) = cs from by rw [← hcs']; exact List.set_getElem_self _] at this
            · simp at hb
          · simp at hb
        · rename_i hnn
          split at hb
          · rename_i hcond
            obtain ⟨c1, c2, c3⟩ := hcond
            have hst : v.weak.storable = true := by cases v <;> simp_all [V.weak, V.storable]
            have hsc := hu.weak.scells hst
            have hlen := hsc.length
            simp only [Instr.fill, hpl]
            have hsz : u.cells.size = sz := by simp at hlen; omega
            have hcond : (decide (u.cells.size ≠ sz) || decide (off + u.cells.size > cells.size)) = false := by simp at hcl; simp [hsz]; omega
            simp only [hcond, Bool.false_eq_true, if_false]
            refine ih vals _ _ r (by simpa using hl) hv' ?_ hb
            rw [fold_set_arr]
            exact hsc.setAll hc
          · simp at hb
      · simp at hb

theorem good_build (hT : TabOk P T) (hr : Rel H μ F st tm w) (hρ : Env ρ tm) {o : Oper} {t : TypeId} {parts : Array (Nat × Operand)} (ho : o.op = .build t parts) {l : List Wr}
    (h : (opS T M o).run st = some (.ws l)) : Good P H μ F tm w o.dst (st.app l) (execOp ρ o) := by
  unfold opS at h
  rw [ho] at h
  replace h := rd_bind _ _ _ h
  obtain ⟨ti, hti, h⟩ := h
  have hti := hT _ _ (rd_rOpt hti)
  replace h := rd_bind _ _ _ h
  obtain ⟨vs, hvs, h⟩ := h
  obtain ⟨e1, e2⟩ := evs_rep hr hρ hvs
  replace h := rd_bind _ _ _ h
  obtain ⟨cs, hcs, h⟩ := h
  have hcs := rd_rOpt hcs
  split at h
  · simp [Rd.run] at h
  rename_i hne
  have := rd_pure h
  injection this with this
  subst this
  obtain ⟨i, z, g1, g2, g3, g4, g5, g6⟩ := hti.info
  have hlp : vs.length = parts.toList.length := by simpa using e1
  have hfill : ∀ (place : Nat → Option (Nat × Nat)), (∀ (k off n : Nat), (bf ti)[k]? = some (off, n) → place k = some (off, n)) →
      ∃ cells', Instr.fill place z.cells (parts.map fun x => (x.1, ρ x.2)).toList = some cells' ∧ RepC H μ cs cells'.toList := by
    intro place hp
    obtain ⟨cells', f1, f2⟩ := fill_run (H := H) (μ := μ) hp ((parts.toList.map (·.1)).zip vs) (parts.toList.map fun x => (x.1, ρ x.2)) ti.zero z.cells cs
      (by simp [hlp]) (fun j hj hj' => by
        simp at hj hj'
        have := e2 j (by omega) (by simp; omega)
        simp at this ⊢
        exact this.1) (zcs_rep g4) hcs
    exact ⟨cells', by simpa using f1, f2⟩
  cases harr : ti.arr with
  | none =>
    have hbf : bf ti = ti.flds := by simp [bf, harr]
    rw [hbf] at hne hfill
    have hstr : ∃ fs, P.underlying t = some (.struct fs) := by
      cases hq : ti.flds with
      | nil => rw [hq] at hne; simp at hne
      | cons q qs =>
        obtain ⟨fs, _, _, g, _⟩ := hti.flds 0 q.1 q.2 (by rw [hq]; rfl)
        exact ⟨fs, g⟩
    obtain ⟨fs, hfs⟩ := hstr
    obtain ⟨pl, p1, p2⟩ := run_places hti hfs w
    obtain ⟨cells', f1, f2⟩ := hfill (fun k => pl[k]?) p2
    refine good_val (v := .agg cells') hr ?_ (.two _ _ (by simpa using Rep2.agg _ _ f2.weak)) rfl
    simp only [execOp, ho, Instr.build, Sem.run_bind, runZero g1 g3, Result.andThen_ok, runUnder hfs, p1]
    rw [f1]
    rfl
  | some nk =>
    obtain ⟨n, k⟩ := nk
    obtain ⟨e, ie, q1, q2, q3⟩ := hti.arr n k harr
    obtain ⟨cells', f1, f2⟩ := hfill (fun i => some (i * k, k)) (fun j off m hj => by
      simp only [bf, harr, List.getElem?_map] at hj
      cases hq : (List.range n)[j]? with
      | none => rw [hq] at hj; simp at hj
      | some x =>
        rw [hq] at hj
        have : x = j := by
          obtain ⟨hlt, he⟩ := List.getElem?_eq_some_iff.1 hq
          simpa using he.symm
        subst this
        simpa using hj)
    refine good_val (v := .agg cells') hr ?_ (.two _ _ (by simpa using Rep2.agg _ _ f2.weak)) rfl
    simp only [execOp, ho, Instr.build, Sem.run_bind, runZero g1 g3, Result.andThen_ok, runUnder q1, runSize q2, q3]
    rw [f1]
    rfl
end
end Go.Ax
