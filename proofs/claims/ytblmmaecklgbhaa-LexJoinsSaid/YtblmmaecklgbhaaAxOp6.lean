/- A part of the proof of a law of this seat: no condition. -/
import Derived.Test.YtblmmaecklgbhaaAxOp5
set_option linter.unusedVariables false
set_option linter.unusedSimpArgs false
namespace Go.Ax
attribute [local simp] look_cons
section
variable {P : Program} {T : Nat → Option TI} {M : Mode} {H H' : Heap} {μ μ' : Oid → Option Nat} {F : Fr} {st st' : St} {tm tm' : Nat → Value} {w w' : World} {ρ : Operand → Value}

theorem atL_push (h : Rel H μ F st tm w) {ob : Obj} (hh : w'.heap = w.heap.push ob) {ℓ x v} (hl : atL μ st tm w' ℓ x v) : atL μ st tm w ℓ x v := by
  cases ℓ with
  | t m => exact hl
  | o u j =>
    obtain ⟨row, cs', b', g1, g2, g3, g4⟩ := hl
    refine ⟨row, cs', b', g1, g2, g3, ?_⟩
    rw [← g4]
    have := (h.obLt (h.cellsLive g1 g2)).choose_spec.2.2.2
    exact (cell?_eq (by rw [hh, Array.getElem?_push]; simp [Nat.ne_of_lt this]) j).symm
theorem Holds_push (h : Rel H μ F st tm w) {ob : Obj} (hh : w'.heap = w.heap.push ob) {ℓ b} (hl : Holds μ st tm w' ℓ b) : Holds μ st tm w ℓ b := by
  obtain ⟨sz, xs, off, n, c, hl⟩ := hl
  exact ⟨sz, xs, off, n, c, atL_push h hh hl⟩
theorem Rel.noNew (h : Rel H μ F st tm w) (k : Nat) : H w.heap.size k = none := by
  cases hk : H w.heap.size k with
  | none => rfl
  | some v => have := cell?_lt (h.heap _ _ _ hk); simp at this
theorem Rel.noSize (h : Rel H μ F st tm w) : H.size w.heap.size = 0 := by
  have := h.size w.heap.size
  have h2 : ¬ 0 < blkSize w w.heap.size := fun hp => by have := blkSize_lt hp; omega
  omega
theorem Rel.noHold (h : Rel H μ F st tm w) {ob : Obj} (hh : w'.heap = w.heap.push ob) (ℓ : Loc) : ¬ Holds μ st tm w' ℓ w.heap.size := by
  intro hl
  obtain ⟨sz, xs, off, n, c, hl⟩ := Holds_push h hh hl
  obtain ⟨⟨vs2, ty2, g1, _⟩, _⟩ := h.own ℓ _ _ _ _ _ _ hl
  have := (Array.getElem?_eq_some_iff.1 g1).1
  simp at this
/-- A new row that is written to. -/
theorem Rel.newRowOb (h : Rel H μ F st tm w) {o : Oid} (hop : ∀ j, o ≠ .par j) (ho : st.ob o = none) {xs : List V} {vs : Array Value} {ty : TypeId} (hrep : RepC H μ xs (vs.toList.take xs.length)) (hrow : rowOk xs = true)
    (hinj : ∀ (j j' sz : Nat) (ys : List V) (off n c sz' : Nat) (ys' : List V) (off' n' c' b : Nat), xs[j]? = some (.own sz ys) → vs[j]? = some (.slice (some ⟨b, off, none⟩) n c) →
      xs[j']? = some (.own sz' ys') → vs[j']? = some (.slice (some ⟨b, off', none⟩) n' c') → j = j')
    (hown : ∀ (j sz : Nat) (ys : List V) (b off n c : Nat), xs[j]? = some (.own sz ys) → vs[j]? = some (.slice (some ⟨b, off, none⟩) n c) → OwnAt H (live st μ) F w b (off + n * sz) (off + c * sz) ∧ ∀ ℓ, ¬ Holds μ st tm w ℓ b)
    (hh : w'.heap = w.heap.push (.cells vs ty)) (hio : Io w w') :
    Rel (H.put w.heap.size vs.size) (updO μ o (some w.heap.size)) F (st.putO o (.cells true xs)) tm w' ∧ Ext F H w (H.put w.heap.size vs.size) w' := by
  have hle : Le H (H.put w.heap.size vs.size) := Heap.put_le _ _ _ (by rw [h.noSize]; exact Nat.zero_le _)
  have hblk : w'.heap[w.heap.size]? = some (.cells vs ty) := by rw [hh]; simp
  have hμ := h.dom o ho
  have hlm : LeM μ (updO μ o (some w.heap.size)) := by
    intro u b hb
    unfold updO
    by_cases e : u = o
    · subst e; rw [hμ] at hb; simp at hb
    · simpa [e] using hb
  have h0 : Rel (H.put w.heap.size vs.size) μ F st tm w' := h.push _ hh hle (fun _ _ _ => rfl) (fun k v hv => by
      have : H w.heap.size k = some v := hv
      rw [h.noNew] at this; simp at this) (fun b hb => by simp [Heap.put, hb]) (by rw [blkSize_of hblk]; simp [Heap.put])
  have hcell : ∀ j, w'.cell? ⟨w.heap.size, j, none⟩ = vs[j]? := fun j => cell?_of hblk j
  refine ⟨h0.addOb hop ho rfl ⟨vs, ty, hblk, hrep.mono hle hlm, fun _ => hrow⟩ (fun u hu => ?_) (fun k => h.noNew k) (fun hF => absurd (h.Flt _ hF) (by simp)) (h.noHold hh) ?_ ?_, Ext.push F _ hh hio hle (fun _ _ _ => rfl)⟩
  · have := (h.obLt hu).choose_spec.2.2.2
    omega
  · intro row cs j sz ys b' off n c e1 e2 e3
    simp only [Ob.cells.injEq] at e1
    obtain ⟨_, rfl⟩ := e1
    rw [hcell] at e3
    obtain ⟨⟨⟨vs', ty', g1, g1'⟩, g2, g3, g4⟩, g5⟩ := hown j sz ys b' off n c e2 e3
    have hlt := (Array.getElem?_eq_some_iff.1 g1).1
    refine ⟨Nat.ne_of_lt hlt, ⟨⟨vs', ty', ?_, g1'⟩, g2, g3, g4⟩, fun ℓ hl => g5 ℓ (Holds_push h hh hl)⟩
    rw [hh, Array.getElem?_push]
    simp [Nat.ne_of_lt hlt, g1]
  · rintro j j' b' ⟨row, cs, sz, ys, off, n, c, e1, e2, e3⟩ ⟨row', cs', sz', ys', off', n', c', e1', e2', e3'⟩
    simp only [Ob.cells.injEq] at e1 e1'
    obtain ⟨_, rfl⟩ := e1
    obtain ⟨_, rfl⟩ := e1'
    rw [hcell] at e3 e3'
    exact hinj _ _ _ _ _ _ _ _ _ _ _ _ _ e2 e3 e2' e3'
theorem inj_one {xs : List V} (hone : noOwn xs = true ∨ xs.length = 1) {j j' sz sz' : Nat} {ys ys' : List V} (e2 : xs[j]? = some (.own sz ys)) (e2' : xs[j']? = some (.own sz' ys')) : j = j' := by
  rcases hone with hone | hone
  · have := List.all_eq_true.1 hone _ (List.mem_of_getElem? e2)
    simp [V.isOwn] at this
  · have h1 := (List.getElem?_eq_some_iff.1 e2).1
    have h2 := (List.getElem?_eq_some_iff.1 e2').1
    omega
/-- A new row: its elements are told; what lies behind them is nobody's. -/
theorem Rel.newRow (h : Rel H μ F st tm w) {sz c : Nat} {xs : List V} {flat : List Value} {vs : Array Value} {ty : TypeId} (hh : w'.heap = w.heap.push (.cells vs ty)) (hio : Io w w')
    (hf : ∃ rest, vs.toList = flat ++ rest) (hx : ∀ x ∈ xs, x.cells.length = sz) (hr : RepL H (xs.flatMap V.cells) flat) (hc : xs.length ≤ c) (hcs : c * sz ≤ vs.size) :
    Rel (H.row w.heap.size 0 flat) μ F st tm w' ∧ Ext F H w (H.row w.heap.size 0 flat) w' ∧ Rep1 (H.row w.heap.size 0 flat) μ (.own sz xs) (.slice (some ⟨w.heap.size, 0, none⟩) xs.length c) ∧
      OwnAt (H.row w.heap.size 0 flat) (live st μ) F w' w.heap.size (0 + xs.length * sz) (0 + c * sz) ∧ ∀ ℓ, ¬ Holds μ st tm w' ℓ w.heap.size := by
  obtain ⟨rest, hrest⟩ := hf
  have hblk : w'.heap[w.heap.size]? = some (.cells vs ty) := by rw [hh]; simp
  have hHn : ∀ k, H w.heap.size k = none := by
    intro k
    cases hk : H w.heap.size k with
    | none => rfl
    | some v => have := cell?_lt (h.heap _ _ _ hk); simp at this
  have hle : Le H (H.row w.heap.size 0 flat) := Heap.row_le _ _ _ _ (fun k _ => hHn k)
  have hrel : Rel (H.row w.heap.size 0 flat) μ F st tm w' := h.push _ hh hle (fun b k hb => Heap.row_ne _ _ _ _ _ _ hb) (fun k v hv => by
    simp only [Heap.row] at hv
    split at hv
    · rename_i hk
      rw [cell?_of hblk, ← Array.getElem?_toList, hrest, List.getElem?_append_left (by omega)]
      simpa using hv
    · rw [hHn] at hv; simp at hv) (fun _ _ => rfl) (by show H.size w.heap.size ≤ _; rw [h.noSize]; exact Nat.zero_le _)
  have hlen : flat.length = xs.length * sz := by
    rw [← hr.length]
    clear hr hrest hc hcs hrel hle
    induction xs with
    | nil => simp
    | cons x xs ih =>
      rw [List.flatMap_cons, List.length_append, hx x (by simp), ih (fun y hy => hx y (by simp [hy])), List.length_cons, Nat.succ_mul, Nat.add_comm]
  refine ⟨hrel, Ext.push F _ hh hio hle (fun b k hb => Heap.row_ne _ _ _ _ _ _ hb), .own _ _ _ _ _ ?_ hc, ⟨⟨vs, ty, hblk, by omega⟩, fun k hk _ => ?_, fun o ho => ?_, fun hF => ?_⟩, h.noHold hh⟩
  · refine RepRow.of_flat hx (hr.mono hle) fun j hj => ?_
    rw [Heap.row_at]
  · simp only [Heap.row]
    rw [if_neg (by omega)]
    exact hHn k
  · have := (h.obLt (o := o) (b := w.heap.size) ho).choose_spec.2.2.2
    omega
  · exact absurd (h.Flt _ hF) (by simp)

theorem RepD.of_pure {x : V} {v : Value} (h : RepS H μ x v) (hp : x.pure = true) : RepD H x.weak v := by
  cases h with
  | tup => simp [V.pure, V.pure1] at hp
  | two _ _ h =>
    cases h with
    | clo => simp [V.pure, V.pure1] at hp
    | agg cs vs h =>
      simp only [V.pure] at hp
      simp only [V.weak]
      refine .agg _ _ ?_
      induction cs generalizing vs with
      | nil => cases h; exact .nil
      | cons x xs ih =>
        cases h with
        | cons _ v _ vs h1 hv h hs =>
          simp at hp
          refine .cons _ _ _ _ (isCell_weak1 h1) ?_ (ih _ hs (by simpa using hp.2))
          have hp1 := hp.1
          cases h with
          | data _ _ h => cases h <;> first | (constructor <;> assumption) | simp [V.pure1] at hp1
          | own0 => exact .slice0 _
          | own sz xs b off c hr hc => exact .slice _ _ _ _ _ hr hc
          | _ => simp [V.pure1] at hp1
    | one _ _ h =>
      cases h with
      | data _ _ h =>
        cases h with
        | agg cs vs h =>
          simp only [V.weak]
          refine .agg _ _ ?_
          clear hp
          induction cs generalizing vs with
          | nil => cases h; exact .nil
          | cons x xs ih =>
            cases h with
            | cons _ v _ vs h1 h hs =>
              refine .cons _ _ _ _ (isCell_weak1 h1) ?_ (ih _ hs)
              cases h <;> (constructor <;> assumption)
        | _ => first | (constructor <;> assumption) | constructor
      | own0 => exact .slice0 _
      | own sz xs b off c hr hc => exact .slice _ _ _ _ _ hr hc
      | _ => simp [V.pure, V.pure1] at hp
theorem RepD.cells {x : V} {v : Value} (h : RepD H x v) : RepL H x.cells v.cells.toList := by
  cases h with
  | agg cs vs h => simpa [V.cells, Value.cells] using h
  | _ => exact .cons _ _ _ _ rfl (by constructor <;> assumption) .nil
theorem cells_weak_length (x : V) : x.weak.cells.length = x.cells.length := by cases x <;> simp [V.weak, V.cells]

theorem setAllV_get (us : List Value) : ∀ (cs : List Value) (off j : Nat), off + us.length ≤ cs.length →
    (setAllV cs off us)[j]? = if off ≤ j ∧ j < off + us.length then us[j - off]? else cs[j]? := by
  induction us with
  | nil => intro cs off j _; simp [setAllV]; omega
  | cons u us ih =>
    intro cs off j hle
    simp at hle
    rw [setAllV, ih _ _ _ (by simp; omega)]
    by_cases h1 : off = j
    · subst h1
      have : off < cs.length := by omega
      rw [if_neg (by omega), if_pos (by simp)]
      simp [this]
    · by_cases h2 : off + 1 ≤ j ∧ j < off + 1 + us.length
      · rw [if_pos h2, if_pos (by simp; omega)]
        rw [show j - off = (j - (off + 1)) + 1 from by omega, List.getElem?_cons_succ]
      · rw [if_neg h2, if_neg (by simp; omega), List.getElem?_set_ne h1]
/-- A slice's literal, its parts in their order. -/
theorem fill_row {sz : Nat} (hsz : 0 < sz) : ∀ (vals : List (Nat × Value)) (k : Nat) (cells : Array Value), (∀ j (hj : j < vals.length), vals[j].1 = k + j ∧ vals[j].2.cells.size = sz) →
    k * sz + vals.length * sz ≤ cells.size →
    ∃ cells', Instr.fill (fun i => some (i * sz, sz)) cells vals = some cells' ∧ cells'.size = cells.size ∧ (vals.flatMap (fun x => x.2.cells.toList)).length = vals.length * sz ∧
      ∀ j, cells'.toList[j]? = if k * sz ≤ j ∧ j < k * sz + vals.length * sz then (vals.flatMap (fun x => x.2.cells.toList))[j - k * sz]? else cells.toList[j]? := by
  intro vals
  induction vals with
  | nil => intro k cells _ _; exact ⟨cells, rfl, rfl, by simp, fun j => by simp; omega⟩
  | cons q vals ih =>
    intro k cells hv hle
    obtain ⟨h0, h1⟩ := hv 0 (by simp)
    simp at h0 h1
    simp only [List.length_cons, Nat.succ_mul] at hle
    have hset := fold_set_arr q.2.cells cells (k * sz)
    generalize hc1 : q.2.cells.zipIdx.foldl (fun (cs : Array Value) (x : Value × Nat) => cs.setIfInBounds (k * sz + x.2) x.1) cells = c1 at hset
    have hc1s : c1.size = cells.size := by
      have := congrArg List.length hset
      rw [setAllV_length] at this
      simpa using this
    obtain ⟨cells', g1, g2, g3, g4⟩ := ih (k + 1) c1 (fun j hj => by
      have := hv (j + 1) (by simpa using hj)
      simp at this
      exact ⟨by omega, this.2⟩) (by rw [Nat.succ_mul]; omega)
    refine ⟨cells', ?_, by omega, by simp only [List.flatMap_cons, List.length_append, g3, List.length_cons, Nat.succ_mul, Array.length_toList, h1]; omega, fun j => ?_⟩
    · simp only [Instr.fill, h0]
      have hcond : (decide (q.2.cells.size ≠ sz) || decide (k * sz + q.2.cells.size > cells.size)) = false := by simp [h1]; omega
      simp only [hcond, Bool.false_eq_true, if_false, hc1]
      exact g1
    · rw [g4 j, hset, setAllV_get _ _ _ _ (by simp [h1]; omega)]
      simp only [Array.length_toList, h1, List.length_cons, Nat.succ_mul, List.flatMap_cons]
      by_cases c1 : k * sz + sz ≤ j ∧ j < k * sz + sz + vals.length * sz
      · rw [if_pos c1, if_pos (by omega), List.getElem?_append_right (by simp [h1]; omega)]
        simp only [Array.length_toList, h1]
        congr 1
        omega
      · rw [if_neg c1]
        by_cases c2 : k * sz ≤ j ∧ j < k * sz + sz
        · rw [if_pos c2, if_pos (by omega), List.getElem?_append_left (by simp [h1]; omega)]
        · rw [if_neg c2, if_neg (by omega)]

/-- A slice's literal. -/
theorem buildSlice_run {o : Oper} {t : TypeId} {len : Nat} {parts : Array (Nat × Operand)} (ho : o.op = .buildSlice t len parts) {ti : TI} (hti : TIok P t ti) {sz bytes : Nat} (hsz : ti.esz = some (sz, bytes))
    (c1 : parts.toList.map (·.1) = List.range len) (c2 : len * sz ≤ 16777216) (hc : ∀ x ∈ parts.toList, (ρ x.2).cells.size = sz) :
    ∃ (e : TypeId) (cells' : Array Value), cells'.toList = parts.toList.flatMap (fun x => (ρ x.2).cells.toList) ∧ cells'.size = len * sz ∧
      (execOp ρ o).run P w = .ok (.value (.slice (some ⟨w.heap.size, 0, none⟩) len len)) { w with heap := w.heap.push (.cells cells' e) } := by
  obtain ⟨e, ie, z, g1, g2, g3, g4, g5, g6, g7, g8⟩ := hti.esz _ _ hsz
  have hlen : parts.toList.length = len := by
    have := congrArg List.length c1
    simpa using this
  generalize hvals : (parts.toList.map fun x => (x.1, ρ x.2)) = vals
  have hvall : vals.length = len := by rw [← hvals]; simpa using hlen
  have hval : ∀ j (hj : j < vals.length), vals[j].1 = 0 + j ∧ vals[j].2.cells.size = sz := by
    intro j hj
    subst hvals
    simp only [List.getElem_map, Nat.zero_add]
    have hj1 : j < parts.toList.length := by simpa using hj
    refine ⟨?_, hc _ (List.getElem_mem hj1)⟩
    have := congrArg (fun l => l[j]?) c1
    simp only [List.getElem?_map, List.getElem?_eq_getElem hj1, List.getElem?_range (show j < len by omega)] at this
    simpa using this
  have hzero : ∃ c0 : Array Value, ((Array.range (len * sz)).map (fun i => (if len * sz = 0 then (#[] : Array Value) else z.cells)[i % (if len * sz = 0 then (#[] : Array Value) else z.cells).size]!)) = c0 ∧ c0.size = len * sz := ⟨_, rfl, by simp⟩
  obtain ⟨c0, hc0, hc0s⟩ := hzero
  obtain ⟨cells', f1, f2, f3, f4⟩ := fill_row g7 vals 0 c0 hval (by rw [hc0s, hvall]; omega)
  have hflat : cells'.toList = vals.flatMap (fun x => x.2.cells.toList) := by
    apply List.ext_getElem?
    intro j
    rw [f4 j]
    by_cases hj : j < len * sz
    · rw [if_pos (by rw [hvall]; omega)]; simp
    · rw [if_neg (by rw [hvall]; omega), List.getElem?_eq_none (by simp; omega), List.getElem?_eq_none (by rw [f3, hvall]; omega)]
  refine ⟨e, cells', by rw [hflat, ← hvals, List.flatMap_map], by omega, ?_⟩
  have hrun : ∀ w, (if len * sz = 0 then (pure #[] : Sem (Array Value)) else do pure (← zeroValue e).cells).run P w = .ok (if len * sz = 0 then (#[] : Array Value) else z.cells) w := by
    intro w
    split
    · rfl
    · simp only [Sem.run_bind, runZero g2 g5, Result.andThen_ok, Sem.run_pure]
  have h24 : ¬ len * sz > 2 ^ 24 := by omega
  have hvals' : (parts.map fun x => (x.1, ρ x.2)).toList = vals := by simpa using hvals
  simp only [execOp, ho, Instr.buildSlice, Sem.run_bind, runUnder g1, Result.andThen_ok, runSize g2, g3, Sem.run_ite, h24, if_false, Sem.run_pure]
  have hz2 : ∀ (zz : Array Value), zz = (if len * sz = 0 then #[] else z.cells) →
      Instr.fill (fun i => some (i * sz, sz)) (Array.map (fun x => zz[x % zz.size]!) (Array.range (len * sz))) (Array.map (fun x => (x.fst, ρ x.snd)) parts).toList = some cells' := by
    intro zz hzz
    subst hzz
    rw [hc0, hvals', f1]
  split
  · rename_i h0
    rw [hz2 #[] (by rw [if_pos h0])]
    rfl
  · rename_i h0
    rw [runZero g2 g5, Result.andThen_ok, hz2 z.cells (by rw [if_neg h0])]
    rfl
theorem fixZ_rep {ez : List V} {x : V} {v : Value} (h : RepS H μ x v) : RepS H μ (fixZ ez x) v := by
  unfold fixZ
  split
  · split
    · rw [h.nils]
      exact .two _ _ (.one _ _ (.own0 _))
    · exact h
  · exact h
theorem fixZ_own {ez : List V} {x : V} {v : Value} {sz : Nat} {xs : List V} (h : RepS H μ x v) (he : fixZ ez x = .own sz xs) : x = .own sz xs ∨ v = .slice none 0 0 := by
  unfold fixZ at he
  split at he
  · exact .inr h.nils
  · exact .inl he
theorem pure_storable {x : V} (h : x.pure = true) : x.storable = true := by cases x <;> simp_all [V.pure, V.pure1, V.storable]
theorem pure_scells {x : V} (h : x.pure = true) : ∀ y ∈ x.scells, y.pure1 = true := by
  cases x with
  | agg cs =>
    intro y hy
    simp only [V.scells, List.mem_map] at hy
    obtain ⟨c, hc, rfl⟩ := hy
    simp only [V.pure, List.all_eq_true] at h
    have := h c hc
    cases c <;> simp_all [V.pure1, V.weak1]
  | _ => intro y hy; simp only [V.scells, List.mem_singleton] at hy; subst hy; simpa [V.pure] using h
theorem scells_length (x : V) : x.scells.length = x.cells.length := by cases x <;> simp [V.scells, V.cells]
theorem RepC.append' {cs ds us vs} (h : RepC H μ cs us) (h' : RepC H μ ds vs) : RepC H μ (cs ++ ds) (us ++ vs) := by
  induction cs generalizing us with
  | nil => cases h; exact h'
  | cons x xs ih => cases h with | cons _ v _ _ h1 hv h hs => exact .cons _ _ _ _ h1 hv h (ih hs)
theorem good_buildSlice (hT : TabOk P T) (hr : Rel H μ F st tm w) (hρ : Env ρ tm) {o : Oper} {t : TypeId} {len : Nat} {parts : Array (Nat × Operand)} (ho : o.op = .buildSlice t len parts) {l : List Wr}
    (h : (opS T M o).run st = some (.ws l)) : Good P H μ F tm w o.dst (st.app l) (execOp ρ o) := by
  unfold opS at h
  rw [ho] at h
  replace h := rd_bind _ _ _ h
  obtain ⟨ti, hti, h⟩ := h
  have hti := hT _ _ (rd_rOpt hti)
  replace h := rd_bind _ _ _ h
  obtain ⟨vs, hvs, h⟩ := h
  obtain ⟨e1, e2⟩ := evs_rep hr hρ hvs
  replace h := rd_bind _ _ _ h
  obtain ⟨⟨sz, bytes⟩, hsz, h⟩ := h
  have hsz := rd_rOpt hsz
  dsimp only at h
  have hvl : vs.length = parts.toList.length := by simpa using e1
  have hpart : ∀ j (hj : j < vs.length) (hj' : j < parts.toList.length), RepS H μ vs[j] (ρ parts.toList[j].2) ∧ (ev parts.toList[j].2).run st = some vs[j] := by
    intro j hj hj'
    have := e2 j hj (by simpa using hj')
    simpa using this
  split at h
  · -- a row that is written to
    split at h
    · rename_i d hd
      replace h := rd_bind _ _ _ h
      obtain ⟨_, hf, h⟩ := h
      have ho' := fresh_run hf (.loc d) (by simp)
      split at h
      · rename_i hc
        obtain ⟨c1, c2, c3, c4⟩ := hc
        have := rd_pure h
        injection this with this
        subst this
        have hlen : parts.toList.length = len := by
          have := congrArg List.length c1
          simpa using this
        have hpure : ∀ v ∈ vs.map (fixZ ti.ez), v.cells.length = sz ∧ v.pure = true := by
          intro v hv
          have := List.all_eq_true.1 c3 v hv
          simpa using this
        have hrc : ∀ j (hj : j < vs.length) (hj' : j < parts.toList.length), RepC H μ (fixZ ti.ez vs[j]).scells (ρ parts.toList[j].2).cells.toList :=
          fun j hj hj' => (fixZ_rep (hpart j hj hj').1).scells (pure_storable (hpure _ (List.mem_map_of_mem (List.getElem_mem hj))).2)
        obtain ⟨e, cells', q1, q2, q3⟩ := buildSlice_run (ρ := ρ) (w := w) ho hti hsz c1 c2 (fun x hx => by
          obtain ⟨j, hj, rfl⟩ := List.getElem_of_mem hx
          have hj2 : j < vs.length := by omega
          have := (hrc j hj2 hj).length
          rw [scells_length, (hpure _ (List.mem_map_of_mem (List.getElem_mem hj2))).1] at this
          simpa using this.symm)
        have hrep : RepC H μ ((vs.map (fixZ ti.ez)).flatMap V.scells) cells'.toList := by
          rw [q1]
          have key : ∀ (xs : List V) (us : List (Nat × Operand)), xs.length = us.length → (∀ j (hj : j < xs.length) (hj' : j < us.length), RepC H μ (fixZ ti.ez xs[j]).scells (ρ us[j].2).cells.toList) →
              RepC H μ ((xs.map (fixZ ti.ez)).flatMap V.scells) (us.flatMap (fun x => (ρ x.2).cells.toList)) := by
            intro xs
            induction xs with
            | nil => intro us h1 _; cases us with | nil => exact .nil | cons => simp at h1
            | cons x xs ih =>
              intro us h1 h2
              cases us with
              | nil => simp at h1
              | cons u us =>
                simp only [List.map_cons, List.flatMap_cons]
                exact (h2 0 (by simp) (by simp)).append' (ih us (by simpa using h1) (fun j hj hj' => h2 (j + 1) (by simpa using hj) (by simpa using hj')))
          exact key vs parts.toList hvl hrc
        have hcl := hrep.length
        simp only [Array.length_toList] at hcl
        -- its first part's row is given up
        have hg : ∀ (x : Operand) (v : V), parts.toList.head?.map (·.2) = some x → vs.head? = some v → (ev x).run st = some v ∧ RepS H μ v (ρ x) := by
          intro x v h1 h2
          cases hp : parts.toList with
          | nil => rw [hp] at h1; simp at h1
          | cons p ps =>
            cases hv' : vs with
            | nil => rw [hv'] at h2; simp at h2
            | cons y ys =>
              rw [hp] at h1; rw [hv'] at h2
              simp at h1 h2
              subst h1; subst h2
              have := hpart 0 (by rw [hv']; simp) (by rw [hp]; simp)
              simp only [hp, hv', List.getElem_cons_zero] at this
              exact ⟨this.2, this.1⟩
        generalize hgu : giveUp ((parts.toList.map (·.2)).headD (.global 0)) ((vs.map (fixZ ti.ez)).headD .any) = gu
        have hk : Rel H μ F (st.app gu) tm w ∧ live (st.app gu) μ = live st μ ∧ (∀ u, (st.app gu).ob u = st.ob u) ∧
            ∀ (v : V) (x : Operand), vs.head? = some v → parts.toList.head?.map (·.2) = some x → ∀ sz xs b off n c, fixZ ti.ez v = .own sz xs → ρ x = .slice (some ⟨b, off, none⟩) n c →
              OwnAt H (live (st.app gu) μ) F w b (off + n * sz) (off + c * sz) ∧ ∀ ℓ, ¬ Holds μ (st.app gu) tm w ℓ b := by
          cases hp : parts.toList with
          | nil =>
            have : vs = [] := by
              rw [hp] at hvl
              exact List.eq_nil_of_length_eq_zero (by simpa using hvl)
            subst this
            rw [hp] at hgu
            simp [giveUp] at hgu
            subst hgu
            exact ⟨hr, rfl, fun _ => rfl, by simp⟩
          | cons p ps =>
            cases hv' : vs with
            | nil => rw [hv', hp] at hvl; simp at hvl
            | cons y ys =>
              rw [hp, hv'] at hgu
              simp only [List.map_cons, List.headD_cons] at hgu
              obtain ⟨h1, h2⟩ := hg p.2 y (by rw [hp]; rfl) (by rw [hv']; rfl)
              have hob : ∀ u, (st.app gu).ob u = st.ob u := by
                intro u
                subst hgu
                unfold giveUp
                split
                · split <;> rfl
                · rfl
              have hlv : live (st.app gu) μ = live st μ := live_congr hob
              by_cases hy : fixZ ti.ez y = y
              · have := giveUp_rel (ti := none) hr hρ h1 rfl
                have hfx : fixT none y = y := by cases y <;> rfl
                rw [hfx] at this
                rw [hy] at hgu
                rw [hgu] at this
                refine ⟨this.1, hlv, hob, fun v x hv hx sz' xs b off n c g1 g2 => ?_⟩
                simp at hv hx
                subst hv; subst hx
                rw [hy] at g1
                exact this.2 _ _ _ _ _ _ g1 g2
              · -- nil, typed
                have hyn : y = .nils := by
                  unfold fixZ at hy
                  split at hy
                  · rfl
                  · exact absurd rfl hy
                subst hyn
                have hnil := h2.nils
                have hrel : Rel H μ F (st.app gu) tm w := by
                  subst hgu
                  unfold giveUp
                  split
                  · rename_i t' ht'
                    split
                    · have hput := hr.put (t := t') (x := (fixZ ti.ez .nils).weak) (v := tm t') (by
                        have := h2
                        rw [ht', hρ.tmp] at this
                        exact (fixZ_rep this).weak) (fun sz xs b off n c e => by have := weak_not_own (fixZ ti.ez .nils); rw [e] at this; simp [V.isOwn] at this)
                      have hup : upd tm t' (tm t') = tm := by
                        funext a
                        by_cases e : a = t'
                        · subst e; simp [upd]
                        · simp [upd, e]
                      rw [hup] at hput
                      exact hput
                    · exact hr
                  · exact hr
                refine ⟨hrel, hlv, hob, fun v x hv hx sz' xs b off n c g1 g2 => ?_⟩
                simp at hv hx
                subst hv; subst hx
                rw [hnil] at g2
                simp at g2
        obtain ⟨k1, k2, k3, k4⟩ := hk
        have hone : noOwn ((vs.map (fixZ ti.ez)).flatMap V.scells) = true ∨ ((vs.map (fixZ ti.ez)).flatMap V.scells).length = 1 ∨ len = 1 := by
          rcases c4 with c4 | c4
          · exact .inr (.inr c4)
          · left
            simp only [noOwn, List.all_eq_true] at c4 ⊢
            intro y hy
            simp only [List.mem_flatMap] at hy
            obtain ⟨v, hv, hy⟩ := hy
            have := c4 v hv
            cases v with
            | agg cs =>
              simp only [V.scells, List.mem_map] at hy
              obtain ⟨c, _, rfl⟩ := hy
              cases c <;> rfl
            | _ => simp only [V.scells, List.mem_singleton] at hy; subst hy; exact this
        have hone2 : noOwn ((vs.map (fixZ ti.ez)).flatMap V.scells) = true ∨ ((vs.map (fixZ ti.ez)).flatMap V.scells).length = 1 := by
          rcases hone with h | h | h
          · exact .inl h
          · exact .inr h
          · have : vs.length = 1 := by omega
            match vs, this with
            | [v], _ =>
              simp only [List.map_cons, List.map_nil, List.flatMap_cons, List.flatMap_nil, List.append_nil]
              cases hq : fixZ ti.ez v with
              | agg cs =>
                left
                simp only [noOwn, V.scells, List.all_eq_true, List.mem_map]
                rintro y ⟨c, _, rfl⟩
                cases c <;> rfl
              | _ => right; rfl
        obtain ⟨n1, n2⟩ := k1.newRowOb (w' := { w with heap := w.heap.push (.cells cells' e) }) (o := .loc d) (by simp) (by rw [k3]; exact ho') (xs := (vs.map (fixZ ti.ez)).flatMap V.scells) (vs := cells') (ty := e)
          (by rw [List.take_of_length_le (by rw [Array.length_toList]; omega)]; exact hrep) (rowOk_iff.2 fun y hy => by
            simp only [List.mem_flatMap] at hy
            obtain ⟨v, hv, hy⟩ := hy
            exact pure_scells (hpure v hv).2 y hy) (fun _ _ _ _ _ _ _ _ _ _ _ _ _ h1 _ h2 _ => inj_one hone2 h1 h2) (fun j sz' ys b off n c h1 h2 => by
              have hl1 : ((vs.map (fixZ ti.ez)).flatMap V.scells).length = 1 := by
                rcases hone2 with h | h
                · have := List.all_eq_true.1 h _ (List.mem_of_getElem? h1)
                  simp [V.isOwn] at this
                · exact h
              -- one part alone, a row
              cases hv' : vs with
              | nil => rw [hv'] at h1; simp at h1
              | cons v vs' =>
                have hlv : vs' = [] := by
                  cases vs' with
                  | nil => rfl
                  | cons v2 vs2 =>
                    exfalso
                    have p1 := (hpure (fixZ ti.ez v) (by rw [hv']; simp)).1
                    have p2 := (hpure (fixZ ti.ez v2) (by rw [hv']; simp)).1
                    obtain ⟨_, _, _, _, _, _, _, _, _, g7, _⟩ := hti.esz _ _ hsz
                    rw [hv'] at hl1
                    simp only [List.map_cons, List.flatMap_cons, List.length_append, scells_length, p1, p2] at hl1
                    omega
                subst hlv
                rw [hv'] at h1 hl1
                simp only [List.map_cons, List.map_nil, List.flatMap_cons, List.flatMap_nil, List.append_nil] at h1 hl1
                have hj0 : j = 0 := by have := (List.getElem?_eq_some_iff.1 h1).1; omega
                subst hj0
                have hsc : (fixZ ti.ez v).scells = [.own sz' ys] := by
                  match hq : (fixZ ti.ez v).scells, hl1 with
                  | [y], _ => rw [hq] at h1; simp at h1; rw [h1]
                have hown := scells_one hsc
                cases hp : parts.toList with
                | nil => rw [hv', hp] at hvl; simp at hvl
                | cons p ps =>
                  have hps : ps = [] := by
                    rw [hv', hp] at hvl
                    cases ps with
                    | nil => rfl
                    | cons => simp at hvl
                  subst hps
                  have h3 := (hg p.2 v (by rw [hp]; rfl) (by rw [hv']; rfl)).2
                  have hcs : (ρ p.2).cells.toList = [.slice (some ⟨b, off, none⟩) n c] := by
                    rw [hp] at q1
                    simp only [List.flatMap_cons, List.flatMap_nil, List.append_nil] at q1
                    rw [← q1]
                    have hl2 : cells'.toList.length = 1 := by
                      rw [q1]
                      have := ((fixZ_rep (ez := ti.ez) h3).scells (by rw [hown]; rfl)).length
                      rw [hsc] at this
                      simpa using this.symm
                    rw [← Array.getElem?_toList] at h2
                    match hq : cells'.toList, hl2 with
                    | [y], _ => rw [hq] at h2; simp at h2; rw [h2]
                  have hval := cells_one (hown ▸ fixZ_rep (ez := ti.ez) h3) hcs
                  exact k4 v p.2 (by rw [hv']; rfl) (by rw [hp]; rfl) sz' ys b off n c hown hval) rfl ⟨rfl, rfl, rfl⟩
        rw [hd]
        refine ⟨_, updO μ (.loc d) (some w.heap.size), _, _, .slice (some ⟨w.heap.size, 0, none⟩) len len, q3, .inl rfl, ?_, n2⟩
        rw [St.app_append]
        simp only [St.app]
        exact n1.put (.two _ _ (.one _ _ (.sl _ _ _ _ _ (by simp [updO]) (Nat.le_refl _) (by simp [Heap.put, q2])))) (by simp)
      · simp [Rd.run] at h
    · simp [Rd.run] at h
  · split at h
    · rename_i hc
      obtain ⟨c1, c2, c3⟩ := hc
      have := rd_pure h
      injection this with this
      subst this
      have hlen : parts.toList.length = len := by
        have := congrArg List.length c1
        simpa using this
      have hpure : ∀ v ∈ vs, v.cells.length = sz ∧ v.pure = true := by
        intro v hv
        have := List.all_eq_true.1 c3 v hv
        simpa using this
      have hpd : ∀ j (hj : j < vs.length) (hj' : j < parts.toList.length), RepD H vs[j].weak (ρ parts.toList[j].2) := fun j hj hj' => RepD.of_pure (hpart j hj hj').1 (hpure _ (List.getElem_mem _)).2
      obtain ⟨e, cells', q1, q2, q3⟩ := buildSlice_run (ρ := ρ) (w := w) ho hti hsz c1 c2 (fun x hx => by
        obtain ⟨j, hj, rfl⟩ := List.getElem_of_mem hx
        have hj2 : j < vs.length := by omega
        have := (hpd j hj2 hj).cells.length
        rw [cells_weak_length, (hpure _ (List.getElem_mem hj2)).1] at this
        simpa using this.symm)
      have hrepL : RepL H ((vs.map V.weak).flatMap V.cells) (parts.toList.flatMap (fun x => (ρ x.2).cells.toList)) := by
        have key : ∀ (xs : List V) (us : List (Nat × Operand)), xs.length = us.length → (∀ j (hj : j < xs.length) (hj' : j < us.length), RepD H xs[j].weak (ρ us[j].2)) →
            RepL H ((xs.map V.weak).flatMap V.cells) (us.flatMap (fun x => (ρ x.2).cells.toList)) := by
          intro xs
          induction xs with
          | nil => intro us h1 _; cases us with | nil => exact .nil | cons => simp at h1
          | cons x xs ih =>
            intro us h1 h2
            cases us with
            | nil => simp at h1
            | cons u us =>
              have h0 := h2 0 (by simp) (by simp)
              simp only [List.map_cons, List.flatMap_cons]
              exact (RepD.cells h0).append (ih us (by simpa using h1) (fun j hj hj' => h2 (j + 1) (by simpa using hj) (by simpa using hj')))
        exact key vs parts.toList hvl hpd
      have hx : ∀ x ∈ vs.map V.weak, x.cells.length = sz := by
        intro x hx
        simp only [List.mem_map] at hx
        obtain ⟨y, hy, rfl⟩ := hx
        rw [cells_weak_length]
        exact (hpure y hy).1
      have hvl2 : vs.length = len := by omega
      obtain ⟨n1, n2, n3, n4, n5⟩ := hr.newRow (w' := { w with heap := w.heap.push (.cells cells' e) }) (c := len) (xs := vs.map V.weak) (flat := parts.toList.flatMap (fun x => (ρ x.2).cells.toList)) rfl ⟨rfl, rfl, rfl⟩
        ⟨[], by rw [q1]; simp⟩ hx hrepL (by simp; omega) (by omega)
      refine ⟨_, μ, _, _, .slice (some ⟨w.heap.size, 0, none⟩) len len, q3, .inl rfl, out_rel n1 (.two _ _ (.one _ _ (by simpa [hvl2] using n3))) (fun sz' xs' b off n c q1 q2 => ?_), n2⟩
      simp only [V.own.injEq] at q1
      obtain ⟨rfl, rfl⟩ := q1
      simp only [Value.slice.injEq, Option.some.injEq, Addr.mk.injEq] at q2
      obtain ⟨⟨rfl, rfl, _⟩, rfl, rfl⟩ := q2
      refine ⟨?_, n5⟩
      simpa [hvl2] using n4
    · simp [Rd.run] at h
end
end Go.Ax
