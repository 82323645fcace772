/- A part of the proof of a law of this seat: no condition. -/
import Derived.Test.YtblmmaecklgbhaaAxOp5
set_option linter.unusedVariables false
set_option linter.unusedSimpArgs false
namespace Go.Ax
attribute [local simp] look_cons
section
variable {P : Program} {T : Nat → Option TI} {steal : Nat → Bool} {H H' : Heap} {μ μ' : Oid → Option Nat} {F : Fr} {st st' : St} {tm tm' : Nat → Value} {w w' : World} {ρ : Operand → Value}

/-- A new row: its elements are told; what lies behind them is nobody's. -/
theorem Rel.newRow (h : Rel H μ F st tm w) {sz c : Nat} {xs : List V} {flat : List Value} {vs : Array Value} {ty : TypeId} (hh : w'.heap = w.heap.push (.cells vs ty)) (hio : Io w w')
    (hf : ∃ rest, vs.toList = flat ++ rest) (hx : ∀ x ∈ xs, x.cells.length = sz) (hr : RepL H (xs.flatMap V.cells) flat) (hc : xs.length ≤ c) (hcs : c * sz ≤ vs.size) :
    Rel (H.row w.heap.size 0 flat) μ F st tm w' ∧ Ext F H w (H.row w.heap.size 0 flat) w' ∧ Rep1 (H.row w.heap.size 0 flat) μ (.own sz xs) (.slice (some ⟨w.heap.size, 0, none⟩) xs.length c) ∧
      OwnAt (H.row w.heap.size 0 flat) μ F w' w.heap.size (0 + xs.length * sz) (0 + c * sz) ∧ ∀ ℓ, ¬ Holds μ st tm w' ℓ w.heap.size := by
  obtain ⟨rest, hrest⟩ := hf
  have hblk : w'.heap[w.heap.size]? = some (.cells vs ty) := by rw [hh]; simp
  have hHn : ∀ k, H w.heap.size k = none := by
    intro k
    cases hk : H w.heap.size k with
    | none => rfl
    | some v => have := cell?_lt (h.heap _ _ _ hk); simp at this
  have hle : Le H (H.row w.heap.size 0 flat) := Heap.row_le _ _ _ _ (fun k _ => hHn k)
  have hrel : Rel (H.row w.heap.size 0 flat) μ F st tm w' := h.push _ hh hle (fun b k hb => Heap.row_ne _ _ _ _ _ _ hb) (fun k v hv => by
    simp only [Heap.row] at hv
    split at hv
    · rename_i hk
      rw [cell?_of hblk, ← Array.getElem?_toList, hrest, List.getElem?_append_left (by omega)]
      simpa using hv
    · rw [hHn] at hv; simp at hv)
  have hlen : flat.length = xs.length * sz := by
    rw [← hr.length]
    clear hr hrest hc hcs hrel hle
    induction xs with
    | nil => simp
    | cons x xs ih =>
      rw [List.flatMap_cons, List.length_append, hx x (by simp), ih (fun y hy => hx y (by simp [hy])), List.length_cons, Nat.succ_mul, Nat.add_comm]
  refine ⟨hrel, Ext.push F _ hh hio hle (fun b k hb => Heap.row_ne _ _ _ _ _ _ hb), .own _ _ _ _ _ ?_ hc, ⟨⟨vs, ty, hblk, by omega⟩, fun k hk => ?_, fun o ho => ?_, fun hF => ?_⟩, fun ℓ hℓ => ?_⟩
  · refine RepRow.of_flat hx (hr.mono hle) fun j hj => ?_
    rw [Heap.row_at]
  · simp only [Heap.row]
    rw [if_neg (by omega)]
    exact hHn k
  · have := (h.obLt ho).choose_spec.2.2
    omega
  · exact absurd (h.Flt _ hF) (by simp)
  · obtain ⟨sz', xs', off, n, c', hl⟩ := hℓ
    -- whoever holds a row held it before
    have hold : atL μ st tm w ℓ (.own sz' xs') (.slice (some ⟨w.heap.size, off, none⟩) n c') := by
      cases ℓ with
      | t m => exact hl
      | o u j =>
        obtain ⟨cs', b', g1, g2, g3, g4⟩ := hl
        refine ⟨cs', b', g1, g2, g3, ?_⟩
        rw [← g4]
        have := (h.obLt g2).choose_spec.2.2
        exact (cell?_eq (by rw [hh, Array.getElem?_push]; simp [Nat.ne_of_lt this]) j).symm
    obtain ⟨⟨vs2, ty2, g1, _⟩, _⟩ := h.own ℓ _ _ _ _ _ _ hold
    have := (Array.getElem?_eq_some_iff.1 g1).1
    simp at this

theorem RepD.of_pure {x : V} {v : Value} (h : RepS H μ x v) (hp : x.pure = true) : RepD H x.weak v := by
  cases h with
  | tup => simp [V.pure, V.pure1] at hp
  | two _ _ h =>
    cases h with
    | clo => simp [V.pure, V.pure1] at hp
    | agg cs vs h =>
      simp only [V.pure] at hp
      simp only [V.weak]
      refine .agg _ _ ?_
      induction cs generalizing vs with
      | nil => cases h; exact .nil
      | cons x xs ih =>
        cases h with
        | cons _ v _ vs h1 hv h hs =>
          simp at hp
          refine .cons _ _ _ _ (isCell_weak1 h1) ?_ (ih _ hs (by simpa using hp.2))
          have hp1 := hp.1
          cases h with
          | data _ _ h => cases h <;> first | (constructor <;> assumption) | simp [V.pure1] at hp1
          | own0 => exact .slice0 _
          | own sz xs b off c hr hc => exact .slice _ _ _ _ _ hr hc
          | _ => simp [V.pure1] at hp1
    | one _ _ h =>
      cases h with
      | data _ _ h =>
        cases h with
        | agg cs vs h =>
          simp only [V.weak]
          refine .agg _ _ ?_
          clear hp
          induction cs generalizing vs with
          | nil => cases h; exact .nil
          | cons x xs ih =>
            cases h with
            | cons _ v _ vs h1 h hs =>
              refine .cons _ _ _ _ (isCell_weak1 h1) ?_ (ih _ hs)
              cases h <;> (constructor <;> assumption)
        | _ => first | (constructor <;> assumption) | constructor
      | own0 => exact .slice0 _
      | own sz xs b off c hr hc => exact .slice _ _ _ _ _ hr hc
      | _ => simp [V.pure, V.pure1] at hp
theorem RepD.cells {x : V} {v : Value} (h : RepD H x v) : RepL H x.cells v.cells.toList := by
  cases h with
  | agg cs vs h => simpa [V.cells, Value.cells] using h
  | _ => exact .cons _ _ _ _ rfl (by constructor <;> assumption) .nil
theorem cells_weak_length (x : V) : x.weak.cells.length = x.cells.length := by cases x <;> simp [V.weak, V.cells]

theorem setAllV_get (us : List Value) : ∀ (cs : List Value) (off j : Nat), off + us.length ≤ cs.length →
    (setAllV cs off us)[j]? = if off ≤ j ∧ j < off + us.length then us[j - off]? else cs[j]? := by
  induction us with
  | nil => intro cs off j _; simp [setAllV]; omega
  | cons u us ih =>
    intro cs off j hle
    simp at hle
    rw [setAllV, ih _ _ _ (by simp; omega)]
    by_cases h1 : off = j
    · subst h1
      have : off < cs.length := by omega
      rw [if_neg (by omega), if_pos (by simp)]
      simp [this]
    · by_cases h2 : off + 1 ≤ j ∧ j < off + 1 + us.length
      · rw [if_pos h2, if_pos (by simp; omega)]
        rw [show j - off = (j - (off + 1)) + 1 from by omega, List.getElem?_cons_succ]
      · rw [if_neg h2, if_neg (by simp; omega), List.getElem?_set_ne h1]
/-- A slice's literal, its parts in their order. -/
theorem fill_row {sz : Nat} (hsz : 0 < sz) : ∀ (vals : List (Nat × Value)) (k : Nat) (cells : Array Value), (∀ j (hj : j < vals.length), vals[j].1 = k + j ∧ vals[j].2.cells.size = sz) →
    k * sz + vals.length * sz ≤ cells.size →
    ∃ cells', Instr.fill (fun i => some (i * sz, sz)) cells vals = some cells' ∧ cells'.size = cells.size ∧ (vals.flatMap (fun x => x.2.cells.toList)).length = vals.length * sz ∧
      ∀ j, cells'.toList[j]? = if k * sz ≤ j ∧ j < k * sz + vals.length * sz then (vals.flatMap (fun x => x.2.cells.toList))[j - k * sz]? else cells.toList[j]? := by
  intro vals
  induction vals with
  | nil => intro k cells _ _; exact ⟨cells, rfl, rfl, by simp, fun j => by simp; omega⟩
  | cons q vals ih =>
    intro k cells hv hle
    obtain ⟨h0, h1⟩ := hv 0 (by simp)
    simp at h0 h1
    simp only [List.length_cons, Nat.succ_mul] at hle
    have hset := fold_set_arr q.2.cells cells (k * sz)
    generalize hc1 : q.2.cells.zipIdx.foldl (fun (cs : Array Value) (x : Value × Nat) => cs.setIfInBounds (k * sz + x.2) x.1) cells = c1 at hset
    have hc1s : c1.size = cells.size := by
      have := congrArg List.length hset
      rw [setAllV_length] at this
      simpa using this
    obtain ⟨cells', g1, g2, g3, g4⟩ := ih (k + 1) c1 (fun j hj => by
      have := hv (j + 1) (by simpa using hj)
      simp at this
      exact ⟨by omega, this.2⟩) (by rw [Nat.succ_mul]; omega)
    refine ⟨cells', ?_, by omega, by simp only [List.flatMap_cons, List.length_append, g3, List.length_cons, Nat.succ_mul, Array.length_toList, h1]; omega, fun j => ?_⟩
    · simp only [Instr.fill, h0]
      have hcond : (decide (q.2.cells.size ≠ sz) || decide (k * sz + q.2.cells.size > cells.size)) = false := by simp [h1]; omega
      simp only [hcond, Bool.false_eq_true, if_false, hc1]
      exact g1
    · rw [g4 j, hset, setAllV_get _ _ _ _ (by simp [h1]; omega)]
      simp only [Array.length_toList, h1, List.length_cons, Nat.succ_mul, List.flatMap_cons]
      by_cases c1 : k * sz + sz ≤ j ∧ j < k * sz + sz + vals.length * sz
      · rw [if_pos c1, if_pos (by omega), List.getElem?_append_right (by simp [h1]; omega)]
        simp only [Array.length_toList, h1]
        congr 1
        omega
      · rw [if_neg c1]
        by_cases c2 : k * sz ≤ j ∧ j < k * sz + sz
        · rw [if_pos c2, if_pos (by omega), List.getElem?_append_left (by simp [h1]; omega)]
        · rw [if_neg c2, if_neg (by omega)]

theorem good_buildSlice (hT : TabOk P T) (hr : Rel H μ F st tm w) (hρ : Env ρ tm) {o : Oper} {t : TypeId} {len : Nat} {parts : Array (Nat × Operand)} (ho : o.op = .buildSlice t len parts) {l : List Wr}
    (h : (opS T steal o).run st = some (.ws l)) : Good P H μ F tm w o.dst (st.app l) (execOp ρ o) := by
  unfold opS at h
  rw [ho] at h
  replace h := rd_bind _ _ _ h
  obtain ⟨ti, hti, h⟩ := h
  have hti := hT _ _ (rd_rOpt hti)
  replace h := rd_bind _ _ _ h
  obtain ⟨vs, hvs, h⟩ := h
  obtain ⟨e1, e2⟩ := evs_rep hr hρ hvs
  replace h := rd_bind _ _ _ h
  obtain ⟨⟨sz, bytes⟩, hsz, h⟩ := h
  have hsz := rd_rOpt hsz
  dsimp only at h
  split at h
  · rename_i hc
    obtain ⟨c1, c2, c3⟩ := hc
    have := rd_pure h
    injection this with this
    subst this
    obtain ⟨e, ie, z, g1, g2, g3, g4, g5, g6, g7, g8⟩ := hti.esz _ _ hsz
    have hlen : parts.toList.length = len := by
      have := congrArg List.length c1
      simpa using this
    have hvl : vs.length = len := by rw [e1]; simpa using hlen
    have hpure : ∀ v ∈ vs, v.cells.length = sz ∧ v.pure = true := by
      intro v hv
      have := List.all_eq_true.1 c3 v hv
      simpa using this
    have hpart : ∀ j (hj : j < len), ∃ (hj1 : j < vs.length) (hj2 : j < parts.toList.length), parts.toList[j].1 = j ∧ RepD H vs[j].weak (ρ parts.toList[j].2) := by
      intro j hj
      refine ⟨by omega, by rw [hlen]; exact hj, ?_, ?_⟩
      · have := congrArg (fun l => l[j]?) c1
        simp only [List.getElem?_map, List.getElem?_eq_getElem (show j < parts.toList.length by rw [hlen]; exact hj), List.getElem?_range hj] at this
        simpa using this
      · have := (e2 j (by omega) (by rw [List.length_map, hlen]; exact hj)).1
        simp at this
        exact RepD.of_pure this (hpure _ (List.getElem_mem _)).2
    generalize hvals : (parts.toList.map fun x => (x.1, ρ x.2)) = vals
    have hvall : vals.length = len := by rw [← hvals]; simpa using hlen
    have hval : ∀ j (hj : j < vals.length), vals[j].1 = 0 + j ∧ vals[j].2.cells.size = sz := by
      intro j hj
      obtain ⟨hj1, hj2, p1, p2⟩ := hpart j (by omega)
      subst hvals
      simp only [List.getElem_map, Nat.zero_add]
      refine ⟨p1, ?_⟩
      have := p2.cells.length
      rw [cells_weak_length, (hpure _ (List.getElem_mem _)).1] at this
      simpa using this.symm
    have hzero : ∃ c0 : Array Value, ((Array.range (len * sz)).map (fun i => (if len * sz = 0 then (#[] : Array Value) else z.cells)[i % (if len * sz = 0 then (#[] : Array Value) else z.cells).size]!)) = c0 ∧ c0.size = len * sz := ⟨_, rfl, by simp⟩
    obtain ⟨c0, hc0, hc0s⟩ := hzero
    obtain ⟨cells', f1, f2, f3, f4⟩ := fill_row g7 vals 0 c0 hval (by rw [hc0s, hvall]; omega)
    have hflat : cells'.toList = vals.flatMap (fun x => x.2.cells.toList) := by
      apply List.ext_getElem?
      intro j
      rw [f4 j]
      by_cases hj : j < len * sz
      · rw [if_pos (by rw [hvall]; omega)]; simp
      · rw [if_neg (by rw [hvall]; omega), List.getElem?_eq_none (by simp; omega), List.getElem?_eq_none (by rw [f3, hvall]; omega)]
    have hrepL : RepL H ((vs.map V.weak).flatMap V.cells) (vals.flatMap (fun x => x.2.cells.toList)) := by
      have key : ∀ (k : Nat) (xs : List V) (us : List (Nat × Value)), xs.length = us.length → (∀ j (hj : j < xs.length) (hj' : j < us.length), RepD H xs[j].weak us[j].2) →
          RepL H ((xs.map V.weak).flatMap V.cells) (us.flatMap (fun x => x.2.cells.toList)) := by
        intro _ xs
        induction xs with
        | nil => intro us h1 _; cases us with | nil => exact .nil | cons => simp at h1
        | cons x xs ih =>
          intro us h1 h2
          cases us with
          | nil => simp at h1
          | cons u us =>
            have h0 := h2 0 (by simp) (by simp)
            simp only [List.map_cons, List.flatMap_cons]
            exact (RepD.cells h0).append (ih us (by simpa using h1) (fun j hj hj' => h2 (j + 1) (by simpa using hj) (by simpa using hj')))
      refine key 0 vs vals (by omega) fun j hj hj' => ?_
      obtain ⟨hj1, hj2, p1, p2⟩ := hpart j (by omega)
      subst hvals
      simpa using p2
    have hx : ∀ x ∈ vs.map V.weak, x.cells.length = sz := by
      intro x hx
      simp only [List.mem_map] at hx
      obtain ⟨y, hy, rfl⟩ := hx
      rw [cells_weak_length]
      exact (hpure y hy).1
    obtain ⟨n1, n2, n3, n4, n5⟩ := hr.newRow (w' := { w with heap := w.heap.push (.cells cells' e) }) (c := len) (xs := vs.map V.weak) (flat := vals.flatMap (fun x => x.2.cells.toList)) rfl ⟨rfl, rfl, rfl⟩
      ⟨[], by rw [hflat]; simp⟩ hx hrepL (by simp; omega) (by omega)
    refine ⟨_, μ, _, _, .slice (some ⟨w.heap.size, 0, none⟩) len len, ?_, .inl rfl, out_rel n1 (.two _ _ (.one _ _ (by simpa [hvl] using n3))) (fun sz' xs' b off n c q1 q2 => ?_), n2⟩
    · have hrun : ∀ w, (if len * sz = 0 then (pure #[] : Sem (Array Value)) else do pure (← zeroValue e).cells).run P w = .ok (if len * sz = 0 then (#[] : Array Value) else z.cells) w := by
        intro w
        split
        · rfl
        · simp only [Sem.run_bind, runZero g2 g5, Result.andThen_ok, Sem.run_pure]
      have h24 : ¬ len * sz > 2 ^ 24 := by omega
      have hvals' : (parts.map fun x => (x.1, ρ x.2)).toList = vals := by simpa using hvals
      simp only [execOp, ho, Instr.buildSlice, Sem.run_bind, runUnder g1, Result.andThen_ok, runSize g2, g3, Sem.run_ite, h24, if_false, Sem.run_pure]
      have hz2 : ∀ (zz : Array Value), zz = (if len * sz = 0 then #[] else z.cells) →
          Instr.fill (fun i => some (i * sz, sz)) (Array.map (fun x => zz[x % zz.size]!) (Array.range (len * sz))) (Array.map (fun x => (x.fst, ρ x.snd)) parts).toList = some cells' := by
        intro zz hzz
        subst hzz
        rw [hc0, hvals', f1]
      split
      · rename_i h0
        rw [hz2 #[] (by rw [if_pos h0])]
        rfl
      · rename_i h0
        rw [runZero g2 g5, Result.andThen_ok, hz2 z.cells (by rw [if_neg h0])]
        rfl
    · simp only [V.own.injEq] at q1
      obtain ⟨rfl, rfl⟩ := q1
      simp only [Value.slice.injEq, Option.some.injEq, Addr.mk.injEq] at q2
      obtain ⟨⟨rfl, rfl, _⟩, rfl, rfl⟩ := q2
      refine ⟨?_, n5⟩
      simpa [hvl] using n4
  · simp [Rd.run] at h
end
end Go.Ax
