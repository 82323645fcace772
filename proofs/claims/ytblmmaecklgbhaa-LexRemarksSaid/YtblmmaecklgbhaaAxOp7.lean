/- A part of the proof of a law of this seat: no condition. -/
import Derived.Test.YtblmmaecklgbhaaAxOp6
import Derived.Laws.Append
set_option linter.unusedVariables false
set_option linter.unusedSimpArgs false
namespace Go.Ax
attribute [local simp] look_cons
section
variable {P : Program} {T : Nat → Option TI} {steal : Nat → Bool} {H H' : Heap} {μ μ' : Oid → Option Nat} {F : Fr} {st st' : St} {tm tm' : Nat → Value} {w w' : World} {ρ : Operand → Value}

theorem cellV_one {u : Value} (h : cellV u = true) : u.oneCell' = true := by cases u <;> simp_all [cellV, Value.oneCell']
theorem fillAll {b top : Nat} : ∀ (us : List Value) (w : World) (H : Heap) (off i : Nat), Rel H μ F st tm w → OwnAt H μ F w b (off + i) top → (∀ ℓ, ¬ Holds μ st tm w ℓ b) →
    off + i + us.length ≤ top → (∀ u ∈ us, cellV u = true) →
    ∃ H2 w2, (storeCells ⟨b, off, none⟩ us i).run P w = .ok () w2 ∧ Rel H2 μ F st tm w2 ∧ OwnAt H2 μ F w2 b (off + i + us.length) top ∧ (∀ ℓ, ¬ Holds μ st tm w2 ℓ b) ∧ Ext F H w H2 w2 ∧
      ∀ j (hj : j < us.length), H2 b (off + i + j) = some us[j] := by
  intro us
  induction us with
  | nil => intro w H off i h1 h2 h3 _ _; exact ⟨H, w, by simp [storeCells], h1, by simpa using h2, h3, Ext.refl _ _ _, by simp⟩
  | cons u us ih =>
    intro w H off i h1 h2 h3 h4 h5
    simp at h4
    obtain ⟨g1, g2, g3, g4⟩ := h1.fill1 h2 h3 (by omega) u (fun b' k' => if b' = b ∧ k' = off + i then some u else H b' k')
      (fun b' k' hn => by rw [if_neg hn]) (by simp)
    obtain ⟨H2, w2, k1, k2, k3, k4, k5, k6⟩ := ih _ _ off (i + 1) g1 (by simpa [Nat.add_assoc] using g2) g3 (by omega) (fun x hx => h5 x (by simp [hx]))
    refine ⟨H2, w2, ?_, k2, by simpa [Nat.add_assoc, Nat.add_comm, Nat.add_left_comm] using k3, k4, g4.trans k5, fun j hj => ?_⟩
    · obtain ⟨⟨vs, ty, hblk, htop⟩, _⟩ := h2
      have hcell : w.cell? ⟨b, off + i, none⟩ = some (vs[off + i]'(by omega)) := by rw [cell?_of hblk]; exact Array.getElem?_eq_getElem (by omega)
      have hfr : w.frozen? ⟨b, off + i, none⟩ = false := by simp [World.frozen?, hblk]
      rw [storeCells]
      simp only [Sem.run_bind, addr_add, run_store _ _ _ _ _ (cellV_one (h5 u (by simp))), hcell, hfr, Bool.false_eq_true, if_false, Result.andThen_ok]
      exact k1
    · cases j with
      | zero => exact k5.le _ _ _ (by simp)
      | succ j =>
        have := k6 j (by simpa using hj)
        rw [show off + i + (j + 1) = off + (i + 1) + j from by omega]
        simpa using this

/-- The cells of what is appended. -/
theorem first_run (hr : Rel H μ F st tm w) {y : V} {v : Value} {sz : Nat} {ys : List V} (h : RepS H μ y v) (he : y.elems = some (sz, ys)) :
    ∃ flat : List Value, (∀ w', (∀ b k u, H b k = some u → w'.cell? ⟨b, k, none⟩ = some u) → (Builtin.firstCells sz ys.length v).run P w' = .ok flat.toArray w') ∧
      (Builtin.lenOf v).run P w = .ok ys.length w ∧ flat.length = ys.length * sz ∧ (∀ x ∈ ys, x.cells.length = sz) ∧ RepL H (ys.flatMap V.cells) flat := by
  rcases h.elems he with ⟨rfl, rfl⟩ | ⟨b, off, c, rfl, hc, hrow⟩
  · exact ⟨[], fun w' _ => by simp [Builtin.firstCells], by simp [Builtin.lenOf], by simp, by simp, .nil⟩
  · obtain ⟨flat, f1, f2, f3, f4⟩ := hrow.flat
    refine ⟨flat, fun w' hw => ?_, by simp [Builtin.lenOf], f1, f2, f3⟩
    simp only [Builtin.firstCells]
    exact loadCells_run (fun j hj => hw _ _ _ (f4 j hj)) (by omega)

theorem good_append (hT : TabOk P T) (hr : Rel H μ F st tm w) (hρ : Env ρ tm) {o : Oper} {args : Array Operand} {at' : Array TypeId}
    (ho : o.op = .call { callee := .builtin .append, args := args, argTypes := at' }) {l : List Wr}
    (h : (opS T steal o).run st = some (.ws l)) : Good P H μ F tm w o.dst (st.app l) (execOp ρ o) := by
  unfold opS at h
  rw [ho] at h
  replace h := rd_bind _ _ _ h
  obtain ⟨vs, hvs, h⟩ := h
  obtain ⟨e1, e2⟩ := evs_rep hr hρ hvs
  replace h := rd_bind _ _ _ h
  obtain ⟨t, ht, h⟩ := h
  have ht := rd_rOpt ht
  replace h := rd_bind _ _ _ h
  obtain ⟨ti, hti, h⟩ := h
  have hti := hT _ _ (rd_rOpt hti)
  replace h := rd_bind _ _ _ h
  obtain ⟨⟨sz, bytes⟩, hsz, h⟩ := h
  have hsz := rd_rOpt hsz
  dsimp only at h
  split at h
  · rename_i s xs y hmap
    replace h := rd_bind _ _ _ h
    obtain ⟨⟨s', ys⟩, hys, h⟩ := h
    have hys := rd_rOpt hys
    dsimp only at h
    split at h
    · rename_i hc
      obtain ⟨rfl, rfl, hlim, hat⟩ := hc
      have := rd_pure h
      injection this with this
      subst this
      clear h
      -- the two arguments
      have hvl : vs.length = 2 := by
        have := congrArg List.length hmap
        simpa using this
      obtain ⟨x, z, rfl⟩ := list2 (l := args) (by omega)
      obtain ⟨v0, v1, rfl⟩ : ∃ v0 v1, vs = [v0, v1] := by
        match vs, hvl with
        | [a, b], _ => exact ⟨a, b, rfl⟩
      have hat' : at' = #[t, t] := by
        apply Array.ext'
        simpa using hat
      simp at hmap
      obtain ⟨hm0, hm1⟩ := hmap
      have r0 := e2 0 (by simp) (by simp)
      have r1 := e2 1 (by simp) (by simp)
      simp at r0 r1
      have hy : RepS H μ y (ρ z) := hm1 ▸ fixT_rep' r1.1
      have hx : RepS H μ (.own s' xs) (ρ x) := hm0 ▸ fixT_rep' r0.1
      obtain ⟨e, ie, zz, g1, g2, g3, g4, g5, g6, g7, g8⟩ := hti.esz _ _ hsz
      obtain ⟨flat, f1, f2, f3, f4, f5⟩ := first_run (P := P) hr hy hys
      obtain ⟨k1, k2⟩ := giveUp_rel (ti := some ti) hr hρ r0.2 rfl
      rw [hm0] at k1 k2
      have hga : giveUp ((#[x, z] : Array Operand).getD 0 (.global 0)) (.own s' xs) = giveUp x (.own s' xs) := rfl
      rw [hga, St.app_append]
      generalize hst1 : st.app (giveUp x (.own s' xs)) = st1 at k1 k2
      have hcells : ∀ u ∈ flat, cellV u = true := f5.cellsV
      have hbytes : ¬ ie.bytes = 0 := by omega
      have hexec : (execOp ρ o).run P w = ((Builtin.append_ at' o.type #[ρ x, ρ z]).run P w).andThen fun v w' => .ok (.value v) w' := by
        simp only [execOp, ho, resolve, Sem.run_bind, Sem.run_pure, Result.andThen_ok, invoke, builtin, List.map_toArray, List.map_cons, List.map_nil]
      have hA : ∀ (base : Option Addr) (c : Nat), ρ x = .slice base xs.length c → xs.length + ys.length ≤ c → (Builtin.append_ at' o.type #[ρ x, ρ z]).run P w =
          (match base with | some a => (storeCells (a.add (xs.length * s')) flat).run P w | none => .ok () w).andThen fun _ w2 => .ok (.slice base (xs.length + ys.length) c) w2 := by
        intro base c hbase hle
        have hf := f1 w hr.heap
        rw [hat']
        simp only [Builtin.append_, hbase, List.getElem?_toArray, List.getElem?_cons_zero, List.getElem?_cons_succ, Sem.run_bind, runUnder g1, Result.andThen_ok, runSize g2, g3, Sem.run_pure,
          Bool.false_eq_true, if_false, f2, hle, if_true, Bool.not_false, hf]
        cases base with
        | none => simp only [Sem.run_pure, Result.andThen_ok]
        | some a => simp only [Sem.run_bind, Sem.run_pure]
      have hB : ∀ (base : Option Addr) (c : Nat), ρ x = .slice base xs.length c → ¬ xs.length + ys.length ≤ c → (∀ w', (∀ b k u, H b k = some u → w'.cell? ⟨b, k, none⟩ = some u) → ∃ old : List Value, (Builtin.firstCells s' xs.length (.slice base xs.length c)).run P w' = .ok old.toArray w' ∧ old.length = xs.length * s' ∧ RepL H (xs.flatMap V.cells) old) →
          ∃ (old : List Value) (newCap : Nat) (w1 : World), old.length = xs.length * s' ∧ RepL H (xs.flatMap V.cells) old ∧ xs.length + ys.length ≤ newCap ∧ (w1.heap = w.heap ∧ Io w w1) ∧ (Builtin.append_ at' o.type #[ρ x, ρ z]).run P w =
            .ok (.slice (some ⟨w1.heap.size, 0, none⟩) (xs.length + ys.length) newCap) { w1 with heap := w1.heap.push (.cells (old.toArray ++ flat.toArray ++ Builtin.zeroCells zz.cells (newCap - (xs.length + ys.length))) e) } := by
        intro base c hbase hle hold
        have hfit : ¬ Builtin.nextslicecap (xs.length + ys.length) c * ie.bytes > 2 ^ 48 := by
          have := growslice_fits (need := xs.length + ys.length) (old := c) (bytes := ie.bytes) (by omega) (by rw [g4]; exact hlim)
          omega
        obtain ⟨old, o1, o2, o3⟩ := hold { w with drawn := w.drawn + 1 } (fun b k u hu => hr.heap b k u hu)
        have hf := f1 { w with drawn := w.drawn + 1 } (fun b k u hu => hr.heap b k u hu)
        refine ⟨old, (Question.appendCap (xs.length + ys.length) c e).cut (w.tape w.drawn (.appendCap (xs.length + ys.length) c e)), { w with drawn := w.drawn + 1 }, o2, o3, by simp [Question.cut], ⟨rfl, rfl, rfl, rfl⟩, ?_⟩
        rw [hat']
        simp only [Builtin.append_, hbase, List.getElem?_toArray, List.getElem?_cons_zero, List.getElem?_cons_succ, Sem.run_bind, runUnder g1, Result.andThen_ok, runSize g2, g3, Sem.run_pure,
          Bool.false_eq_true, if_false, f2, hle, Bool.not_false, if_true, runInfo g2, hbytes, or_self, and_false, hfit, run_choose, Question.forced, run_askRoom, o1, hf, runZero g2 g5, newRow, run_newObj]
      have hlenA : (xs ++ ys).length = xs.length + ys.length := List.length_append
      -- a new row
      have hgrow : ∀ (base : Option Addr) (c : Nat), ρ x = .slice base xs.length c → ¬ xs.length + ys.length ≤ c → (∀ q ∈ xs, q.cells.length = s') →
          (∀ w', (∀ b k u, H b k = some u → w'.cell? ⟨b, k, none⟩ = some u) → ∃ old : List Value, (Builtin.firstCells s' xs.length (.slice base xs.length c)).run P w' = .ok old.toArray w' ∧ old.length = xs.length * s' ∧ RepL H (xs.flatMap V.cells) old) →
          Good P H μ F tm w o.dst (st1.app (out o.dst (.own s' (xs ++ ys)))) (execOp ρ o) := by
        intro base c hbase hle hxc hold
        obtain ⟨old, newCap, w1, o1, o2, o3, o4, o5⟩ := hB base c hbase hle hold
        have k1' : Rel H μ F st1 tm w1 := k1.world o4.1
        have hex : Ext F H w H w1 := Ext.world o4.1 o4.2
        obtain ⟨n1, n2, n3, n4, n5⟩ := k1'.newRow (sz := s') (c := newCap) (xs := xs ++ ys) (flat := old ++ flat) (vs := old.toArray ++ flat.toArray ++ Builtin.zeroCells zz.cells (newCap - (xs.length + ys.length))) (ty := e)
          (w' := { w1 with heap := w1.heap.push (.cells (old.toArray ++ flat.toArray ++ Builtin.zeroCells zz.cells (newCap - (xs.length + ys.length))) e) }) rfl ⟨rfl, rfl, rfl⟩
          ⟨(Builtin.zeroCells zz.cells (newCap - (xs.length + ys.length))).toList, by simp⟩
          (fun q hq => by rcases List.mem_append.1 hq with hq | hq; exact hxc q hq; exact f4 q hq)
          (by rw [List.flatMap_append]; exact o2.append f5) (by omega)
          (by
            simp only [Array.size_append, List.size_toArray, o1, f3, Builtin.zeroCells, Array.size_map, Array.size_range, g6]
            rw [← Nat.add_mul, ← Nat.add_mul]
            exact Nat.mul_le_mul_right _ (by omega))
        refine ⟨_, μ, _, _, .slice (some ⟨w1.heap.size, 0, none⟩) (xs.length + ys.length) newCap, by rw [hexec, o5, Result.andThen_ok], .inl rfl,
          out_rel n1 (.two _ _ (.one _ _ (by rw [hlenA] at n3; exact n3))) (fun sz' xs' b off n c' q1 q2 => ?_), hex.trans n2⟩
        simp only [V.own.injEq] at q1
        obtain ⟨rfl, rfl⟩ := q1
        simp only [Value.slice.injEq, Option.some.injEq, Addr.mk.injEq] at q2
        obtain ⟨⟨rfl, rfl, _⟩, rfl, rfl⟩ := q2
        rw [hlenA] at n4
        exact ⟨n4, n5⟩
      rcases hx.elems (sz := s') (xs := xs) rfl with ⟨ex, exs⟩ | ⟨b, off, c, ex, hcap, hrow⟩
      · subst exs
        by_cases hy0 : ys = []
        · subst hy0
          refine good_same (v := .slice none 0 0) ?_ (out_rel k1 (.two _ _ (.one _ _ (.own0 _))) (fun sz' xs' b off n c q1 q2 => by simp at q2))
          rw [hexec, hA none 0 (by simpa using ex) (by simp)]
          rfl
        · have : 0 < ys.length := List.length_pos_iff.2 hy0
          exact hgrow none 0 (by simpa using ex) (by simp; omega) (by simp) (fun w' _ => ⟨[], by simp [Builtin.firstCells], by simp, .nil⟩)
      · by_cases hle : xs.length + ys.length ≤ c
        · obtain ⟨o1, o2⟩ := k2 _ _ _ _ _ _ rfl ex
          obtain ⟨H2, w2, p1, p2, p3, p4, p5, p6⟩ := fillAll (P := P) flat w H (off + xs.length * s') 0 k1 (by simpa using o1) o2
            (by
              have : off + xs.length * s' + 0 + flat.length = off + (xs.length + ys.length) * s' := by rw [f3, Nat.add_mul]; omega
              rw [this]
              have := Nat.mul_le_mul_right s' hle
              omega) hcells
          have hrow2 : RepRow H2 s' b off (xs ++ ys) := (hrow.mono p5.le).append (RepRow.of_flat f4 (f5.mono p5.le) (fun j hj => by simpa using p6 j hj))
          refine ⟨H2, μ, w2, _, .slice (some ⟨b, off, none⟩) (xs.length + ys.length) c, ?_, .inl rfl, out_rel p2 (.two _ _ (.one _ _ ?_)) (fun sz' xs' b' off' n c' q1 q2 => ?_), p5⟩
          · rw [hexec, hA _ _ ex hle]
            simp only [addr_add, p1, Result.andThen_ok]
          · have := Rep1.own (μ := μ) s' (xs ++ ys) b off c hrow2 (by omega)
            rw [hlenA] at this
            exact this
          · simp only [V.own.injEq] at q1
            obtain ⟨rfl, rfl⟩ := q1
            simp only [Value.slice.injEq, Option.some.injEq, Addr.mk.injEq] at q2
            obtain ⟨⟨rfl, rfl, _⟩, rfl, rfl⟩ := q2
            refine ⟨?_, p4⟩
            have he : off + xs.length * s' + 0 + flat.length = off + (xs.length + ys.length) * s' := by rw [f3, Nat.add_mul]; omega
            rw [← he]
            exact p3
        · refine hgrow _ _ ex hle ?_ (fun w' hw => ?_)
          · obtain ⟨_, _, q2, _⟩ := hrow.flat
            exact q2
          · obtain ⟨old, q1, q2, q3, q4⟩ := hrow.flat
            refine ⟨old, ?_, q1, q3⟩
            simp only [Builtin.firstCells]
            exact loadCells_run (fun j hj => hw _ _ _ (q4 j hj)) (by omega)
    · simp [Rd.run] at h
  · simp [Rd.run] at h
end
end Go.Ax
