/- A part of the proof of a law of this seat: no condition. -/
import Derived.Test.YtblmmaecklgbhaaAxOp6
import Derived.Laws.Append
set_option linter.unusedVariables false
set_option linter.unusedSimpArgs false
namespace Go.Ax
attribute [local simp] look_cons
section
variable {P : Program} {T : Nat → Option TI} {M : Mode} {H H' : Heap} {μ μ' : Oid → Option Nat} {F : Fr} {st st' : St} {tm tm' : Nat → Value} {w w' : World} {ρ : Operand → Value}

theorem fillAll {b top : Nat} : ∀ (us : List Value) (w : World) (H : Heap) (off i : Nat), Rel H μ F st tm w → OwnAt H (live st μ) F w b (off + i) top → (∀ ℓ, ¬ Holds μ st tm w ℓ b) →
    off + i + us.length ≤ top → (∀ u ∈ us, cellV u = true) →
    ∃ H2 w2, (storeCells ⟨b, off, none⟩ us i).run P w = .ok () w2 ∧ Rel H2 μ F st tm w2 ∧ OwnAt H2 (live st μ) F w2 b (off + i + us.length) top ∧ (∀ ℓ, ¬ Holds μ st tm w2 ℓ b) ∧ Ext F H w H2 w2 ∧
      ∀ j (hj : j < us.length), H2 b (off + i + j) = some us[j] := by
  intro us
  induction us with
  | nil => intro w H off i h1 h2 h3 _ _; exact ⟨H, w, by simp [storeCells], h1, by simpa using h2, h3, Ext.refl _ _ _, by simp⟩
  | cons u us ih =>
    intro w H off i h1 h2 h3 h4 h5
    simp at h4
    obtain ⟨g1, g2, g3, g4⟩ := h1.fill1 h2 h3 (by omega) u ⟨fun b' k' => if b' = b ∧ k' = off + i then some u else H b' k', H.size⟩
      (fun b' k' hn => by show (if _ then _ else _) = _; rw [if_neg hn]) (by show (if _ then _ else _) = _; simp) rfl
    obtain ⟨H2, w2, k1, k2, k3, k4, k5, k6⟩ := ih _ _ off (i + 1) g1 (by simpa [Nat.add_assoc] using g2) g3 (by omega) (fun x hx => h5 x (by simp [hx]))
    refine ⟨H2, w2, ?_, k2, by simpa [Nat.add_assoc, Nat.add_comm, Nat.add_left_comm] using k3, k4, g4.trans k5, fun j hj => ?_⟩
    · obtain ⟨⟨vs, ty, hblk, htop⟩, _⟩ := h2
      have hcell : w.cell? ⟨b, off + i, none⟩ = some (vs[off + i]'(by omega)) := by rw [cell?_of hblk]; exact Array.getElem?_eq_getElem (by omega)
      have hfr : w.frozen? ⟨b, off + i, none⟩ = false := by simp [World.frozen?, hblk]
      rw [storeCells]
      simp only [Sem.run_bind, addr_add, run_store _ _ _ _ _ (cellV_one (h5 u (by simp))), hcell, hfr, Bool.false_eq_true, if_false, Result.andThen_ok]
      exact k1
    · cases j with
      | zero => exact k5.le.cell _ _ _ (by simp)
      | succ j =>
        have := k6 j (by simpa using hj)
        rw [show off + i + (j + 1) = off + (i + 1) + j from by omega]
        simpa using this

/-- The cells of what is appended. -/
theorem first_run (hr : Rel H μ F st tm w) {y : V} {v : Value} {sz : Nat} {ys : List V} (h : RepS H μ y v) (he : y.elems = some (sz, ys)) :
    ∃ flat : List Value, (∀ w', (∀ b k u, H b k = some u → w'.cell? ⟨b, k, none⟩ = some u) → (Builtin.firstCells sz ys.length v).run P w' = .ok flat.toArray w') ∧
      (Builtin.lenOf v).run P w = .ok ys.length w ∧ flat.length = ys.length * sz ∧ (∀ x ∈ ys, x.cells.length = sz) ∧ RepL H (ys.flatMap V.cells) flat := by
  rcases h.elems he with ⟨rfl, rfl⟩ | ⟨b, off, c, rfl, hc, hrow⟩
  · exact ⟨[], fun w' _ => by simp [Builtin.firstCells], by simp [Builtin.lenOf], by simp, by simp, .nil⟩
  · obtain ⟨flat, f1, f2, f3, f4⟩ := hrow.flat
    refine ⟨flat, fun w' hw => ?_, by simp [Builtin.lenOf], f1, f2, f3⟩
    simp only [Builtin.firstCells]
    exact loadCells_run (fun j hj => hw _ _ _ (f4 j hj)) (by omega)

/-- What append does: where there is room, and where there is none. -/
theorem append_run {ti : TI} {t t2 : TypeId} (hti : TIok P t ti) (hd2 : (∃ e, P.underlying t2 = some (.slice e)) ∨ P.underlying t2 = some .string) {sz bytes : Nat} (hsz : ti.esz = some (sz, bytes)) {o : Oper} {x z : Operand}
    (ho : o.op = .call { callee := .builtin .append, args := #[x, z], argTypes := #[t, t2] }) {n m c : Nat} {base : Option Addr} (hx : ρ x = .slice base n c) {flat : List Value}
    (hfl : ∀ w' : World, w'.heap = w.heap → (Builtin.firstCells sz m (ρ z)).run P w' = .ok flat.toArray w') (hlen : ∀ w' : World, (Builtin.lenOf (ρ z)).run P w' = .ok m w') (hfs : flat.length = m * sz)
    (hlim : (n + m) * bytes ≤ 140737488355328) :
    (n + m ≤ c → (execOp ρ o).run P w = (match base with | some a => (storeCells (a.add (n * sz)) flat).run P w | none => .ok () w).andThen fun _ w2 => .ok (.value (.slice base (n + m) c)) w2) ∧
    (¬ n + m ≤ c → ∀ old : List Value, (∀ w' : World, w'.heap = w.heap → (Builtin.firstCells sz n (.slice base n c)).run P w' = .ok old.toArray w') → old.length = n * sz →
      ∃ (newCap : Nat) (w1 : World) (e : TypeId) (zs : Array Value), n + m ≤ newCap ∧ w1.heap = w.heap ∧ Io w w1 ∧ (old.toArray ++ flat.toArray ++ zs).size = newCap * sz ∧
        (execOp ρ o).run P w = .ok (.value (.slice (some ⟨w1.heap.size, 0, none⟩) (n + m) newCap)) { w1 with heap := w1.heap.push (.cells (old.toArray ++ flat.toArray ++ zs) e) }) := by
  obtain ⟨e, ie, zz, g1, g2, g3, g4, g5, g6, g7, g8⟩ := hti.esz _ _ hsz
  have hbytes : ¬ ie.bytes = 0 := by omega
  have hexec : (execOp ρ o).run P w = ((Builtin.append_ #[t, t2] o.type #[ρ x, ρ z]).run P w).andThen fun v w' => .ok (.value v) w' := by
    simp only [execOp, ho, resolve, Sem.run_bind, Sem.run_pure, Result.andThen_ok, invoke, builtin, List.map_toArray, List.map_cons, List.map_nil]
  refine ⟨fun hle => ?_, fun hle old hold ho2 => ?_⟩
  · have hf := hfl w rfl
    rw [hexec]
    rcases hd2 with ⟨e2, hd2⟩ | hd2
    all_goals
     simp only [Builtin.append_, hx, runUnder hd2, List.getElem?_toArray, List.getElem?_cons_zero, List.getElem?_cons_succ, Sem.run_bind, runUnder g1, Result.andThen_ok, runSize g2, g3, Sem.run_pure,
      Bool.false_eq_true, if_false, hlen, hle, if_true, Bool.not_false, hf]
     cases base with
     | none => simp only [Sem.run_pure, Result.andThen_ok]
     | some a =>
      simp only [Sem.run_bind, Sem.run_pure]
      cases (storeCells (a.add (n * sz)) flat).run P w <;> rfl
  · have hfit : ¬ Builtin.nextslicecap (n + m) c * ie.bytes > 2 ^ 48 := by
      have := growslice_fits (need := n + m) (old := c) (bytes := ie.bytes) (by omega) (by rw [g4]; exact hlim)
      omega
    have o1 := hold { w with drawn := w.drawn + 1 } rfl
    have hf := hfl { w with drawn := w.drawn + 1 } rfl
    refine ⟨(Question.appendCap (n + m) c e).cut (w.tape w.drawn (.appendCap (n + m) c e)), { w with drawn := w.drawn + 1 }, e, Builtin.zeroCells zz.cells ((Question.appendCap (n + m) c e).cut (w.tape w.drawn (.appendCap (n + m) c e)) - (n + m)), by simp [Question.cut], rfl, ⟨rfl, rfl, rfl⟩, ?_, ?_⟩
    · have hcap : n + m ≤ (Question.appendCap (n + m) c e).cut (w.tape w.drawn (.appendCap (n + m) c e)) := by simp [Question.cut]
      simp only [Array.size_append, List.size_toArray, ho2, hfs, Builtin.zeroCells, Array.size_map, Array.size_range, g6]
      rw [← Nat.add_mul, ← Nat.add_mul]
      congr 1
      omega
    · rw [hexec]
      rcases hd2 with ⟨e2, hd2⟩ | hd2
      all_goals simp only [Builtin.append_, hx, runUnder hd2, List.getElem?_toArray, List.getElem?_cons_zero, List.getElem?_cons_succ, Sem.run_bind, runUnder g1, Result.andThen_ok, runSize g2, g3, Sem.run_pure,
        Bool.false_eq_true, if_false, hlen, hle, Bool.not_false, if_true, runInfo g2, hbytes, or_self, and_false, hfit, run_choose, Question.forced, run_askRoom, o1, hf, runZero g2 g5, newRow, run_newObj]

/-- Cells behind an object's last are written. -/
theorem pushCells_run {o : Oid} {b : Nat} (hb : μ o = some b) : ∀ (xs : List V) (us : List Value) (st : St) (w : World) (cs : List V) (k i : Nat), Rel H μ F st tm w → st.ob o = some (.cells true cs) → k + i = cs.length →
    RepC H μ xs us → k + i + xs.length ≤ H.size b → rowOk xs = true → (noOwn xs = true ∨ xs.length = 1) →
    (∀ (j sz : Nat) (ys : List V) (b' o' n c : Nat), xs[j]? = some (.own sz ys) → us[j]? = some (.slice (some ⟨b', o', none⟩) n c) → OwnAt H (live st μ) F w b' (o' + n * sz) (o' + c * sz) ∧ ∀ ℓ, ¬ Holds μ st tm w ℓ b') →
    ∃ w', (storeCells ⟨b, k, none⟩ us i).run P w = .ok () w' ∧ Rel H μ F (st.putO o (.cells true (cs ++ xs))) tm w' ∧ Ext F H w H w' := by
  intro xs
  induction xs with
  | nil =>
    intro us st w cs k i hr ho hk hc hle _ _ _
    cases hc
    refine ⟨w, by simp [storeCells], hr.congr (fun t => rfl) (fun u => ?_), Ext.refl _ _ _⟩
    simp only [St.ob_putO, List.append_nil]
    split
    · rename_i h; subst h; exact ho.symm
    · rfl
  | cons x xs ih =>
    intro us st w cs k i hr ho hk hc hle hrow hone hown
    cases hc with
    | cons _ u _ us hx hv hrep hs =>
      have hlv := hr.cellsLive ho hb
      obtain ⟨vs, ty, hblk, hrep', _⟩ := hr.cellsAt ho hb
      have hsz := hr.size b
      rw [blkSize_of hblk] at hsz
      have hlt : k + i < vs.size := by simp at hle; omega
      have hset := hr.setCell hb ho (.inr ⟨hk, rfl, by rw [blkSize_of hblk]; exact hlt⟩) hx hv hrep (fun _ => rowOk_iff.1 hrow x (by simp)) (fun sz ys b' o' n c e1 e2 => hown 0 sz ys b' o' n c (by simp [e1]) (by simp [e2]))
      have hno : noOwn xs = true := by
        rcases hone with h | h
        · simp only [noOwn, List.all_cons, Bool.and_eq_true] at h
          exact h.2
        · have : xs = [] := by cases xs <;> simp at h ⊢
          subst this
          rfl
      obtain ⟨w2, g1, g2, g3⟩ := ih us (st.putO o (.cells true (cs ++ [x]))) (w.setCell ⟨b, k + i, none⟩ u) (cs ++ [x]) k (i + 1) hset
        (by simp [St.ob_putO]) (by simp; omega) hs (by simp at hle ⊢; omega) (rowOk_iff.2 fun y hy => rowOk_iff.1 hrow y (by simp [hy])) (.inl hno)
        (fun j sz ys b' o' n c e1 _ => by
          have := List.all_eq_true.1 hno _ (List.mem_of_getElem? e1)
          simp [V.isOwn] at this)
      refine ⟨w2, ?_, g2.congr (fun t => rfl) (fun u' => ?_), (Ext.setCell hr hlv (k + i) u).trans g3⟩
      · have hcell : w.cell? ⟨b, k + i, none⟩ = some (vs[k + i]'hlt) := by rw [cell?_of hblk]; exact Array.getElem?_eq_getElem hlt
        have hfr : w.frozen? ⟨b, k + i, none⟩ = false := by simp [World.frozen?, hblk]
        rw [storeCells]
        simp only [Sem.run_bind, addr_add, run_store _ _ _ _ _ (cellV_one hv), hcell, hfr, Bool.false_eq_true, if_false, Result.andThen_ok]
        exact g1
      · simp only [St.ob_putO, List.append_assoc, List.cons_append, List.nil_append]
        split <;> rfl

theorem RepL.pure {xs us} (h : RepL H xs us) : ∀ x ∈ xs, x.pure1 = true := by
  induction xs generalizing us with
  | nil => simp
  | cons x xs ih =>
    cases h with
    | cons _ v _ us h1 h hs =>
      intro y hy
      rcases List.mem_cons.1 hy with rfl | hy
      · cases h <;> first | rfl | simp [V.isCell] at h1
      · exact ih hs y hy
theorem RepL.noOwn {xs us} (h : RepL H xs us) : Go.Ax.noOwn xs = true := by
  simp only [Go.Ax.noOwn, List.all_eq_true]
  induction xs generalizing us with
  | nil => simp
  | cons x xs ih =>
    cases h with
    | cons _ v _ us h1 h hs =>
      intro y hy
      rcases List.mem_cons.1 hy with rfl | hy
      · cases h <;> rfl
      · exact ih hs y hy
theorem RepC.take' {cs vs} (h : RepC H μ cs vs) (n : Nat) : RepC H μ (cs.take n) (vs.take n) := by
  have hl := h.length
  refine RepC.of_get (by simp; omega) fun j hj hj' => ?_
  simp only [List.getElem_take]
  exact h.get _ _ _

/-- A row that is written to grows. -/
theorem appendSl (hr : Rel H μ F st tm w) {sz n m c : Nat} {u : Oid} {cs ws : List V} {flat : List Value} {base : Option Addr} {s : Sem Next} {dst : Option Nat}
    (hu : st.ob u = some (.cells true cs)) (hau : st.ob (.alt u) = none) (hn : n * sz ≤ cs.length) (hsz : 0 < sz)
    (hbase : (n = 0 ∧ base = none ∧ c = 0) ∨ ∃ b, base = some ⟨b, 0, none⟩ ∧ μ u = some b ∧ n ≤ c ∧ c * sz ≤ H.size b)
    (hw : RepC H μ ws flat) (hwr : rowOk ws = true) (hfs : flat.length = m * sz) (hone : noOwn ws = true ∨ ws.length = 1)
    (hown : ∀ (j sz : Nat) (ys : List V) (b' o' n c : Nat), ws[j]? = some (.own sz ys) → flat[j]? = some (.slice (some ⟨b', o', none⟩) n c) → OwnAt H (live st μ) F w b' (o' + n * sz) (o' + c * sz) ∧ ∀ ℓ, ¬ Holds μ st tm w ℓ b')
    (hA : n + m ≤ c → s.run P w = (match base with | some a => (storeCells (a.add (n * sz)) flat).run P w | none => .ok () w).andThen fun _ w2 => .ok (.value (.slice base (n + m) c)) w2)
    (hB : ¬ n + m ≤ c → ∀ old : List Value, (∀ w' : World, w'.heap = w.heap → (Builtin.firstCells sz n (.slice base n c)).run P w' = .ok old.toArray w') → old.length = n * sz →
      ∃ (newCap : Nat) (w1 : World) (e : TypeId) (zs : Array Value), n + m ≤ newCap ∧ w1.heap = w.heap ∧ Io w w1 ∧ (old.toArray ++ flat.toArray ++ zs).size = newCap * sz ∧
        s.run P w = .ok (.value (.slice (some ⟨w1.heap.size, 0, none⟩) (n + m) newCap)) { w1 with heap := w1.heap.push (.cells (old.toArray ++ flat.toArray ++ zs) e) }) :
    Good P H μ F tm w dst (((st.putO u .dead).putO (.alt u) (.cells true (cs.take (n * sz) ++ ws))).app (out dst (.sl sz (.alt u) (n + m)))) s := by
  obtain ⟨k1, k2, k3, k4⟩ := hr.kill (o := u) (by rw [hu]; simp)
  have hne : u ≠ .alt u := by intro e; rw [← e, hu] at hau; simp at hau
  have hau' : (st.putO u .dead).ob (.alt u) = none := by rw [St.ob_putO, if_neg hne]; exact hau
  have hwl : ws.length = m * sz := by rw [hw.length, hfs]
  have hsub : ∀ o b, live (st.putO u .dead) μ o = some b → live st μ o = some b := by
    intro o b h
    rw [live_kill] at h
    split at h
    · simp at h
    · exact h
  -- the old row's cells, wherever they lie now
  have hrow : ∀ b, μ u = some b → rowOk cs = true := fun b hb => by
    obtain ⟨vs, ty, _, _, h3⟩ := hr.cellsAt hu hb
    exact h3 rfl
  by_cases hle : n + m ≤ c
  · rcases hbase with ⟨rfl, rfl, rfl⟩ | ⟨b, rfl, hb, hnc, hcs⟩
    · have hm : m = 0 := by omega
      subst hm
      have hws : ws = [] := List.eq_nil_of_length_eq_zero (by omega)
      subst hws
      have k5 := k1.addNil (o := .alt u) (by simp) hau'
      refine good_same (v := .slice none 0 0) (by rw [hA hle]; rfl) ?_
      simp only [Nat.zero_mul, List.take_zero, List.append_nil]
      exact out_rel' k5 (.two _ _ (.one _ _ (.sl0 _ _))) rfl
    · have hlb := hr.cellsLive hu hb
      obtain ⟨vs, ty, hblk, hrep, hro⟩ := hr.cellsAt hu hb
      have hlenr := hrep.length
      rw [List.length_take] at hlenr
      have hlen2 : cs.length ≤ vs.size := by simp at hlenr; omega
      have hold : ∀ ℓ, ¬ Holds μ st tm w ℓ b := by
        rintro ℓ ⟨sz', xs', off', n', c', hl⟩
        exact (hr.own _ _ _ _ _ _ _ hl).noobj u hlb
      have hlm : LeM μ (updO μ (.alt u) (some b)) := by
        intro v b' hb'
        unfold updO
        by_cases e : v = .alt u
        · subst e; rw [hr.dom _ hau] at hb'; simp at hb'
        · simpa [e] using hb'
      have hatu : ∀ j sz' xs' b' off' n' c', (cs.take (n * sz))[j]? = some (.own sz' xs') → w.cell? ⟨b, j, none⟩ = some (.slice (some ⟨b', off', none⟩) n' c') → atL μ st tm w (.o u j) (.own sz' xs') (.slice (some ⟨b', off', none⟩) n' c') := by
        intro j sz' xs' b' off' n' c' h1 h2
        have h3 : cs[j]? = some (.own sz' xs') := by
          rw [List.getElem?_take] at h1
          split at h1
          · exact h1
          · simp at h1
        exact ⟨true, cs, b, hu, hb, h3, h2⟩
      have k5 := k1.addOb (o := .alt u) (by simp) hau' (x := .cells true (cs.take (n * sz))) rfl (b := b)
        ⟨vs, ty, hblk, by
          have := (hrep.take' (n * sz)).mono (Le.refl _) hlm
          rw [List.take_take] at this
          rw [List.length_take]
          exact this, fun _ => rowOk_iff.2 fun y hy => rowOk_iff.1 (hro rfl) y (List.mem_of_mem_take hy)⟩
        (k3 b hlb) (hr.objH u b hlb) (hr.objF u b hlb) (fun ℓ hl => hold ℓ (k4 _ _ hl))
        (fun row cs' j sz' xs' b' off' n' c' e1 e2 e3 => by
          simp only [Ob.cells.injEq] at e1
          obtain ⟨_, rfl⟩ := e1
          have hl := hatu j sz' xs' b' off' n' c' e2 e3
          have ho := hr.own _ _ _ _ _ _ _ hl
          exact ⟨fun e => ho.noobj u (e ▸ hlb), ho.sub hsub, k2 j b' ⟨_, _, _, _, _, hl⟩⟩)
        (fun j j' b' h1 h2 => by
          obtain ⟨row, cs1, sz1, xs1, off1, n1, c1, e1, e2, e3⟩ := h1
          obtain ⟨row', cs1', sz1', xs1', off1', n1', c1', e1', e2', e3'⟩ := h2
          simp only [Ob.cells.injEq] at e1 e1'
          obtain ⟨_, rfl⟩ := e1
          obtain ⟨_, rfl⟩ := e1'
          have := hr.ownInj _ _ b' ⟨_, _, _, _, _, hatu _ _ _ _ _ _ _ e2 e3⟩ ⟨_, _, _, _, _, hatu _ _ _ _ _ _ _ e2' e3'⟩
          simpa using this)
      have hlv5 : ∀ v b', live ((st.putO u .dead).putO (.alt u) (.cells true (cs.take (n * sz)))) (updO μ (.alt u) (some b)) v = some b' → live st μ v = some b' ∨ b' = b := by
        intro v b' h
        rw [live_add rfl] at h
        split at h
        · simp at h; exact .inr h.symm
        · exact .inl (hsub _ _ h)
      have hho5 : ∀ ℓ b', Holds (updO μ (.alt u) (some b)) ((st.putO u .dead).putO (.alt u) (.cells true (cs.take (n * sz)))) tm w ℓ b' → ∃ ℓ', Holds μ st tm w ℓ' b' := by
        rintro ℓ b' ⟨sz1, xs1, off1, n1, c1, hl⟩
        cases ℓ with
        | t q => exact ⟨.t q, sz1, xs1, off1, n1, c1, hl⟩
        | o v j =>
          obtain ⟨row, cs1, b1, h1, h2, h3, h4⟩ := hl
          rw [St.ob_putO] at h1
          by_cases e : (Oid.alt u) = v
          · rw [if_pos e] at h1
            simp only [Option.some.injEq, Ob.cells.injEq] at h1
            obtain ⟨rfl, rfl⟩ := h1
            subst e
            simp [updO] at h2
            subst h2
            exact ⟨.o u j, _, _, _, _, _, hatu _ _ _ _ _ _ _ h3 h4⟩
          · rw [if_neg e] at h1
            simp only [updO, Ne.symm e, if_false] at h2
            exact ⟨.o v j, k4 (.o v j) b' ⟨sz1, xs1, off1, n1, c1, ⟨row, cs1, b1, h1, h2, h3, h4⟩⟩⟩
      have hidx : n * sz + m * sz ≤ H.size b := by
        have := Nat.mul_le_mul_right sz hle
        rw [Nat.add_mul] at this
        omega
      obtain ⟨w2, p1, p2, p3⟩ := pushCells_run (P := P) (o := .alt u) (b := b) (by simp [updO]) ws flat _ w (cs.take (n * sz)) (n * sz) 0 k5 (by simp [St.ob_putO]) (by rw [List.length_take]; omega) (hw.mono (Le.refl _) hlm) (by omega) hwr hone
        (fun j sz' ys b' o' n' c' e1 e2 => by
          obtain ⟨ho, hh⟩ := hown j sz' ys b' o' n' c' e1 e2
          refine ⟨⟨ho.blk, ho.free, fun v hv => ?_, ho.nofr⟩, fun ℓ hl => ?_⟩
          · rcases hlv5 v b' hv with h | h
            · exact ho.noobj v h
            · exact ho.noobj u (h ▸ hlb)
          · obtain ⟨ℓ', hl'⟩ := hho5 _ _ hl
            exact hh ℓ' hl')
      refine ⟨H, updO μ (.alt u) (some b), w2, _, .slice (some ⟨b, 0, none⟩) (n + m) c, ?_, .inl rfl, ?_, p3⟩
      · rw [hA hle]
        simp only [addr_add, Nat.zero_add, p1, Result.andThen_ok]
      · have p4 : Rel H (updO μ (.alt u) (some b)) F ((st.putO u .dead).putO (.alt u) (.cells true (cs.take (n * sz) ++ ws))) tm w2 := p2.congr (fun _ => rfl) fun v => by
          simp only [St.ob_putO]
          split <;> rfl
        refine out_rel' (x := .sl sz (.alt u) (n + m)) p4 (.two _ _ (.one _ _ (.sl _ _ b _ _ (by simp [updO]) hle hcs))) rfl
  · -- a new place
    have hold : ∃ old : List Value, (∀ w' : World, w'.heap = w.heap → (Builtin.firstCells sz n (.slice base n c)).run P w' = .ok old.toArray w') ∧ old.length = n * sz ∧ RepC H μ (cs.take (n * sz)) old ∧
        (∀ j sz' xs' b' off' n' c', (cs.take (n * sz))[j]? = some (.own sz' xs') → old[j]? = some (.slice (some ⟨b', off', none⟩) n' c') → atL μ st tm w (.o u j) (.own sz' xs') (.slice (some ⟨b', off', none⟩) n' c')) := by
      rcases hbase with ⟨rfl, rfl, rfl⟩ | ⟨b, rfl, hb, hnc, hcs⟩
      · refine ⟨[], fun w' _ => by simp [Builtin.firstCells], by simp, by simpa using RepC.nil, by simp⟩
      · obtain ⟨vs, ty, hblk, hrep, hro⟩ := hr.cellsAt hu hb
        have hlenr := hrep.length
        rw [List.length_take] at hlenr
        have hlen2 : cs.length ≤ vs.size := by simp at hlenr; omega
        have hol : (vs.toList.take (n * sz)).length = n * sz := by rw [List.length_take]; simp; omega
        refine ⟨vs.toList.take (n * sz), fun w' hw' => ?_, hol, ?_, fun j sz' xs' b' off' n' c' h1 h2 => ?_⟩
        · simp only [Builtin.firstCells]
          refine loadCells_run (fun j hj => ?_) hol.symm
          rw [Nat.zero_add, cell?_of (by rw [hw']; exact hblk)]
          rw [hol] at hj
          simp only [List.getElem_take, Array.getElem_toList]
          exact Array.getElem?_eq_getElem (by omega)
        · have := hrep.take' (n * sz)
          rw [List.take_take, Nat.min_eq_left hn] at this
          exact this
        · have h3 : cs[j]? = some (.own sz' xs') := by
            rw [List.getElem?_take] at h1
            split at h1
            · exact h1
            · simp at h1
          have h4 : vs[j]? = some (.slice (some ⟨b', off', none⟩) n' c') := by
            rw [List.getElem?_take] at h2
            split at h2
            · simpa using h2
            · simp at h2
          exact ⟨true, cs, b, hu, hb, h3, by rw [cell?_of hblk]; exact h4⟩
    obtain ⟨old, o1, o2, o3, o4⟩ := hold
    obtain ⟨newCap, w1, e, zs, q1, q2, q3, q4, q5⟩ := hB hle old o1 o2
    have hr1 : Rel H μ F (st.putO u .dead) tm w1 := k1.world q2
    have hcr : rowOk (cs.take (n * sz)) = true := by
      rcases hbase with ⟨rfl, _, _⟩ | ⟨b, _, hb, _, _⟩
      · simp [rowOk]
      · exact rowOk_iff.2 fun y hy => rowOk_iff.1 (hrow b hb) y (List.mem_of_mem_take hy)
    have hcl : (cs.take (n * sz)).length = n * sz := by rw [List.length_take]; omega
    have hw1 : ∀ ℓ x v, atL μ (st.putO u .dead) tm w1 ℓ x v → atL μ (st.putO u .dead) tm w ℓ x v := by
      intro ℓ x v hl
      cases ℓ with
      | t _ => exact hl
      | o v' j =>
        obtain ⟨row, cs1, b1, h1, h2, h3, h4⟩ := hl
        exact ⟨row, cs1, b1, h1, h2, h3, by rw [← cell?_eq (w := w) (w' := w1) (by rw [q2])]; exact h4⟩
    have hho1 : ∀ ℓ b', Holds μ (st.putO u .dead) tm w1 ℓ b' → Holds μ (st.putO u .dead) tm w ℓ b' := fun ℓ b' ⟨a1, a2, a3, a4, a5, hl⟩ => ⟨a1, a2, a3, a4, a5, hw1 _ _ _ hl⟩
    have hblk1 : ∀ b' e' t', OwnAt H (live st μ) F w b' e' t' → OwnAt H (live (st.putO u .dead) μ) F w1 b' e' t' := by
      rintro b' e' t' ⟨⟨vs', ty', h1, h2⟩, h3, h4, h5⟩
      exact ⟨⟨vs', ty', by rw [q2]; exact h1, h2⟩, h3, fun o ho => h4 o (hsub _ _ ho), h5⟩
    have hget : ∀ (j sz' : Nat) (ys : List V) (b' off' n' c' : Nat), (cs.take (n * sz) ++ ws)[j]? = some (.own sz' ys) → (old.toArray ++ flat.toArray ++ zs)[j]? = some (.slice (some ⟨b', off', none⟩) n' c') →
        ((cs.take (n * sz))[j]? = some (.own sz' ys) ∧ old[j]? = some (.slice (some ⟨b', off', none⟩) n' c') ∧ j < n * sz) ∨ (ws[j - n * sz]? = some (.own sz' ys) ∧ flat[j - n * sz]? = some (.slice (some ⟨b', off', none⟩) n' c') ∧ n * sz ≤ j) := by
      intro j sz' ys b' off' n' c' h1 h2
      have hj := (List.getElem?_eq_some_iff.1 h1).1
      rw [List.length_append, hcl, hwl] at hj
      by_cases hjn : j < n * sz
      · left
        rw [List.getElem?_append_left (by omega)] at h1
        rw [Array.getElem?_append_left (by simp; omega), Array.getElem?_append_left (by simp; omega)] at h2
        exact ⟨h1, by simpa using h2, hjn⟩
      · right
        rw [List.getElem?_append_right (by omega), hcl] at h1
        rw [Array.getElem?_append_left (by simp; omega), Array.getElem?_append_right (by simp; omega)] at h2
        exact ⟨h1, by simpa [o2] using h2, by omega⟩
    obtain ⟨n1, n2⟩ := hr1.newRowOb (w' := { w1 with heap := w1.heap.push (.cells (old.toArray ++ flat.toArray ++ zs) e) }) (o := .alt u) (by simp) hau' (xs := cs.take (n * sz) ++ ws) (vs := old.toArray ++ flat.toArray ++ zs) (ty := e)
      (by
        have : (old.toArray ++ flat.toArray ++ zs).toList.take (cs.take (n * sz) ++ ws).length = old ++ flat := by
          rw [List.length_append, hcl, hwl]
          simp only [Array.toList_append]
          rw [List.take_append_of_le_length (by simp; omega), List.take_of_length_le (by simp; omega)]
        rw [this]
        exact o3.append' hw)
      (rowOk_iff.2 fun y hy => by
        rcases List.mem_append.1 hy with hy | hy
        · exact rowOk_iff.1 hcr y hy
        · exact rowOk_iff.1 hwr y hy)
      (fun j j' sz1 ys1 off1 n1 c1 sz2 ys2 off2 n2 c2 b' h1 h2 h3 h4 => by
        rcases hget _ _ _ _ _ _ _ h1 h2 with ⟨a1, a2, a3⟩ | ⟨a1, a2, a3⟩ <;> rcases hget _ _ _ _ _ _ _ h3 h4 with ⟨b1, b2, b3⟩ | ⟨b1, b2, b3⟩
        · have := hr.ownInj _ _ b' ⟨_, _, _, _, _, o4 _ _ _ _ _ _ _ a1 a2⟩ ⟨_, _, _, _, _, o4 _ _ _ _ _ _ _ b1 b2⟩
          simpa using this
        · exact absurd ⟨_, _, _, _, _, o4 _ _ _ _ _ _ _ a1 a2⟩ ((hown _ _ _ _ _ _ _ b1 b2).2 (.o u j))
        · exact absurd ⟨_, _, _, _, _, o4 _ _ _ _ _ _ _ b1 b2⟩ ((hown _ _ _ _ _ _ _ a1 a2).2 (.o u j'))
        · have := inj_one hone a1 b1
          omega)
      (fun j sz' ys b' off' n' c' h1 h2 => by
        rcases hget _ _ _ _ _ _ _ h1 h2 with ⟨a1, a2, a3⟩ | ⟨a1, a2, a3⟩
        · have hl := o4 _ _ _ _ _ _ _ a1 a2
          exact ⟨hblk1 _ _ _ (hr.own _ _ _ _ _ _ _ hl), fun ℓ hl' => k2 j b' ⟨_, _, _, _, _, hl⟩ ℓ (hho1 _ _ hl')⟩
        · obtain ⟨ho, hh⟩ := hown _ _ _ _ _ _ _ a1 a2
          exact ⟨hblk1 _ _ _ ho, fun ℓ hl' => hh ℓ (k4 _ _ (hho1 _ _ hl'))⟩) rfl ⟨rfl, rfl, rfl⟩
    refine ⟨_, updO μ (.alt u) (some w1.heap.size), _, _, .slice (some ⟨w1.heap.size, 0, none⟩) (n + m) newCap, q5, .inl rfl, ?_, (Ext.world q2 q3).trans n2⟩
    exact out_rel' (x := .sl sz (.alt u) (n + m)) n1 (.two _ _ (.one _ _ (.sl _ _ w1.heap.size _ _ (by simp [updO]) q1 (by show newCap * sz ≤ (if _ then _ else _); rw [if_pos rfl, q4]; exact Nat.le_refl _)))) rfl

theorem run_firstStr (w : World) (size : Nat) (s : ByteArray) : (Builtin.firstCells size s.size (.string s)).run P w = .ok (s.data.toList.map fun b => Value.int .u8 b.toNat).toArray w := by
  simp [Builtin.firstCells]
  apply Array.ext'
  simp
/-- Cells are appended to an own row. -/
theorem good_appOwn (hr : Rel H μ F st tm w) (hρ : Env ρ tm) {o : Oper} {t t2 : TypeId} {ti : TI} (hti : TIok P t ti) (hd2 : (∃ e, P.underlying t2 = some (.slice e)) ∨ P.underlying t2 = some .string) {s' bytes : Nat} (hsz : ti.esz = some (s', bytes)) {x z : Operand}
    (ho : o.op = .call { callee := .builtin .append, args := #[x, z], argTypes := #[t, t2] }) {v0 : V} {xs ys : List V} (hev : (ev x).run st = some v0) (hm0 : fixT (some ti) v0 = .own s' xs) (hx : RepS H μ (.own s' xs) (ρ x)) {flat : List Value}
    (f1 : ∀ w' : World, w'.heap = w.heap → (Builtin.firstCells s' ys.length (ρ z)).run P w' = .ok flat.toArray w') (hlenOf : ∀ w' : World, (Builtin.lenOf (ρ z)).run P w' = .ok ys.length w') (f3 : flat.length = ys.length * s')
    (f4 : ∀ x ∈ ys, x.cells.length = s') (f5 : RepL H (ys.flatMap V.cells) flat) (hlim : (xs.length + ys.length) * bytes ≤ 140737488355328) :
    Good P H μ F tm w o.dst (st.app (giveUp x (.own s' xs) ++ out o.dst (.own s' (xs ++ ys)))) (execOp ρ o) := by
  obtain ⟨k1, k2⟩ := giveUp_rel (ti := some ti) hr hρ hev rfl
  rw [hm0] at k1 k2
  rw [St.app_append]
  generalize hst1 : st.app (giveUp x (.own s' xs)) = st1 at k1 k2
  have hcells : ∀ u ∈ flat, cellV u = true := f5.cellsV
  have hlenA : (xs ++ ys).length = xs.length + ys.length := List.length_append
  have hap := fun (c : Nat) (base : Option Addr) (hb : ρ x = .slice base xs.length c) => append_run (P := P) (w := w) hti hd2 hsz ho hb f1 hlenOf f3 hlim
  -- a new row
  have hgrow : ∀ (base : Option Addr) (c : Nat) (hbase : ρ x = .slice base xs.length c), ¬ xs.length + ys.length ≤ c → (∀ q ∈ xs, q.cells.length = s') →
      ∀ old : List Value, (∀ w' : World, w'.heap = w.heap → (Builtin.firstCells s' xs.length (.slice base xs.length c)).run P w' = .ok old.toArray w') → old.length = xs.length * s' → RepL H (xs.flatMap V.cells) old →
      Good P H μ F tm w o.dst (st1.app (out o.dst (.own s' (xs ++ ys)))) (execOp ρ o) := by
    intro base c hbase hle hxc old hold o1 o2
    obtain ⟨newCap, w1, e, zs, q1, q2, q3, q4, q5⟩ := (hap c base hbase).2 hle old hold o1
    have k1' : Rel H μ F st1 tm w1 := k1.world q2
    obtain ⟨n1, n2, n3, n4, n5⟩ := k1'.newRow (sz := s') (c := newCap) (xs := xs ++ ys) (flat := old ++ flat) (vs := old.toArray ++ flat.toArray ++ zs) (ty := e)
      (w' := { w1 with heap := w1.heap.push (.cells (old.toArray ++ flat.toArray ++ zs) e) }) rfl ⟨rfl, rfl, rfl⟩
      ⟨zs.toList, by simp⟩
      (fun q hq => by rcases List.mem_append.1 hq with hq | hq; exact hxc q hq; exact f4 q hq)
      (by rw [List.flatMap_append]; exact o2.append f5) (by omega) (by omega)
    refine ⟨_, μ, _, _, .slice (some ⟨w1.heap.size, 0, none⟩) (xs.length + ys.length) newCap, q5, .inl rfl,
      out_rel n1 (.two _ _ (.one _ _ (by rw [hlenA] at n3; exact n3))) (fun sz' xs' b off n c' q1 q2 => ?_), (Ext.world q2 q3).trans n2⟩
    simp only [V.own.injEq] at q1
    obtain ⟨rfl, rfl⟩ := q1
    simp only [Value.slice.injEq, Option.some.injEq, Addr.mk.injEq] at q2
    obtain ⟨⟨rfl, rfl, _⟩, rfl, rfl⟩ := q2
    rw [hlenA] at n4
    exact ⟨n4, n5⟩
  rcases hx.elems (sz := s') (xs := xs) rfl with ⟨ex, exs⟩ | ⟨b, off, c, ex, hcap, hrow⟩
  · subst exs
    by_cases hy0 : ys = []
    · subst hy0
      refine good_same (v := .slice none 0 0) ?_ (out_rel k1 (.two _ _ (.one _ _ (.own0 _))) (fun sz' xs' b off n c q1 q2 => by simp at q2))
      rw [(hap 0 none (by simpa using ex)).1 (by simp)]
      rfl
    · have : 0 < ys.length := List.length_pos_iff.2 hy0
      exact hgrow none 0 (by simpa using ex) (by simp; omega) (by simp) [] (fun w' _ => by simp [Builtin.firstCells]) (by simp) .nil
  · by_cases hle : xs.length + ys.length ≤ c
    · obtain ⟨o1, o2⟩ := k2 _ _ _ _ _ _ rfl ex
      obtain ⟨H2, w2, p1, p2, p3, p4, p5, p6⟩ := fillAll (P := P) flat w H (off + xs.length * s') 0 k1 (by simpa using o1) o2
        (by
          have : off + xs.length * s' + 0 + flat.length = off + (xs.length + ys.length) * s' := by rw [f3, Nat.add_mul]; omega
          rw [this]
          have := Nat.mul_le_mul_right s' hle
          omega) hcells
      have hrow2 : RepRow H2 s' b off (xs ++ ys) := (hrow.mono p5.le).append (RepRow.of_flat f4 (f5.mono p5.le) (fun j hj => by simpa using p6 j hj))
      refine ⟨H2, μ, w2, _, .slice (some ⟨b, off, none⟩) (xs.length + ys.length) c, ?_, .inl rfl, out_rel p2 (.two _ _ (.one _ _ ?_)) (fun sz' xs' b' off' n c' q1 q2 => ?_), p5⟩
      · rw [(hap _ _ ex).1 hle]
        simp only [addr_add, p1, Result.andThen_ok]
      · have := Rep1.own (μ := μ) s' (xs ++ ys) b off c hrow2 (by omega)
        rw [hlenA] at this
        exact this
      · simp only [V.own.injEq] at q1
        obtain ⟨rfl, rfl⟩ := q1
        simp only [Value.slice.injEq, Option.some.injEq, Addr.mk.injEq] at q2
        obtain ⟨⟨rfl, rfl, _⟩, rfl, rfl⟩ := q2
        refine ⟨?_, p4⟩
        have he : off + xs.length * s' + 0 + flat.length = off + (xs.length + ys.length) * s' := by rw [f3, Nat.add_mul]; omega
        rw [← he]
        exact p3
    · obtain ⟨old, q1, q2, q3, q4⟩ := hrow.flat
      refine hgrow _ _ ex hle q2 old (fun w' hw' => ?_) q1 q3
      simp only [Builtin.firstCells]
      exact loadCells_run (fun j hj => by rw [cell?_eq (w := w) (w' := w') (by rw [hw'])]; exact hr.heap _ _ _ (q4 j hj)) (by omega)
theorem good_append (hT : TabOk P T) (hr : Rel H μ F st tm w) (hρ : Env ρ tm) {o : Oper} {args : Array Operand} {at' : Array TypeId}
    (ho : o.op = .call { callee := .builtin .append, args := args, argTypes := at' }) {l : List Wr}
    (h : (opS T M o).run st = some (.ws l)) : Good P H μ F tm w o.dst (st.app l) (execOp ρ o) := by
  unfold opS at h
  rw [ho] at h
  replace h := rd_bind _ _ _ h
  obtain ⟨vs, hvs, h⟩ := h
  obtain ⟨e1, e2⟩ := evs_rep hr hρ hvs
  replace h := rd_bind _ _ _ h
  obtain ⟨t, ht, h⟩ := h
  have ht := rd_rOpt ht
  replace h := rd_bind _ _ _ h
  obtain ⟨ti, hti, h⟩ := h
  have hti := hT _ _ (rd_rOpt hti)
  replace h := rd_bind _ _ _ h
  obtain ⟨⟨sz, bytes⟩, hsz, h⟩ := h
  have hsz := rd_rOpt hsz
  dsimp only at h
  obtain ⟨_, _, _, _, _, _, _, _, _, hsz0, _⟩ := hti.esz _ _ hsz
  -- the two arguments
  have hargs : ∀ (p q : V), vs.map (fixT (some ti)) = [p, q] → at'.toList = [t, t] → ∃ (x z : Operand) (v0 v1 : V), args = #[x, z] ∧ at' = #[t, t] ∧ vs = [v0, v1] ∧ fixT (some ti) v0 = p ∧ fixT (some ti) v1 = q ∧ RepS H μ p (ρ x) ∧ RepS H μ q (ρ z) ∧ (ev x).run st = some v0 := by
    intro p q hmap hat
    have hvl : vs.length = 2 := by
      have := congrArg List.length hmap
      simpa using this
    obtain ⟨x, z, rfl⟩ := list2 (l := args) (by omega)
    obtain ⟨v0, v1, rfl⟩ : ∃ v0 v1, vs = [v0, v1] := by
      match vs, hvl with
      | [a, b], _ => exact ⟨a, b, rfl⟩
    have hat' : at' = #[t, t] := by
      apply Array.ext'
      simpa using hat
    simp at hmap
    obtain ⟨hm0, hm1⟩ := hmap
    have r0 := e2 0 (by simp) (by simp)
    have r1 := e2 1 (by simp) (by simp)
    simp at r0 r1
    exact ⟨x, z, v0, v1, rfl, hat', rfl, hm0, hm1, hm0 ▸ fixT_rep' r0.1, hm1 ▸ fixT_rep' r1.1, r0.2⟩
  split at h
  · rename_i hstr
    unfold appStr at h
    split at h
    · rename_i s xs b hmap
      split at h
      · rename_i hc
        obtain ⟨rfl, hB, hlim⟩ := hc
        have := rd_pure h
        injection this with this
        subst this
        clear h
        have hat : ∃ u tj, at' = #[t, u] ∧ T u = some tj ∧ tj.isStr = true := by
          unfold strArg at hstr
          split at hstr
          · rename_i t' u hl
            simp only [Bool.and_eq_true] at hstr
            obtain ⟨_, hs⟩ := hstr
            cases hu : T u with
            | none => rw [hu] at hs; simp at hs
            | some tj =>
              rw [hu] at hs
              have e : at' = #[t', u] := by apply Array.ext'; simpa using hl
              rw [e] at ht
              simp at ht
              subst ht
              exact ⟨u, tj, e, hu, hs⟩
          · simp at hstr
        obtain ⟨u, tj, rfl, hu, hs⟩ := hat
        have hus := (hT _ _ hu).str hs
        have hvl : vs.length = 2 := by
          have := congrArg List.length hmap
          simpa using this
        obtain ⟨x, z, rfl⟩ := list2 (l := args) (by omega)
        obtain ⟨v0, v1, rfl⟩ : ∃ v0 v1, vs = [v0, v1] := by
          match vs, hvl with
          | [a, b], _ => exact ⟨a, b, rfl⟩
        simp at hmap
        obtain ⟨hm0, hm1⟩ := hmap
        have r0 := e2 0 (by simp) (by simp)
        have r1 := e2 1 (by simp) (by simp)
        simp at r0 r1
        have hx : RepS H μ (.own s xs) (ρ x) := hm0 ▸ fixT_rep' r0.1
        have hy : RepS H μ (.str b) (ρ z) := hm1 ▸ fixT_rep' r1.1
        have hz : ρ z = .string ⟨b.toArray⟩ := hy.str
        subst hB
        refine good_appOwn (ys := byteVs b) (flat := b.map fun x => Value.int .u8 (x.toNat : Int)) hr hρ hti (.inr hus) hsz ho r0.2 hm0 hx ?_ ?_ ?_ ?_ ?_ (by simpa [byteVs] using hlim)
        · intro w' _
          rw [hz]
          simp only [byteVs, List.length_map]
          have hsz : (⟨b.toArray⟩ : ByteArray).size = b.length := by simp [ByteArray.size]
          have := run_firstStr (P := P) w' 1 ⟨b.toArray⟩
          rw [hsz] at this
          simpa using this
        · intro w'
          rw [hz]
          simp [Builtin.lenOf, byteVs, ByteArray.size]
        · simp [byteVs]
        · intro q hq
          simp only [byteVs, List.mem_map] at hq
          obtain ⟨c, _, rfl⟩ := hq
          rfl
        · have hfl : (byteVs b).flatMap V.cells = byteVs b := by
            unfold byteVs
            rw [List.flatMap_def, List.map_map]
            have : (V.cells ∘ fun x : UInt8 => V.int IntKind.u8 (x.toNat : Int)) = fun x => [V.int IntKind.u8 (x.toNat : Int)] := rfl
            rw [this]
            clear hlim hm1 hy hz
            induction b with
            | nil => rfl
            | cons c r ih => simpa using ih
          rw [hfl]
          refine RepL.of_get (by simp [byteVs]) fun j hj hj' => ?_
          simp only [byteVs, List.getElem_map]
          exact ⟨rfl, .int _ _⟩
      · simp [Rd.run] at h
    · simp [Rd.run] at h
  split at h
  · rename_i s xs y hmap
    replace h := rd_bind _ _ _ h
    obtain ⟨⟨s', ys⟩, hys, h⟩ := h
    have hys := rd_rOpt hys
    dsimp only at h
    split at h
    · rename_i hc
      obtain ⟨rfl, rfl, hlim, hat⟩ := hc
      have := rd_pure h
      injection this with this
      subst this
      clear h
      obtain ⟨x, z, v0, v1, rfl, rfl, rfl, hm0, hm1, hx, hy, hev⟩ := hargs _ _ hmap hat
      obtain ⟨flat, f1, f2, f3, f4, f5⟩ := first_run (P := P) hr hy hys
      have hlenOf : ∀ w' : World, (Builtin.lenOf (ρ z)).run P w' = .ok ys.length w' := by
        intro w'
        rcases hy.elems hys with ⟨e, e'⟩ | ⟨b, off, c, e, _⟩
        · rw [e, e']; simp [Builtin.lenOf]
        · rw [e]; simp [Builtin.lenOf]
      obtain ⟨e2, _, _, hu2, _⟩ := hti.esz _ _ hsz
      exact good_appOwn hr hρ hti (.inl ⟨e2, hu2⟩) hsz ho hev hm0 hx (fun w' hw' => f1 w' (fun b k u hu => by rw [cell?_eq (w := w) (w' := w') (by rw [hw'])]; exact hr.heap _ _ _ hu)) hlenOf f3 f4 f5 hlim
    · simp [Rd.run] at h
  · rename_i s u n y hmap
    simp only [Rd.run] at h
    split at h
    · rename_i cs hob
      replace h := rd_bind _ _ _ h
      obtain ⟨_, hf, h⟩ := h
      have hau := fresh_run hf (.alt u) (by simp)
      have hbase : ∀ x : Operand, RepS H μ (.sl s u n) (ρ x) → ∃ base c, ρ x = .slice base n c ∧ ((n = 0 ∧ base = none ∧ c = 0) ∨ ∃ b, base = some ⟨b, 0, none⟩ ∧ μ u = some b ∧ n ≤ c ∧ c * s ≤ H.size b) := by
        intro x hx
        rcases hx.sl with ⟨h1, h2⟩ | ⟨b, c, h1, h2, h3, h4⟩
        · exact ⟨none, 0, by rw [h2, h1], .inl ⟨h1, rfl, rfl⟩⟩
        · exact ⟨_, c, h1, .inr ⟨b, rfl, h2, h3, h4⟩⟩
      split at h
      · rename_i s' u' m
        simp only [Rd.run] at h
        split at h
        · rename_i ds hob'
          split at h
          · rename_i hc
            obtain ⟨rfl, rfl, hn, hm, hlim, hat, hne, hone⟩ := hc
            simp only [Rd.run] at h
            injection h with h
            injection h with h
            subst h
            obtain ⟨x, z, v0, v1, rfl, rfl, rfl, hm0, hm1, hx, hy, hev⟩ := hargs _ _ hmap hat
            obtain ⟨base, c, hb1, hb2⟩ := hbase x hx
            -- the second row's cells
            have hys : ∃ flat : List Value, (∀ w' : World, w'.heap = w.heap → (Builtin.firstCells s' m (ρ z)).run P w' = .ok flat.toArray w') ∧ (∀ w' : World, (Builtin.lenOf (ρ z)).run P w' = .ok m w') ∧ flat.length = m * s' ∧ RepC H μ (ds.take (m * s')) flat ∧ rowOk (ds.take (m * s')) = true ∧
                ∀ j sz' xs' b' off' n' c', (ds.take (m * s'))[j]? = some (.own sz' xs') → flat[j]? = some (.slice (some ⟨b', off', none⟩) n' c') → atL μ st tm w (.o u' j) (.own sz' xs') (.slice (some ⟨b', off', none⟩) n' c') := by
              rcases hy.sl with ⟨h1, h2⟩ | ⟨b, c', h1, h2, h3, h4⟩
              · subst h1
                refine ⟨[], fun w' _ => by rw [h2]; simp [Builtin.firstCells], fun w' => by rw [h2]; simp [Builtin.lenOf], by simp, by simpa using RepC.nil, by simp [rowOk], by simp⟩
              · obtain ⟨vs', ty, hblk, hrep, hro⟩ := hr.cellsAt hob' h2
                have hlenr := hrep.length
                rw [List.length_take] at hlenr
                have hlen2 : ds.length ≤ vs'.size := by simp at hlenr; omega
                have hol : (vs'.toList.take (m * s')).length = m * s' := by rw [List.length_take]; simp; omega
                refine ⟨vs'.toList.take (m * s'), fun w' hw' => ?_, fun w' => by rw [h1]; simp [Builtin.lenOf], hol, ?_, rowOk_iff.2 fun y hy => rowOk_iff.1 (hro rfl) y (List.mem_of_mem_take hy), fun j sz' xs' b' off' n' c' g1 g2 => ?_⟩
                · rw [h1]
                  simp only [Builtin.firstCells]
                  refine loadCells_run (fun j hj => ?_) hol.symm
                  rw [Nat.zero_add, cell?_of (by rw [hw']; exact hblk)]
                  rw [hol] at hj
                  simp only [List.getElem_take, Array.getElem_toList]
                  exact Array.getElem?_eq_getElem (by omega)
                · have := hrep.take' (m * s')
                  rw [List.take_take, Nat.min_eq_left hm] at this
                  exact this
                · have h5 : ds[j]? = some (.own sz' xs') := by
                    rw [List.getElem?_take] at g1
                    split at g1
                    · exact g1
                    · simp at g1
                  have h6 : vs'[j]? = some (.slice (some ⟨b', off', none⟩) n' c') := by
                    rw [List.getElem?_take] at g2
                    split at g2
                    · simpa using g2
                    · simp at g2
                  exact ⟨true, ds, b, hob', h2, h5, by rw [cell?_of hblk]; exact h6⟩
            obtain ⟨flat, f1, f2, f3, f4, f5, f6⟩ := hys
            obtain ⟨hA, hB⟩ := append_run (P := P) (w := w) hti (.inl ⟨_, (hti.esz _ _ hsz).choose_spec.choose_spec.choose_spec.1⟩) hsz ho hb1 f1 f2 f3 hlim
            by_cases hno : noOwn (ds.take (m * s')) = true
            · rw [if_pos hno, List.nil_append, St.app_append]
              have := appendSl (dst := o.dst) hr hob hau hn hsz0 hb2 f4 f5 f3 (.inl hno) (fun j sz' ys b' o' n' c' g1 _ => by
                have := List.all_eq_true.1 hno _ (List.mem_of_getElem? g1)
                simp [V.isOwn] at this) hA hB
              simpa [St.app] using this
            · rw [if_neg hno, St.app_append, St.app_append]
              have hone' : (ds.take (m * s')).length = 1 := by
                rcases hone with h | h
                · exact absurd h hno
                · rw [List.length_take]; omega
              obtain ⟨d1, d2, d3, d4⟩ := hr.kill (o := u') (by rw [hob']; simp)
              have hne' : u' ≠ .alt u := by intro e; rw [← e, hob'] at hau; simp at hau
              have hg := appendSl (dst := o.dst) d1 (u := u) (by rw [St.ob_putO, if_neg (Ne.symm hne)]; exact hob) (by rw [St.ob_putO, if_neg hne']; exact hau) hn hsz0 hb2 f4 f5 f3 (.inr hone') (fun j sz' ys b' o' n' c' g1 g2 => by
                have hl := f6 _ _ _ _ _ _ _ g1 g2
                refine ⟨(hr.own _ _ _ _ _ _ _ hl).sub fun v b hv => ?_, d2 j b' ⟨_, _, _, _, _, hl⟩⟩
                rw [live_kill] at hv
                split at hv
                · simp at hv
                · exact hv) hA hB
              simpa [St.app] using hg
          · simp [Rd.run] at h
        · simp [Rd.run] at h
      · replace h := rd_bind _ _ _ h
        obtain ⟨⟨s', ys⟩, hys, h⟩ := h
        have hys := rd_rOpt hys
        dsimp only at h
        split at h
        · rename_i hc
          obtain ⟨rfl, rfl, hn, hlim, hat⟩ := hc
          have := rd_pure h
          injection this with this
          subst this
          obtain ⟨x, z, v0, v1, rfl, rfl, rfl, hm0, hm1, hx, hy, hev⟩ := hargs _ _ hmap hat
          obtain ⟨base, c, hb1, hb2⟩ := hbase x hx
          obtain ⟨flat, f1, f2, f3, f4, f5⟩ := first_run (P := P) hr hy hys
          have hlenOf : ∀ w' : World, (Builtin.lenOf (ρ z)).run P w' = .ok ys.length w' := by
            intro w'
            rcases hy.elems hys with ⟨e, e'⟩ | ⟨b, off, c, e, _⟩
            · rw [e, e']; simp [Builtin.lenOf]
            · rw [e]; simp [Builtin.lenOf]
          obtain ⟨hA, hB⟩ := append_run (P := P) (w := w) hti (.inl ⟨_, (hti.esz _ _ hsz).choose_spec.choose_spec.choose_spec.1⟩) hsz ho hb1 (fun w' hw' => f1 w' (fun b k u hu => by rw [cell?_eq (w := w) (w' := w') (by rw [hw'])]; exact hr.heap _ _ _ hu)) hlenOf f3 hlim
          rw [St.app_append]
          have := appendSl (dst := o.dst) hr hob hau hn hsz0 hb2 f5.toC (rowOk_iff.2 f5.pure) f3 (.inl f5.noOwn) (fun j sz' ys b' o' n' c' g1 _ => by
            have := List.all_eq_true.1 f5.noOwn _ (List.mem_of_getElem? g1)
            simp [V.isOwn] at this) hA hB
          simpa [St.app] using this
        · simp [Rd.run] at h
    · simp [Rd.run] at h
  · simp [Rd.run] at h
end
end Go.Ax
