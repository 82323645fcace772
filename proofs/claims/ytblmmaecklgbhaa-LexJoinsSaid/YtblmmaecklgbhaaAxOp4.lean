/- A part of the proof of a law of this seat: no condition. -/
import Derived.Test.YtblmmaecklgbhaaAxOp3
set_option linter.unusedVariables false
set_option linter.unusedSimpArgs false
namespace Go.Ax
attribute [local simp] look_cons
section
variable {P : Program} {T : Nat → Option TI} {M : Mode} {H H' : Heap} {μ μ' : Oid → Option Nat} {F : Fr} {st st' : St} {tm tm' : Nat → Value} {w w' : World} {ρ : Operand → Value}

theorem addr_add (b off n : Nat) : (Addr.add ⟨b, off, none⟩ n) = ⟨b, off + n, none⟩ := by
  simp only [Addr.add]
  split
  · rename_i h0; simp [h0]
  · rfl
theorem cellV_one {u : Value} (h : cellV u = true) : u.oneCell' = true := by cases u <;> simp_all [cellV, Value.oneCell']
theorem loadFrom_run {b off : Nat} {us : List Value} (h : ∀ j (hj : j < us.length), w.cell? ⟨b, off + j, none⟩ = some us[j]) :
    ∀ (n i : Nat) (acc : Array Value), i + n = us.length → acc.toList = us.take i → (loadCellsFrom ⟨b, off, none⟩ i n acc).run P w = .ok us.toArray w := by
  intro n
  induction n with
  | zero =>
    intro i acc hi ha
    have : acc = us.toArray := by
      apply Array.ext'
      rw [ha, List.take_of_length_le (by omega)]
    simp [loadCellsFrom, this]
  | succ n ih =>
    intro i acc hi ha
    simp only [loadCellsFrom, Sem.run_bind, addr_add, run_load, h i (by omega), Result.andThen_ok]
    exact ih (i + 1) _ (by omega) (by rw [Array.toList_push, ha, List.take_succ_eq_append_getElem (by omega)])
theorem loadCells_run {b off : Nat} {us : List Value} (h : ∀ j (hj : j < us.length), w.cell? ⟨b, off + j, none⟩ = some us[j]) {n : Nat} (hn : n = us.length) :
    (loadCells ⟨b, off, none⟩ n).run P w = .ok us.toArray w := by
  subst hn
  exact loadFrom_run h _ 0 #[] (by omega) (by simp)

theorem RepC.sub {cs vs} (h : RepC H μ cs vs) (off n : Nat) (hn : off + n ≤ cs.length) : RepC H μ ((cs.drop off).take n) ((vs.drop off).take n) := by
  have hl := h.length
  refine RepC.of_get (by simp; omega) fun j hj hj' => ?_
  simp only [List.getElem_take, List.getElem_drop]
  exact h.get _ _ _

theorem load_run {t : TypeId} {ti : TI} (hti : TIok P t ti) {cs : List V} {vs : List Value} {b o0 off : Nat} (hc : RepC H μ cs vs)
    (hm : ∀ j (hj : j < vs.length), w.cell? ⟨b, o0 + j, none⟩ = some vs[j]) {x : V} (hx : getS ti cs off = some x) :
    ∃ u, (Instr.loadAt t (.pointer (some ⟨b, o0 + off, none⟩))).run P w = .ok u w ∧ Rep2 H μ x u ∧
      (x.isOwn = true → cs[off]? = some x ∧ w.cell? ⟨b, o0 + off, none⟩ = some u) := by
  have hl := hc.length
  unfold getS at hx
  obtain ⟨i, z, g1, g2, g3, g4, g5, g6⟩ := hti.info
  split at hx
  · rename_i ha
    split at hx
    · rename_i hle
      injection hx with hx
      subst hx
      refine ⟨.agg ((vs.drop off).take ti.size).toArray, ?_, .agg _ _ (hc.sub off ti.size hle), fun h => by simp [V.isOwn] at h⟩
      simp only [Instr.loadAt, Instr.sureAddr, Sem.run_bind, Sem.run_pure, Result.andThen_ok, loadVar, runAgg hti, ha, if_true, runSize g1, g2]
      rw [loadCells_run (us := (vs.drop off).take ti.size) (fun j hj => ?_) (by simp; omega)]
      · rfl
      · simp only [List.getElem_take, List.getElem_drop]
        rw [Nat.add_assoc]
        exact hm _ _
    · simp at hx
  · rename_i ha
    obtain ⟨hlt, hxe⟩ := List.getElem?_eq_some_iff.1 hx
    have hg := hc.get off hlt (hl ▸ hlt)
    rw [hxe] at hg
    have hcell := hm off (hl ▸ hlt)
    refine ⟨vs[off]'(hl ▸ hlt), ?_, .one _ _ hg.2.2, fun _ => ⟨hx, hcell⟩⟩
    simp only [Instr.loadAt, Instr.sureAddr, Sem.run_bind, Sem.run_pure, Result.andThen_ok, loadVar, runAgg hti, ha, if_false, run_load, hcell, Bool.false_eq_true]

theorem good_load (hT : TabOk P T) (hr : Rel H μ F st tm w) (hρ : Env ρ tm) {o : Oper} {t : TypeId} {a : Operand} (ho : o.op = .load t a) {l : List Wr}
    (h : (opS T M o).run st = some (.ws l)) : Good P H μ F tm w o.dst (st.app l) (execOp ρ o) := by
  unfold opS at h
  rw [ho] at h
  replace h := rd_bind _ _ _ h
  obtain ⟨ti, hti, h⟩ := h
  have hti := hT _ _ (rd_rOpt hti)
  replace h := rd_bind _ _ _ h
  obtain ⟨va, ha, h⟩ := h
  have hra := ev_rep hr hρ ha
  split at h
  · rename_i cs off
    obtain ⟨vs, b, o0, e, h1, h2⟩ := hra.eptr
    replace h := rd_bind _ _ _ h
    obtain ⟨x, hx, h⟩ := h
    have := rd_pure h
    injection this with this
    subst this
    obtain ⟨u, g1, g2, _⟩ := load_run (w := w) (P := P) (μ := μ) hti h1.toC (fun j hj => hr.heap _ _ _ (h2 j hj)) (rd_rOpt hx)
    exact good_val hr (by simp only [execOp, ho, e, Sem.run_bind, g1]; rfl) (RepS.two _ _ g2).weak (weak_not_own _)
  · rename_i u off
    obtain ⟨b, hb, e⟩ := hra.ref
    simp only [Rd.run] at h
    split at h
    · rename_i row cs hob
      replace h := rd_bind _ _ _ h
      obtain ⟨x, hx, h⟩ := h
      obtain ⟨vs, ty, hblk, hrep, _⟩ := hr.cellsAt hob hb
      obtain ⟨v, g1, g2, g3⟩ := load_run (w := w) (P := P) (o0 := 0) hti hrep (fun j hj => by rw [cell?_of hblk, Nat.zero_add]; simp at hj; simp [List.getElem_take]) (rd_rOpt hx)
      rw [Nat.zero_add] at g1 g3
      have hs : (execOp ρ o).run P w = .ok (.value v) w := by simp only [execOp, ho, e, Sem.run_bind, g1]; rfl
      split at h
      · rename_i hst
        have := rd_pure h
        injection this with this
        subst this
        simp at hst
        obtain ⟨g4, g5⟩ := g3 hst.2
        obtain ⟨h1, h2⟩ := hr.weakO hob g4
        refine good_same hs ?_
        simp only [St.app]
        refine out_rel h1 (.two _ _ g2) fun sz xs bb off' n c e1 e2 => ?_
        have hl : atL μ st tm w (.o u off) (.own sz xs) (.slice (some ⟨bb, off', none⟩) n c) := ⟨row, cs, b, hob, hb, e1 ▸ g4, e2 ▸ g5⟩
        exact ⟨by rw [show live (st.putO u (.cells row (cs.set off x.weak))) μ = live st μ from funext fun _ => live_set rfl hob rfl]; exact hr.own _ _ _ _ _ _ _ hl, h2 bb ⟨_, _, _, _, _, hl⟩⟩
      · have := rd_pure h
        injection this with this
        subst this
        exact good_val hr hs (RepS.two _ _ g2).weak (weak_not_own _)
    · simp [Rd.run] at h
  · simp [Rd.run] at h

/-- Cells of an object are written one behind the other; a row only where it is one cell alone. -/
theorem storeCells_run {o : Oid} {b : Nat} {row : Bool} (hb : μ o = some b) : ∀ (xs : List V) (us : List Value) (st : St) (w : World) (cs : List V) (off i : Nat), Rel H μ F st tm w → st.ob o = some (.cells row cs) →
    RepC H μ xs us → off + i + xs.length ≤ cs.length → (row = true → rowOk xs = true) →
    (∀ sz ys b' o' n c, xs = [.own sz ys] → us = [.slice (some ⟨b', o', none⟩) n c] → OwnAt H (live st μ) F w b' (o' + n * sz) (o' + c * sz) ∧ ∀ ℓ, ¬ Holds μ st tm w ℓ b') →
    (∀ x ∈ xs, x.isOwn = true → xs.length = 1) →
    ∃ w', (storeCells ⟨b, off, none⟩ us i).run P w = .ok () w' ∧ Rel H μ F (st.putO o (.cells row (setAll cs (off + i) xs))) tm w' ∧ Ext F H w H w' := by
  intro xs
  induction xs with
  | nil =>
    intro us st w cs off i hr ho hc hle _ _ _
    cases hc
    refine ⟨w, by simp [storeCells], hr.congr (fun t => rfl) (fun u => ?_), Ext.refl _ _ _⟩
    simp only [St.ob_putO, setAll]
    split
    · rename_i h; subst h; exact ho.symm
    · rfl
  | cons x xs ih =>
    intro us st w cs off i hr ho hc hle hrow hown h1
    cases hc with
    | cons _ u _ us hx hv hrep hs =>
      have hj : off + i < cs.length := by simp at hle; omega
      have hset := hr.setCell hb ho (.inl ⟨hj, rfl⟩) hx hv hrep (fun h => rowOk_iff.1 (hrow h) x (by simp)) (fun sz ys b' o' n c e1 e2 => by
        have hone := h1 x (by simp) (by rw [e1]; rfl)
        have : xs = [] := by cases xs <;> simp at hone ⊢
        subst this
        cases hs
        exact hown sz ys b' o' n c (by rw [e1]) (by rw [e2]))
      have hno2 : ∀ y ∈ xs, y.isOwn = true → False := by
        intro y hy hyo
        have := h1 y (by simp [hy]) hyo
        cases xs with
        | nil => simp at hy
        | cons => simp at this
      obtain ⟨w2, g1, g2, g3⟩ := ih us (st.putO o (.cells row (cs.set (off + i) x))) (w.setCell ⟨b, off + i, none⟩ u) (cs.set (off + i) x) off (i + 1) hset
        (by simp [St.ob_putO]) hs (by simp at hle ⊢; omega) (fun h => rowOk_iff.2 fun y hy => rowOk_iff.1 (hrow h) y (by simp [hy]))
        (fun sz ys b' o' n c e1 _ => (hno2 (.own sz ys) (by rw [e1]; simp) rfl).elim) (fun y hy hyo => (hno2 y hy hyo).elim)
      refine ⟨w2, ?_, g2.congr (fun t => rfl) (fun u' => ?_), (Ext.setCell hr (hr.cellsLive ho hb) (off + i) u).trans g3⟩
      · obtain ⟨vs, ty, hblk, hrep', _⟩ := hr.cellsAt ho hb
        have hlen := hrep'.length
        have hcell : ∃ q, w.cell? ⟨b, off + i, none⟩ = some q := by
          rw [cell?_of hblk]
          rw [List.length_take] at hlen
          have h2 : off + i < vs.size := by simp at hlen; omega
          exact ⟨_, Array.getElem?_eq_getElem h2⟩
        obtain ⟨q, hq⟩ := hcell
        have hfr : w.frozen? ⟨b, off + i, none⟩ = false := by simp [World.frozen?, hblk]
        have hone : u.oneCell' = true := cellV_one hv
        rw [storeCells]
        simp only [Sem.run_bind, addr_add, run_store _ _ _ _ _ hone, hq, hfr, Bool.false_eq_true, if_false, Result.andThen_ok]
        exact g1
      · simp only [St.ob_putO, setAll, Nat.add_assoc]
        split <;> rfl
theorem scells_own {x : V} (y : V) (hy : y ∈ x.scells) (ho : y.isOwn = true) : x.scells.length = 1 := by
  cases x with
  | agg cs =>
    simp only [V.scells, List.mem_map] at hy
    obtain ⟨z, _, rfl⟩ := hy
    cases z <;> simp [V.weak1, V.isOwn] at ho
  | _ => rfl
theorem Rep1.isCellV {x : V} {v : Value} (h : Rep1 H μ x v) (hx : x.isCell = true) (ha : x ≠ .any) : cellV v = true := by
  cases h with
  | any => exact absurd rfl ha
  | data _ _ h => exact h.cell hx
  | _ => rfl
theorem RepS.scells {x : V} {v : Value} (h : RepS H μ x v) (hx : x.storable = true) : RepC H μ x.scells v.cells.toList := by
  cases h with
  | tup => simp [V.storable] at hx
  | two _ _ h =>
    cases h with
    | agg cs vs h => simpa [V.scells, Value.cells] using h.weak
    | clo f a b us vs h h' => simp [V.storable] at hx
    | one _ _ h =>
      by_cases hc : x.isCell = true
      · have ha : x ≠ .any := by rintro rfl; simp [V.storable] at hx
        have hv := h.isCellV hc ha
        have e1 : x.scells = [x] := by
          clear h ha hx
          cases x <;> first | rfl | simp [V.isCell] at hc
        have e2 : v.cells.toList = [v] := by cases v <;> simp_all [Value.cells, cellV]
        rw [e1, e2]
        exact .cons _ _ _ _ hc hv h .nil
      · cases x <;> simp [V.isCell, V.storable] at hc hx
        cases h with
        | data _ _ h => cases h with | agg cs vs h => simpa [V.scells, Value.cells] using h.toC.weak

theorem scells_one {x : V} {sz : Nat} {ys : List V} (h : x.scells = [.own sz ys]) : x = .own sz ys := by
  cases x with
  | agg cs =>
    simp only [V.scells] at h
    match cs, h with
    | [], h => simp at h
    | c :: _ :: _, h => simp at h
    | [c], h => cases c <;> simp [V.weak1] at h
  | own => simpa [V.scells] using h
  | _ => simp [V.scells] at h
theorem cells_one {sz : Nat} {ys : List V} {v : Value} {b o n c : Nat} (hx : RepS H μ (.own sz ys) v) (h : v.cells.toList = [.slice (some ⟨b, o, none⟩) n c]) :
    v = .slice (some ⟨b, o, none⟩) n c := by
  cases hx with
  | two _ _ h1 => cases h1 with
    | one _ _ h1 => cases h1 with
      | own0 => simp [Value.cells] at h
      | own => simpa [Value.cells] using h
      | data _ _ h1 => cases h1

theorem nilSl_some {row : Bool} {cs : List V} {off : Nat} {v : V} {sz : Nat} {q : Oid} (h : nilSl row cs off v = some (sz, q)) : v = .nils ∧ row = false ∧ ∃ n, cs[off]? = some (.sl sz q n) := by
  unfold nilSl at h
  split at h
  · split at h
    · rename_i e
      simp at h
      obtain ⟨rfl, rfl⟩ := h
      exact ⟨rfl, rfl, _, e⟩
    · simp at h
  · simp at h
theorem good_store (hT : TabOk P T) (hr : Rel H μ F st tm w) (hρ : Env ρ tm) {o : Oper} {t : TypeId} {a x : Operand} (ho : o.op = .store t a x) {l : List Wr}
    (h : (opS T M o).run st = some (.ws l)) : Good P H μ F tm w o.dst (st.app l) (execOp ρ o) := by
  unfold opS at h
  rw [ho] at h
  replace h := rd_bind _ _ _ h
  obtain ⟨ti, hti, h⟩ := h
  have hti := hT _ _ (rd_rOpt hti)
  replace h := rd_bind _ _ _ h
  obtain ⟨va, ha, h⟩ := h
  have hra := ev_rep hr hρ ha
  replace h := rd_bind _ _ _ h
  obtain ⟨v, hv, h⟩ := h
  have hrv := ev_rep hr hρ hv
  split at h
  · rename_i u off
    obtain ⟨b, hb, e⟩ := hra.ref
    simp only [Rd.run] at h
    split at h
    · rename_i row cs hob
      obtain ⟨vs, ty, hblk, hrep, _⟩ := hr.cellsAt hob hb
      obtain ⟨i, z, g1, g2, g3, g4, g5, g6⟩ := hti.info
      split at h
      · rename_i sz q hns
        obtain ⟨rfl, rfl, n, hcell⟩ := nilSl_some hns
        replace h := rd_bind _ _ _ h
        obtain ⟨_, hf, h⟩ := h
        have hfr := fresh_run hf (.alt q) (by simp)
        simp only [Rd.run] at h
        split at h
        · rename_i yq hq
          split at h
          · rename_i hc
            obtain ⟨c1, c2, c3⟩ := hc
            have := rd_pure h
            injection this with this
            subst this
            have hdst : o.dst = none := by simpa using c2
            obtain ⟨k1, _, _, _⟩ := hr.kill (o := q) (by rw [hq]; simp)
            have hane : q ≠ .alt q := by
              intro e'
              rw [← e', hq] at hfr
              simp at hfr
            have hau : (Oid.alt q) ≠ u := fun e' => by rw [e', hob] at hfr; simp at hfr
            have k2 := k1.addNil (o := .alt q) (by simp) (by rw [St.ob_putO, if_neg hane]; exact hfr)
            have hob2 : ((st.putO q .dead).putO (.alt q) (.cells true [])).ob u = some (.cells false cs) := by
              rw [St.ob_putO, if_neg hau, St.ob_putO, if_neg (Ne.symm c3)]
              exact hob
            obtain ⟨hlt, hge⟩ := List.getElem?_eq_some_iff.1 hcell
            have hn := hrv.nils
            have k3 := k2.setCell hb hob2 (.inl ⟨hlt, rfl⟩) (x := .sl sz (.alt q) 0) (v := .slice none 0 0) rfl rfl (.sl0 _ _) (by simp) (by simp)
            have hl2 := hr.cellsLive hob hb
            refine ⟨H, μ, _, .skip, undef, ?_, .inr ⟨rfl, rfl⟩, ?_, Ext.setCell hr hl2 off (.slice none 0 0)⟩
            · have hlen := hrep.length
              rw [List.length_take] at hlen
              have hcl : ∃ q, w.cell? ⟨b, off, none⟩ = some q := by
                rw [cell?_of hblk]
                have h2 : off < vs.size := by simp at hlen; omega
                exact ⟨_, Array.getElem?_eq_getElem h2⟩
              obtain ⟨q', hq'⟩ := hcl
              have hfz : w.frozen? ⟨b, off, none⟩ = false := by simp [World.frozen?, hblk]
              simp only [execOp, ho, e, Instr.storeAt, Instr.sureAddr, Sem.run_bind, Sem.run_pure, Result.andThen_ok, storeVar, runSize g1, g2, c1, hn, Value.cells, ne_eq, List.size_toArray, List.length_cons, List.length_nil, Nat.zero_add,
                not_true_eq_false, if_false, storeCells, addr_add, Nat.add_zero, run_store _ _ _ _ _ (show (Value.slice none 0 0).oneCell' = true from rfl), hq', hfz, Bool.false_eq_true]
            · rw [hdst]
              exact k3
          · simp [Rd.run] at h
        · simp [Rd.run] at h
      · split at h
        · rename_i hc
          obtain ⟨c1, c2, c3, c4, c5⟩ := hc
          simp only [Rd.run] at h
          injection h with h
          injection h with h
          subst h
          obtain ⟨h1, h2⟩ := giveUp_rel (ti := some ti) hr hρ hv rfl
          have hob' : (st.app (giveUp x (fixT (some ti) v))).ob u = some (.cells row cs) := by
            unfold giveUp
            split
            · split
              · simpa [St.app, St.ob_put] using hob
              · exact hob
            · exact hob
          have hsc := (fixT_rep' (ti := some ti) hrv).scells c4
          obtain ⟨w2, k1, k2, k3⟩ := storeCells_run (P := P) hb _ _ _ w cs off 0 h1 hob' hsc (by omega) (fun hr' => by
              rcases c5 with c5 | c5
              · rw [c5] at hr'; simp at hr'
              · exact c5)
            (fun sz ys b' o' n c e1 e2 => by
              have hx := scells_one e1
              have hu := cells_one (hx ▸ fixT_rep' (ti := some ti) hrv) e2
              exact h2 sz ys b' o' n c hx hu)
            (fun y hy hyo => scells_own y hy hyo)
          have hdst : o.dst = none := by simpa using c3
          refine ⟨H, μ, w2, .skip, undef, ?_, .inr ⟨rfl, rfl⟩, ?_, k3⟩
          · have hsz : (ρ x).cells.size = ti.size := by
              have := hsc.length
              simp at this
              omega
            simp only [execOp, ho, e, Instr.storeAt, Instr.sureAddr, Sem.run_bind, Sem.run_pure, Result.andThen_ok, storeVar, runSize g1, g2, hsz, ne_eq, not_true_eq_false, if_false, k1]
          · rw [hdst, St.app_append]
            simpa [after, St.app] using k2
        · simp [Rd.run] at h
    · simp [Rd.run] at h
  · simp [Rd.run] at h

theorem Rep1.subR {x : V} {v : Value} (h : Rep1 H μ x v) (d : Nat) (hf : ∀ i ∈ subs1 x, μ (.hole i) = none) : Rep1 H μ (Go.Ax.subR d x) v := by
  cases h with
  | sl0 sz o => cases o <;> exact .sl0 _ _
  | sl sz o b n c h hc hs =>
    cases o with
    | hole i => rw [hf i (by simp [subs1])] at h; simp at h
    | _ => exact .sl _ _ _ _ _ h hc hs
  | any => exact .any _
  | nils => exact .nils
  | data _ _ h => cases h <;> exact .data _ _ (by constructor <;> assumption)
  | own0 => exact .own0 _
  | own sz xs b off c hr hc => exact .own sz xs b off c hr hc
  | ref o b off h => exact .ref o b off h
  | eptr cs vs b o0 off h hm => exact .eptr cs vs b o0 off h hm
  | mp o b h => exact .mp o b h
theorem isCell_subR {x : V} (d : Nat) (h : x.isCell = true) : (Go.Ax.subR d x).isCell = true := by
  unfold Go.Ax.subR
  split
  · rfl
  · exact h
theorem RepC.subR {cs vs} (h : RepC H μ cs vs) (d : Nat) (hf : ∀ i ∈ subsOf cs, μ (.hole i) = none) : RepC H μ (cs.map (Go.Ax.subR d)) vs := by
  induction cs generalizing vs with
  | nil => cases h; exact .nil
  | cons x xs ih =>
    cases h with
    | cons _ v _ vs h1 hv h hs =>
      exact .cons _ _ _ _ (isCell_subR d h1) hv (h.subR d fun i hi => hf i (by simp [subsOf, hi])) (ih hs fun i hi => hf i (by simp only [subsOf, List.flatMap_cons, List.mem_append]; exact .inr hi))
theorem subR_own {d : Nat} {x : V} {sz : Nat} {xs : List V} : Go.Ax.subR d x = .own sz xs ↔ x = .own sz xs := by
  unfold Go.Ax.subR
  split <;> simp
/-- A new object. -/
theorem Rel.newOb (h : Rel H μ F st tm w) {d : Nat} {z : List V} {vs : Array Value} {ty : TypeId} (hf : ∀ o ∈ newNs d z, st.ob o = none)
    (hr : RepC H μ z vs.toList) (hno : ∀ (j : Nat) x v, z[j]? = some x → vs.toList[j]? = some v → x.isOwn = false ∨ ∀ a n c, v ≠ .slice (some a) n c)
    (hh : w'.heap = w.heap.push (.cells vs ty)) :
    Rel H (updO μ (.loc d) (some w.heap.size)) F (st.app (newObW d z)) (upd tm d (.pointer (some ⟨w.heap.size, 0, none⟩))) w' := by
  have ho : st.ob (.loc d) = none := hf _ (by simp [newNs])
  have hμ := h.dom _ ho
  have hle : LeM μ (updO μ (.loc d) (some w.heap.size)) := by
    intro u b hb
    unfold updO
    by_cases e : u = .loc d
    · subst e; rw [hμ] at hb; simp at hb
    · simpa [e] using hb
  have hHn : ∀ k, H w.heap.size k = none := by
    intro k
    cases hk : H w.heap.size k with
    | none => rfl
    | some v => have := cell?_lt (h.heap _ _ _ hk); simp at this
  have hHs : H.size w.heap.size = 0 := by
    have := h.size w.heap.size
    have h2 : ¬ 0 < blkSize w w.heap.size := fun hp => by have := blkSize_lt hp; omega
    omega
  have h0 : Rel H μ F st tm w' := h.push _ hh (Le.refl _) (fun _ _ _ => rfl) (fun k v hv => by rw [hHn] at hv; simp at hv) (fun _ _ => rfl) (by omega)
  have hblk : w'.heap[w.heap.size]? = some (.cells vs ty) := by rw [hh]; simp
  have hob : ∀ u b, live st μ u = some b → b ≠ w.heap.size := fun u b hb => Nat.ne_of_lt (h.obLt hb).choose_spec.2.2.2
  have hrz : RepC H μ (z.map (Go.Ax.subR d)) vs.toList := hr.subR d fun i hi => h.dom _ (hf _ (by simp only [newNs, List.mem_append, List.mem_map]; exact .inr ⟨i, hi, rfl⟩))
  have hlen := hrz.length
  have hownno : ∀ (j : Nat) sz xs b' off n c, (z.map (Go.Ax.subR d))[j]? = some (.own sz xs) → w'.cell? ⟨w.heap.size, j, none⟩ = some (.slice (some ⟨b', off, none⟩) n c) → False := by
    intro j sz xs b' off n c h1 h2
    rw [List.getElem?_map] at h1
    cases hz : z[j]? with
    | none => rw [hz] at h1; simp at h1
    | some y =>
      rw [hz] at h1
      simp only [Option.map_some, Option.some.injEq, subR_own] at h1
      rw [cell?_of hblk, ← Array.getElem?_toList] at h2
      rcases hno j y _ hz h2 with h3 | h3
      · rw [h1] at h3; simp [V.isOwn] at h3
      · exact h3 _ _ _ rfl
  have hnold : ∀ ℓ, ¬ Holds μ st tm w' ℓ w.heap.size := by
    rintro ℓ ⟨sz, xs, off, n, c, hl⟩
    have hold : atL μ st tm w ℓ (.own sz xs) (.slice (some ⟨w.heap.size, off, none⟩) n c) := by
      cases ℓ with
      | t m => exact hl
      | o u j =>
        obtain ⟨row, cs', b', g1, g2, g3, g4⟩ := hl
        refine ⟨row, cs', b', g1, g2, g3, ?_⟩
        rw [← g4]
        have := (h.obLt (h.cellsLive g1 g2)).choose_spec.2.2.2
        exact (cell?_eq (by rw [hh, Array.getElem?_push]; simp [Nat.ne_of_lt this]) j).symm
    obtain ⟨⟨vs2, ty2, g1, _⟩, _⟩ := h.own ℓ _ _ _ _ _ _ hold
    have := (Array.getElem?_eq_some_iff.1 g1).1
    simp at this
  have h1 := h0.addOb (o := .loc d) (by simp) ho (x := .cells false (z.map (Go.Ax.subR d))) rfl (b := w.heap.size)
    ⟨vs, ty, hblk, by rw [List.take_of_length_le (by omega)]; exact hrz.mono (Le.refl _) hle, by simp⟩
    (fun u hu => hob u _ hu rfl) hHn (fun hF => absurd (h.Flt _ hF) (by simp)) hnold
    (fun row cs j sz xs b' off n c e1 e2 e3 => by
      simp only [Ob.cells.injEq] at e1
      obtain ⟨rfl, rfl⟩ := e1
      exact (hownno j sz xs b' off n c e2 e3).elim)
    (fun j j' b' h1 h2 => by
      obtain ⟨row, cs, sz, xs, off, n, c, e1, e2, e3⟩ := h1
      simp only [Ob.cells.injEq] at e1
      obtain ⟨rfl, rfl⟩ := e1
      exact (hownno j sz xs b' off n c e2 e3).elim)
  have h2 : ∀ (l : List Nat) (st1 : St), Rel H (updO μ (.loc d) (some w.heap.size)) F st1 tm w' → (∀ i ∈ l, st1.ob (.sub d i) = none ∨ st1.ob (.sub d i) = some (.cells true [])) →
      Rel H (updO μ (.loc d) (some w.heap.size)) F (st1.app (l.map fun i => Wr.o (.sub d i) (.cells true []))) tm w' := by
    intro l
    induction l with
    | nil => intro st1 hr1 _; exact hr1
    | cons i l ih =>
      intro st1 hr1 hl
      simp only [List.map_cons, St.app]
      refine ih _ ?_ ?_
      · rcases hl i (by simp) with h3 | h3
        · exact hr1.addNil (by simp) h3
        · refine hr1.congr (fun _ => rfl) fun u => ?_
          rw [St.ob_putO]
          split
          · rename_i e; rw [← e, h3]
          · rfl
      · intro k hk
        rw [St.ob_putO]
        split
        · exact .inr rfl
        · exact hl k (by simp [hk])
  have h3 := h2 (subsOf z) _ h1 (fun i hi => .inl (by
    rw [St.ob_putO, if_neg (by simp)]
    exact hf _ (by simp only [newNs, List.cons_append, List.mem_cons, List.mem_append, List.mem_map]; exact .inr (.inl ⟨i, hi, rfl⟩))))
  simp only [newObW, List.cons_append, St.app, St.app_append]
  exact h3.put (.two _ _ (.one _ _ (.ref _ _ _ (by simp [updO])))) (by simp)

theorem good_alloc (hT : TabOk P T) (hr : Rel H μ F st tm w) (hρ : Env ρ tm) {o : Oper} {e : TypeId} (ho : o.op = .alloc e) {l : List Wr}
    (h : (opS T M o).run st = some (.ws l)) : Good P H μ F tm w o.dst (st.app l) (execOp ρ o) := by
  unfold opS at h
  rw [ho] at h
  dsimp only at h
  split at h
  · rename_i d hd
    replace h := rd_bind _ _ _ h
    obtain ⟨ti, hti, h⟩ := h
    have hti := hT _ _ (rd_rOpt hti)
    replace h := rd_bind _ _ _ h
    obtain ⟨_, hf, h⟩ := h
    have := rd_pure h
    injection this with this
    subst this
    obtain ⟨i, z, g1, g2, g3, g4, g5, g6⟩ := hti.info
    have hn := hr.newOb (w' := { w with heap := w.heap.push (.cells z.cells e) }) (fresh_run hf) (zcs_rep g4) (fun j x v hx hv => zcs_own g4 j x v hx hv) rfl
    refine ⟨H, _, _, _, _, ?_, .inl rfl, by rw [hd]; exact hn, ?_⟩
    rotate_left
    · exact Ext.push F _ rfl ⟨rfl, rfl, rfl⟩ (Le.refl _) (fun _ _ _ => rfl)
    simp only [execOp, ho, Instr.alloc, Sem.run_bind, runZero g1 g3, Result.andThen_ok, newVar, newRow, run_newObj, Sem.run_pure]
  · simp [Rd.run] at h
theorem weak_scells_own {v : V} {j : Nat} {y : V} (hy : v.weak.scells[j]? = some y) : y.isOwn = false := by
  have hw : v.weak.isOwn = false := weak_not_own v
  have hmem := List.mem_of_getElem? hy
  cases hq : v.weak with
  | agg cs =>
    rw [hq] at hmem
    simp only [V.scells, List.mem_map] at hmem
    obtain ⟨q, _, rfl⟩ := hmem
    cases q <;> rfl
  | _ => rw [hq] at hmem hw; simp [V.scells] at hmem; subst hmem; exact hw
theorem good_box (hT : TabOk P T) (hr : Rel H μ F st tm w) (hρ : Env ρ tm) {o : Oper} {e : TypeId} {x : Operand} (ho : o.op = .box e x) {l : List Wr}
    (h : (opS T M o).run st = some (.ws l)) : Good P H μ F tm w o.dst (st.app l) (execOp ρ o) := by
  unfold opS at h
  rw [ho] at h
  dsimp only at h
  split at h
  · rename_i d hd
    replace h := rd_bind _ _ _ h
    obtain ⟨ti, hti, h⟩ := h
    have hti := hT _ _ (rd_rOpt hti)
    replace h := rd_bind _ _ _ h
    obtain ⟨v, hv, h⟩ := h
    have hrv := ev_rep hr hρ hv
    replace h := rd_bind _ _ _ h
    obtain ⟨_, hf, h⟩ := h
    split at h
    · rename_i hc
      have := rd_pure h
      injection this with this
      subst this
      have hst : v.weak.storable = true := by
        have := hc.2
        cases v <;> simp_all [V.weak, V.storable]
      have hsc := hrv.weak.scells hst
      have hn := hr.newOb (w' := { w with heap := w.heap.push (.cells (ρ x).cells e) }) (fresh_run hf) hsc (fun j y u hy _ => .inl (weak_scells_own hy)) rfl
      refine ⟨H, _, _, _, _, ?_, .inl rfl, by rw [hd]; exact hn, ?_⟩
      rotate_left
      · exact Ext.push F _ rfl ⟨rfl, rfl, rfl⟩ (Le.refl _) (fun _ _ _ => rfl)
      simp only [execOp, ho, Instr.box, Sem.run_bind, Result.andThen_ok, newVar, newRow, run_newObj, Sem.run_pure]
    · simp [Rd.run] at h
  · simp [Rd.run] at h
end
end Go.Ax
