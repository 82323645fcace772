/- A part of the proof of a law of this seat: no condition. -/
import Derived.Test.YtblmmaecklgbhaaAxOp9
set_option linter.unusedVariables false
set_option linter.unusedSimpArgs false
namespace Go.Ax
attribute [local simp] look_cons
section
variable {P : Program} {T : Nat → Option TI} {M : Mode} {H H' : Heap} {μ μ' : Oid → Option Nat} {F : Fr} {st st' : St} {tm tm' : Nat → Value} {w w' : World} {ρ : Operand → Value}

theorem keeps_run {old new : Value} (h : Instr.sameBits 10000 old new = true) (w : World) : (Instr.keyThatStays old new).run P w = .ok new w := by
  simp [Instr.keyThatStays, h]
theorem keyV_det {kd kd' : Nat} {x : V} {v v' : Value} (h : KeyV kd x v) (h' : KeyV kd' x v') : v = v' := by
  cases h <;> cases h' <;> rfl
theorem keyV_rep {kd : Nat} {x : V} {v u : Value} (h : KeyV kd x v) (h' : RepD H x u) : v = u := by
  have e : eqKey kd x x = some true := by cases h <;> simp [eqKey]
  exact keyV_det h (keyV_of e (RepS.two (μ := fun _ => none) _ _ (.one _ _ (.data _ _ h'))))
/-- An entry is written. -/
theorem mapUpdate_run {t kt et : TypeId} (hm : P.underlying t = some (.map kt et)) {kd : Nat} (hk : KeyOk P kd kt) {x : V} {vx : Value} (hx : RepS H μ x vx) (hkx : KeyV kd x vx) {b base : Nat} {l : List (V × V)} {es : Array MapEntry}
    (hb : w.heap[b]? = some (.map es (base + l.length))) (hM : RepM H base l es.toList) {r : Option (Nat × V)} (hf : findS kd x l 0 = some r) {y : V} {vy : Value} (hy : RepD H y vy) :
    ∃ es' : Array MapEntry, (Instr.mapUpdate t (.map (some b)) vx vy).run P w = .ok () { w with heap := w.heap.setIfInBounds b (.map es' (base + (putS l x y r).length)) } ∧
      RepM H base (putS l x y r) es'.toList := by
  obtain ⟨r', f1, f2⟩ := findKey_run hk hx hkx hM hf w
  have hck := checkKey_run hk hkx false w
  cases r with
  | none =>
    dsimp only at f2
    subst f2
    refine ⟨es.push { key := vx, val := vy, born := base + l.length }, ?_, hM.push rfl (key_pure hkx) hy⟩
    simp only [Instr.mapUpdate, Sem.run_bind, runUnder hm, Result.andThen_ok, run_getObjM hb, hck, f1, run_setObjM hb, putS, List.length_append, List.length_cons, List.length_nil, Nat.add_assoc]
  | some p =>
    obtain ⟨i, v⟩ := p
    obtain ⟨p1, p2, p3, p4, p5⟩ := f2
    subst p4
    have hi : i < es.size := by simpa using p2
    have hkey : es[i].key = vx := by
      have hg := (hM.get i p1 p2).2.1
      simp only [Array.getElem_toList] at hg
      have hke : KeyV kd l[i].1 es[i].key := by
        obtain ⟨r0, h0⟩ := eqKey_symm p5
        exact keyV_of h0 (RepS.two (μ := μ) _ _ (.one _ _ (.data _ _ hg)))
      exact (keyEq p5 hkx hke).1.symm
    refine ⟨es.modify i fun e => { e with key := vx, val := vy }, ?_, hM.set fun hi => ⟨rfl, key_pure hkx, hy⟩⟩
    have hke : ((es[i]?).map (·.key)).getD vx = vx := by simp [hi, hkey]
    simp only [Instr.mapUpdate, Sem.run_bind, runUnder hm, Result.andThen_ok, run_getObjM hb, hck, f1, hke, keeps_run (sameBits_key hkx), run_setObjM hb, putS, setS, List.length_modify]
theorem pure_one {v : V} {u : Value} (h : RepS H μ v u) (hp : v.pure = true) : RepD H v.weak u := RepD.of_pure h hp
theorem good_mapPut (hT : TabOk P T) (hr : Rel H μ F st tm w) (hρ : Env ρ tm) {o : Oper} {t : TypeId} {m k v : Operand} (ho : o.op = .mapUpdate t m k v ∨ o.op = .insert t m k v) {l : List Wr}
    (h : (mapPut T t m k v o.dst).run st = some (.ws l)) : Good P H μ F tm w o.dst (st.app l) (execOp ρ o) := by
  unfold mapPut at h
  replace h := rd_bind _ _ _ h
  obtain ⟨ti, hti, h⟩ := h
  have hti := hT _ _ (rd_rOpt hti)
  replace h := rd_bind _ _ _ h
  obtain ⟨vm, hm, h⟩ := h
  replace h := rd_bind _ _ _ h
  obtain ⟨vk, hk, h⟩ := h
  replace h := rd_bind _ _ _ h
  obtain ⟨vv, hv, h⟩ := h
  replace h := rd_bind _ _ _ h
  obtain ⟨⟨kd, z⟩, hkv, h⟩ := h
  have hkv := rd_rOpt hkv
  have hrm := ev_rep hr hρ hm
  have hrk := ev_rep hr hρ hk
  have hrv := ev_rep hr hρ hv
  dsimp only at h
  split at h
  · rename_i u
    obtain ⟨b, hb, e⟩ := hrm.mp
    simp only [Rd.run] at h
    split at h
    · rename_i base l' hob
      replace h := rd_bind _ _ _ h
      obtain ⟨b0, hb0, h⟩ := h
      replace h := rd_bind _ _ _ h
      obtain ⟨r, hf, h⟩ := h
      have hf := rd_rOpt hf
      have hkx := keyV_of (rd_rOpt hb0) hrk
      split at h
      · rename_i hc
        obtain ⟨c0, c1, c2, c3⟩ := hc
        obtain ⟨ke, ee, i, zz, g1, g2, g3, g4, g5, g6⟩ := hti.kv _ _ hkv
        obtain ⟨es, m1, m2⟩ := hr.mapAt hb hob
        obtain ⟨es', q1, q2⟩ := mapUpdate_run g1 g2 hrk hkx m1 m2 hf (RepD.of_pure hrv c2)
        have hexec : (execOp ρ o).run P w = .ok .skip { w with heap := w.heap.setIfInBounds b (.map es' (base + (putS l' vk vv.weak r).length)) } := by
          rcases ho with ho | ho
          · simp only [execOp, ho, e, Sem.run_bind, q1, Result.andThen_ok, Sem.run_pure]
          · simp only [execOp, ho, e, Sem.run_bind, q1, Result.andThen_ok, Sem.run_pure]
        have := rd_pure h
        injection this with this
        subst this
        rw [c3]
        exact out_map (dst := none) hr hb hob q2 hexec (.inr ⟨rfl, rfl⟩) (x := .tup []) (.tup _ _ .nil) rfl
      · simp [Rd.run] at h
    · simp [Rd.run] at h
  · simp [Rd.run] at h
theorem good_mapEntry (hT : TabOk P T) (hr : Rel H μ F st tm w) (hρ : Env ρ tm) {o : Oper} {t : TypeId} {m k : Operand} (ho : o.op = .mapEntry t m k) {l : List Wr}
    (h : (opS T M o).run st = some (.ws l)) : Good P H μ F tm w o.dst (st.app l) (execOp ρ o) := by
  unfold opS at h
  rw [ho] at h
  replace h := rd_bind _ _ _ h
  obtain ⟨ti, hti, h⟩ := h
  have hti := hT _ _ (rd_rOpt hti)
  replace h := rd_bind _ _ _ h
  obtain ⟨vm, hm, h⟩ := h
  replace h := rd_bind _ _ _ h
  obtain ⟨vk, hk, h⟩ := h
  replace h := rd_bind _ _ _ h
  obtain ⟨⟨kd, z⟩, hkv, h⟩ := h
  have hkv := rd_rOpt hkv
  have hrm := ev_rep hr hρ hm
  have hrk := ev_rep hr hρ hk
  dsimp only at h
  split at h
  · rename_i u
    obtain ⟨b, hb, e⟩ := hrm.mp
    simp only [Rd.run] at h
    split at h
    · rename_i base l' hob
      replace h := rd_bind _ _ _ h
      obtain ⟨b0, hb0, h⟩ := h
      replace h := rd_bind _ _ _ h
      obtain ⟨r, hf, h⟩ := h
      have hf := rd_rOpt hf
      have hkx := keyV_of (rd_rOpt hb0) hrk
      obtain ⟨kt, ee, i, zz, g1, g2, g3, g4, g5, g6⟩ := hti.kv _ _ hkv
      obtain ⟨es, m1, m2⟩ := hr.mapAt hb hob
      obtain ⟨r', f1, f2⟩ := findKey_run g2 hrk hkx m2 hf w
      have hck := checkKey_run g2 hkx false w
      obtain ⟨_, _, hz⟩ := zc_rep (H := H) (μ := μ) g5
      have hzd : RepD H z.weak zz := RepD.of_pure (.two _ _ (.one _ _ hz)) (by cases z <;> simp_all [V.pure1, V.pure])
      have := rd_pure h
      injection this with this
      subst this
      -- what the map is then, and what is told
      have key : ∃ (es' : Array MapEntry) (uv : Value), (execOp ρ o).run P w = .ok (.value (.tuple #[uv, .int .i64 (base + idxOf l'.length r : Nat)])) { w with heap := w.heap.setIfInBounds b (.map es' (base + (putS l' vk (valOf z.weak r) r).length)) } ∧
          RepM H base (putS l' vk (valOf z.weak r) r) es'.toList ∧ RepD H (valOf z.weak r) uv := by
        cases r with
        | none =>
          dsimp only at f2
          subst f2
          refine ⟨es.push { key := ρ k, val := zz, born := base + l'.length }, zz, ?_, m2.push rfl (key_pure hkx) hzd, hzd⟩
          simp only [execOp, ho, e, Instr.mapEntry, Sem.run_bind, runUnder g1, Result.andThen_ok, run_getObjM m1, hck, f1, runZero g3 g4, run_setObjM m1, Sem.run_pure, putS, valOf, idxOf, List.length_append, List.length_cons, List.length_nil, Nat.add_assoc, goInt]
        | some p =>
          obtain ⟨i, v⟩ := p
          obtain ⟨p1, p2, p3, p4, p5⟩ := f2
          subst p4
          have hi : i < es.size := by simpa using p2
          have hg := m2.get i p1 p2
          simp only [Array.getElem_toList] at hg
          have hkey : es[i].key = ρ k := by
            have hke : KeyV kd l'[i].1 es[i].key := by
              obtain ⟨r0, h0⟩ := eqKey_symm p5
              exact keyV_of h0 (RepS.two (μ := μ) _ _ (.one _ _ (.data _ _ hg.2.1)))
            exact (keyEq p5 hkx hke).1.symm
          have hke : ((es[i]?).map (·.key)).getD (ρ k) = ρ k := by simp [hi, hkey]
          have hbo : ((es[i]?).map (fun x => (x.born : Int))).getD 0 = ((base + i : Nat) : Int) := by simp [hi, hg.1]
          refine ⟨es.modify i fun e => { e with key := ρ k }, es[i].val, ?_, m2.set fun hi => ⟨rfl, key_pure hkx, by rw [← p3]; exact hg.2.2⟩, by simp only [valOf]; rw [← p3]; exact hg.2.2⟩
          simp only [execOp, ho, e, Instr.mapEntry, Sem.run_bind, runUnder g1, Result.andThen_ok, run_getObjM m1, hck, f1, hke, hbo, keeps_run (sameBits_key hkx), run_setObjM m1, Sem.run_pure, putS, valOf, idxOf, setS, List.length_modify, goInt, Array.getElem_toList]
      obtain ⟨es', uv, k1, k2, k3⟩ := key
      exact out_map hr hb hob k2 k1 (.inl rfl) (.tup [valOf z.weak r, .int .i64 (base + idxOf l'.length r : Nat)] [uv, .int .i64 (base + idxOf l'.length r : Nat)] (.cons _ _ _ _ (.one _ _ (.data _ _ k3)) (.cons _ _ _ _ (.one _ _ (.data _ _ (.int _ _))) .nil))) rfl
    · simp [Rd.run] at h
  · simp [Rd.run] at h
theorem good_entryStore (hr : Rel H μ F st tm w) (hρ : Env ρ tm) {o : Oper} {t : TypeId} {m s v : Operand} (ho : o.op = .entryStore t m s v) {l : List Wr}
    (h : (opS T M o).run st = some (.ws l)) : Good P H μ F tm w o.dst (st.app l) (execOp ρ o) := by
  unfold opS at h
  rw [ho] at h
  replace h := rd_bind _ _ _ h
  obtain ⟨vm, hm, h⟩ := h
  replace h := rd_bind _ _ _ h
  obtain ⟨vs, hs, h⟩ := h
  replace h := rd_bind _ _ _ h
  obtain ⟨vv, hv, h⟩ := h
  have hrm := ev_rep hr hρ hm
  have hrs := ev_rep hr hρ hs
  have hrv := ev_rep hr hρ hv
  split at h
  · rename_i u k q
    obtain ⟨b, hb, e⟩ := hrm.mp
    have es0 := hrs.int
    simp only [Rd.run] at h
    split at h
    · rename_i base l' hob
      split at h
      · rename_i kk vold hget
        split at h
        · rename_i hc
          obtain ⟨c0, c1, c2, c3⟩ := hc
          simp only [Rd.run] at h
          injection h with h
          injection h with h
          subst h
          obtain ⟨es, m1, m2⟩ := hr.mapAt hb hob
          generalize hi : (q - (base : Int)).toNat = i at hget
          obtain ⟨hlt, hge⟩ := List.getElem?_eq_some_iff.1 hget
          have hl := m2.len
          have hi2 : i < es.size := by simp at hl; omega
          have hg := m2.get i hlt (by simpa using hi2)
          simp only [Array.getElem_toList] at hg
          have hfind : es.findIdx? (fun e => (e.born : Int) == q) = some i := by
            rw [Array.findIdx?_eq_some_iff_getElem]
            refine ⟨hi2, by simp [hg.1]; omega, fun j hj => ?_⟩
            have hgj := (m2.get j (by omega) (by simp; omega)).1
            simp only [Array.getElem_toList] at hgj
            simp [hgj]
            omega
          have hm' : RepM H base (setS l' i kk vv.weak) (es.modify i fun e => { e with val := ρ v }).toList := m2.set fun hi => ⟨rfl, by have := hg.2.1; rw [hge] at this; exact this, RepD.of_pure hrv c0⟩
          have hexec : (execOp ρ o).run P w = .ok .skip { w with heap := w.heap.setIfInBounds b (.map (es.modify i fun e => { e with val := ρ v }) (base + (setS l' i kk vv.weak).length)) } := by
            simp only [execOp, ho, e, es0, Instr.entryStore, asInt, asIntOf, Sem.run_bind, run_getObjM m1, Result.andThen_ok, Sem.run_pure, hfind, run_setObjM m1, setS, List.length_modify]
          rw [c2]
          exact out_map (dst := none) hr hb hob hm' hexec (.inr ⟨rfl, rfl⟩) (x := .tup []) (.tup _ _ .nil) rfl
        · simp [Rd.run] at h
      · simp [Rd.run] at h
    · simp [Rd.run] at h
  · simp [Rd.run] at h
theorem good_clear (hT : TabOk P T) (hr : Rel H μ F st tm w) (hρ : Env ρ tm) {o : Oper} {args : Array Operand} {at' : Array TypeId} (ho : o.op = .call { callee := .builtin .clear, args := args, argTypes := at' }) {l : List Wr}
    (h : (opS T M o).run st = some (.ws l)) : Good P H μ F tm w o.dst (st.app l) (execOp ρ o) := by
  unfold opS at h
  rw [ho] at h
  replace h := rd_bind _ _ _ h
  obtain ⟨vs, hvs, h⟩ := h
  obtain ⟨h1, h2⟩ := evs_rep hr hρ hvs
  replace h := rd_bind _ _ _ h
  obtain ⟨t, ht, h⟩ := h
  have ht := rd_rOpt ht
  replace h := rd_bind _ _ _ h
  obtain ⟨ti, hti, h⟩ := h
  obtain ⟨d, hd, _⟩ := (hT _ _ (rd_rOpt hti)).und
  split at h
  · rename_i u
    obtain ⟨x, rfl⟩ := list1 (h1.symm)
    have e1 := (h2 0 (by simp) (by simp)).1
    simp at e1
    obtain ⟨b, hb, e⟩ := e1.mp
    simp only [Rd.run] at h
    split at h
    · rename_i base l' hob
      simp only [Rd.run] at h
      injection h with h
      injection h with h
      subst h
      obtain ⟨es, m1, m2⟩ := hr.mapAt hb hob
      refine out_map hr hb hob (es := #[]) ⟨by simp, by simp⟩ (n := .value (.tuple #[])) ?_ (.inl rfl) (.tup _ _ .nil) rfl
      simp only [execOp, ho, resolve, Sem.run_bind, Sem.run_pure, Result.andThen_ok, invoke, builtin, List.map_toArray, List.map_cons, List.map_nil, Builtin.clear_, ht, List.getElem?_toArray, List.getElem?_cons_zero, runUnder hd, e, run_getObjM m1, run_setObjM m1,
        List.length_nil, Nat.add_zero]
    · simp [Rd.run] at h
  · simp [Rd.run] at h
end
end Go.Ax
