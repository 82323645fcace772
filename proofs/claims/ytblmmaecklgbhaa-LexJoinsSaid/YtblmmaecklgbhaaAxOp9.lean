/- A part of the proof of a law of this seat: no condition. -/
import Derived.Test.YtblmmaecklgbhaaAxOp8
set_option linter.unusedVariables false
set_option linter.unusedSimpArgs false
namespace Go.Ax
attribute [local simp] look_cons
section
variable {P : Program} {T : Nat → Option TI} {M : Mode} {H H' : Heap} {μ μ' : Oid → Option Nat} {F : Fr} {st st' : St} {tm tm' : Nat → Value} {w w' : World} {ρ : Operand → Value}

/-- The map that a name leads to. -/
theorem Rel.mapAt (hr : Rel H μ F st tm w) {u : Oid} {b : Nat} (hb : μ u = some b) {base : Nat} {l : List (V × V)} (ho : st.ob u = some (.map base l)) :
    ∃ es : Array MapEntry, w.heap[b]? = some (.map es (base + l.length)) ∧ RepM H base l es.toList := by
  rcases hr.obs u _ ho rfl with ⟨b', hb', hr⟩ | ⟨e, _⟩
  · rw [hb] at hb'; injection hb' with hb'; subst hb'; exact hr
  · simp at e
theorem RepM.set {base : Nat} {l : List (V × V)} {es : Array MapEntry} (h : RepM H base l es.toList) {i : Nat} {k v : V} {f : MapEntry → MapEntry} (hf : ∀ (hi : i < es.size), (f es[i]).born = es[i].born ∧ RepD H k (f es[i]).key ∧ RepD H v (f es[i]).val) :
    RepM H base (setS l i k v) (es.modify i f).toList := by
  have hl := h.len
  refine ⟨by simp [setS, hl], fun j hj hj' => ?_⟩
  have hj1 : j < l.length := by simpa [setS] using hj
  have hj2 : j < es.size := by simpa using hj'
  have hg := h.get j hj1 (by simpa using hj2)
  simp only [setS, List.getElem_modify, Array.getElem_toList, Array.getElem_modify] at hg ⊢
  by_cases e : i = j
  · subst e
    simp only [if_pos]
    obtain ⟨h1, h2, h3⟩ := hf hj2
    exact ⟨by rw [h1]; exact hg.1, h2, h3⟩
  · simp only [if_neg e]
    exact hg
theorem RepM.push {base : Nat} {l : List (V × V)} {es : Array MapEntry} (h : RepM H base l es.toList) {k v : V} {q : MapEntry} (h1 : q.born = base + l.length) (h2 : RepD H k q.key) (h3 : RepD H v q.val) :
    RepM H base (l ++ [(k, v)]) (es.push q).toList := by
  have hl : l.length = es.toList.length := h.len
  refine ⟨by rw [List.length_append, Array.toList_push, List.length_append, hl]; rfl, fun j hj hj' => ?_⟩
  simp only [Array.toList_push]
  by_cases e : j < l.length
  · have := h.get j e (by omega)
    rw [List.getElem_append_left e, List.getElem_append_left (by omega)]
    exact this
  · have hj3 : j = l.length := by rw [List.length_append] at hj; simp only [List.length_cons, List.length_nil] at hj; omega
    subst hj3
    rw [List.getElem_append_right (by omega), List.getElem_append_right (by omega)]
    simp only [hl, Nat.sub_self, List.getElem_cons_zero] at h1 ⊢
    exact ⟨h1, h2, h3⟩
theorem out_map (hr : Rel H μ F st tm w) {s : Sem Next} {b : Nat} {u : Oid} (hb : μ u = some b) {base base' : Nat} {l l' : List (V × V)} (ho : st.ob u = some (.map base l)) {es : Array MapEntry} (hm : RepM H base' l' es.toList)
    {x : V} {v : Value} {n : Next} (hs : s.run P w = .ok n { w with heap := w.heap.setIfInBounds b (.map es (base' + l'.length)) }) (hn : n = .value v ∨ n = .skip ∧ v = undef) (hx : RepS H μ x v) (hxo : x.isOwn = false) {dst : Option Nat} :
    Good P H μ F tm w dst ((st.putO u (.map base' l')).app (out dst x)) s := by
  obtain ⟨h1, h2⟩ := hr.setMap (w' := { w with heap := w.heap.setIfInBounds b (.map es (base' + l'.length)) }) hb ho rfl ⟨rfl, rfl, rfl⟩ hm
  exact ⟨H, μ, _, n, v, hs, hn, out_rel' h1 hx hxo, h2⟩

theorem good_makeMap (hr : Rel H μ F st tm w) {o : Oper} {t : TypeId} (ho : o.op = .makeMap t none) {l : List Wr}
    (h : (opS T M o).run st = some (.ws l)) : Good P H μ F tm w o.dst (st.app l) (execOp ρ o) := by
  unfold opS at h
  rw [ho] at h
  dsimp only at h
  split at h
  · rename_i d hd
    replace h := rd_bind _ _ _ h
    obtain ⟨_, hf, h⟩ := h
    have := rd_pure h
    injection this with this
    subst this
    have ho' := fresh_run hf (.loc d) (by simp)
    have h0 : Rel H μ F st tm { w with heap := w.heap.push (.map #[] 0) } := hr.push _ rfl (Le.refl _) (fun _ _ _ => rfl) (fun k v hv => by rw [hr.noNew] at hv; simp at hv) (fun _ _ => rfl) (by rw [hr.noSize]; exact Nat.zero_le _)
    have h1 := h0.addOb (o := .loc d) (by simp) ho' (x := .map 0 []) rfl (b := w.heap.size) ⟨#[], by simp, by simp, by simp⟩
      (fun u hu => by have := (hr.obLt hu).choose_spec.2.2.2; omega) (fun k => hr.noNew k) (fun hF => absurd (hr.Flt _ hF) (by simp)) (hr.noHold rfl)
      (fun _ _ _ _ _ _ _ _ _ e => by simp at e) (fun j j' b' h1 => by obtain ⟨_, _, _, _, _, _, _, e, _⟩ := h1; simp at e)
    refine ⟨H, updO μ (.loc d) (some w.heap.size), _, _, .map (some w.heap.size), ?_, .inl rfl, ?_, Ext.push (w' := { w with heap := w.heap.push (.map #[] 0) }) F (.map #[] 0) rfl ⟨rfl, rfl, rfl⟩ (Le.refl _) (fun _ _ _ => rfl)⟩
    · simp only [execOp, ho, Option.map_none, Instr.makeMap, Sem.run_bind, run_newObj, Result.andThen_ok, Sem.run_pure]
    · rw [hd]
      exact h1.put (.two _ _ (.one _ _ (.mp _ _ (by simp [updO])))) (by simp)
  · simp [Rd.run] at h

theorem good_lookup (hT : TabOk P T) (hr : Rel H μ F st tm w) (hρ : Env ρ tm) {o : Oper} {t : TypeId} {x k : Operand} {ok : Bool} (ho : o.op = .lookup t x k ok) {l : List Wr}
    (h : (opS T M o).run st = some (.ws l)) : Good P H μ F tm w o.dst (st.app l) (execOp ρ o) := by
  unfold opS at h
  rw [ho] at h
  replace h := rd_bind _ _ _ h
  obtain ⟨ti, hti, h⟩ := h
  have hti := hT _ _ (rd_rOpt hti)
  replace h := rd_bind _ _ _ h
  obtain ⟨vm, hm, h⟩ := h
  replace h := rd_bind _ _ _ h
  obtain ⟨vk, hk, h⟩ := h
  replace h := rd_bind _ _ _ h
  obtain ⟨⟨kd, z⟩, hkv, h⟩ := h
  have hkv := rd_rOpt hkv
  have hrm := ev_rep hr hρ hm
  have hrk := ev_rep hr hρ hk
  dsimp only at h
  split at h
  · rename_i u
    obtain ⟨b, hb, e⟩ := hrm.mp
    simp only [Rd.run] at h
    split at h
    · rename_i base l' hob
      replace h := rd_bind _ _ _ h
      obtain ⟨b0, hb0, h⟩ := h
      replace h := rd_bind _ _ _ h
      obtain ⟨r, hf, h⟩ := h
      have hf := rd_rOpt hf
      have hkx := keyV_of (rd_rOpt hb0) hrk
      have := rd_pure h
      injection this with this
      subst this
      obtain ⟨ke, ee, i, zz, g1, g2, g3, g4, g5, g6⟩ := hti.kv _ _ hkv
      obtain ⟨es, m1, m2⟩ := hr.mapAt hb hob
      obtain ⟨r', f1, f2⟩ := findKey_run g2 hrk hkx m2 hf w
      obtain ⟨_, _, hz⟩ := zc_rep (H := H) (μ := μ) g5
      have hzd : RepS H μ z zz := .two _ _ (.one _ _ hz)
      have hzo : z.weak.isOwn = false := weak_not_own z
      have hck := checkKey_run g2 hkx es.isEmpty w
      -- what stands there
      have hv : ∃ (u : Value) (q : V), q = valOf z r ∧ RepS H μ q u ∧ q.isTup = false ∧ (execOp ρ o).run P w = .ok (.value (if ok then Value.tuple #[u, .bool r.isSome] else u)) w ∧ (r = none → u = zz) := by
        cases r with
        | none =>
          dsimp only at f2
          subst f2
          refine ⟨zz, z, rfl, hzd, by cases z <;> simp_all [V.pure1, V.isTup], ?_, fun _ => rfl⟩
          simp only [execOp, ho, e, Instr.lookup, Sem.run_bind, runUnder g1, Result.andThen_ok, run_getObjM m1, Sem.run_pure, hck, f1, runZero g3 g4]
          rfl
        | some p =>
          obtain ⟨j, v⟩ := p
          obtain ⟨p1, p2, p3, p4, p5⟩ := f2
          subst p4
          have hg := (m2.get j p1 p2).2.2
          rw [p3] at hg
          refine ⟨es.toList[j].val, v, rfl, .two _ _ (.one _ _ (.data _ _ hg)), hg.notTup, ?_, by simp⟩
          simp only [execOp, ho, e, Instr.lookup, Sem.run_bind, runUnder g1, Result.andThen_ok, run_getObjM m1, Sem.run_pure, hck, f1]
          rfl
      obtain ⟨uv, q, q1, q2, q3, hrun, q4⟩ := hv
      rw [← q1]
      refine good_same hrun ?_
      cases ok with
      | true =>
        simp only [if_true]
        refine out_rel' hr (.tup [q, .bool r.isSome] [uv, .bool r.isSome] (.cons _ _ _ _ (q2.to2' q3) (.cons _ _ _ _ (.one _ _ (.data _ _ (.bool _))) .nil))) rfl
      | false =>
        simp only [Bool.false_eq_true, if_false]
        refine out_rel hr q2 fun sz xs b' off n c e1 e2 => ?_
        exfalso
        -- entries hold data; a zero row is nil
        cases r with
        | none =>
          rw [q1] at e1
          simp only [valOf] at e1
          dsimp only at f2
          subst f2
          rw [e1] at g5
          cases zz with
          | slice a n' c' =>
            cases a with
            | none =>
              have := q4 rfl
              rw [this] at e2
              simp at e2
            | some a => cases xs <;> simp [zc] at g5
          | _ => cases xs <;> simp [zc] at g5
        | some p =>
          obtain ⟨j, v⟩ := p
          obtain ⟨p1, p2, p3, p4, p5⟩ := f2
          have hg := (m2.get j p1 p2).2.2
          rw [p3] at hg
          rw [q1] at e1
          simp only [valOf] at e1
          rw [e1] at hg
          have := hg.notOwn
          simp [V.isOwn] at this
    · simp [Rd.run] at h
  · simp [Rd.run] at h
end
end Go.Ax
