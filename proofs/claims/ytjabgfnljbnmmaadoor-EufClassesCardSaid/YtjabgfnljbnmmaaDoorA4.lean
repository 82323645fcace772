/- A part of the proof of a law of this seat: no condition. -/
import Derived.Test.YtjabgfnljbnmmaaDoorA3
import Derived.Laws.BytesString
set_option linter.unusedVariables false
set_option linter.unusedSimpArgs false
namespace Go.Ax
attribute [local simp] look_cons
section
variable {P : Program} {T : Nat → Option TI} {M : Mode} {H H' : Heap} {μ μ' : Oid → Option Nat} {F : Fr} {st st' : St} {tm tm' : Nat → Value} {w w' : World} {ρ : Operand → Value}

theorem _root_.Go.Ax.RepS.to2' {v : V} {u : Value} (h : RepS H μ v u) (ht : v.isTup = false) : Rep2 H μ v u := by
 cases h with
 | two _ _ h => exact h
 | tup => simp [V.isTup] at ht
theorem RepD.notTup {x : V} {v : Value} (h : RepD H x v) : x.isTup = false := by cases h <;> rfl
theorem RepD.notOwn {x : V} {v : Value} (h : RepD H x v) : x.isOwn = false := by cases h <;> rfl
theorem run_getObjM {r clock : Nat} {es : Array MapEntry} (h : w.heap[r]? = some (.map es clock)) : (getObj r).run P w = .ok (.map es clock) w := by
 simp [getObj, Sem.run, h]
theorem run_setObjM {r clock : Nat} {es : Array MapEntry} (h : w.heap[r]? = some (.map es clock)) (x : Obj) : (setObj r x).run P w = .ok () { w with heap := w.heap.setIfInBounds r x } := by
 simp [setObj, Sem.run, h]

/-- Keys that are compared. -/
inductive KeyV : Nat → V → Value → Prop
 | int (k a) : KeyV 2 (.int k a) (.int k a)
 | str (s : List UInt8) : KeyV 4 (.str s) (.string ⟨s.toArray⟩)
 | arr (k l a b) : KeyV 100 (.agg [.int k a, .int l b]) (.agg #[.int k a, .int l b])
theorem keyV_of {kd : Nat} {x y : V} {r : Bool} (he : eqKey kd x y = some r) {vx : Value} (hx : RepS H μ x vx) : KeyV kd x vx := by
 unfold eqKey at he
 split at he
 ·rw [hx.int]; exact .int _ _
 ·rw [hx.str]; exact .str _
 ·obtain ⟨us, e, hc⟩ := hx.agg_inv
  cases hc with
  | cons _ u1 _ us1 _ _ h1 hs =>
   cases hs with
   | cons _ u2 _ us2 _ _ h2 hs2 =>
    cases hs2
    have e1 := (RepS.two _ _ (.one _ _ h1)).int
    have e2 := (RepS.two _ _ (.one _ _ h2)).int
    subst e1; subst e2
    rw [e]
    exact .arr _ _ _ _
 ·simp at he
theorem eqKey_symm {kd : Nat} {x y : V} {r : Bool} (he : eqKey kd x y = some r) : ∃ r', eqKey kd y x = some r' := by
 unfold eqKey at he ⊢
 split at he
 ·split at he
  ·rename_i h; subst h; simp
  ·simp at he
 ·simp
 ·split at he
  ·rename_i h; obtain ⟨rfl, rfl⟩ := h; simp
  ·simp at he
 ·simp at he
theorem checkKey_gen {kd : Nat} {kt : TypeId} (hk : KeyOk P kd kt) {x : V} {vx : Value} (hx : KeyV kd x vx) (em : Bool) (n : Nat) (w : World) : (Instr.checkKey em (n + 2) kt vx).run P w = .ok () w := by
 cases hx with
 | int k a =>
  obtain ⟨i, hi⟩ := hk.1 rfl
  simp [Instr.checkKey, runUnder hi]
 | str s => simp [Instr.checkKey, runUnder (hk.2.1 rfl)]
 | arr k l a b =>
  obtain ⟨e, i, j, h1, h2, h3, h4⟩ := hk.2.2.1 rfl
  have hp : ∀ (n : Nat) (v : Value), #[Value.int k a, .int l b][n]? = some v → (part e #[.int k a, .int l b] n).run P w = .ok v w := by
   intro n v hv
   unfold part
   simp only [Sem.run_bind]
   rw [show (isAgg e).run P w = .ok false w from by simp [isAgg, runUnder h2]]
   simp [hv]
  have hc : ∀ q m, (Instr.checkKey em (n + 1) e (.int q m)).run P w = .ok () w := fun q m => by simp [Instr.checkKey, runUnder h2]
  rw [Instr.checkKey]
  simp only [Sem.run_bind, runUnder h1, Result.andThen_ok]
  simp [Std.Legacy.Range.forIn_eq_forIn_range', Std.Legacy.Range.size, List.range', runSize h3, h4, hp 0 _ rfl, hp 1 _ rfl, hc]
theorem checkKey_run {kd : Nat} {kt : TypeId} (hk : KeyOk P kd kt) {x : V} {vx : Value} (hx : KeyV kd x vx) (em : Bool) (w : World) : (Instr.checkKey em 10000 kt vx).run P w = .ok () w := checkKey_gen hk hx em 9998 w
/-- Are two keys one? -/
theorem equal_gen {kt : TypeId} (hk : KeyOk P 100 kt) {x y : V} {vx vy : Value} {r : Bool} (he : eqKey 100 x y = some r) (hx : KeyV 100 x vx) (hy : KeyV 100 y vy) (n : Nat) (w : World) : (Op.equalIn (n + 2) kt vx vy).run P w = .ok r w := by
 obtain ⟨e, i, j, h1, h2, h3, h4⟩ := hk.2.2.1 rfl
 cases hx with
 | arr k l a b =>
 cases hy with
 | arr k' l' a' b' =>
 simp only [eqKey] at he
 split at he
 ·rename_i hkk
  obtain ⟨rfl, rfl⟩ := hkk
  injection he with he
  have hp : ∀ (c d : Int) (n : Nat) (v : Value), #[Value.int k c, .int l d][n]? = some v → (part e #[.int k c, .int l d] n).run P w = .ok v w := by
   intro c d n v hv
   unfold part
   simp only [Sem.run_bind]
   rw [show (isAgg e).run P w = .ok false w from by simp [isAgg, runUnder h2]]
   simp [hv]
  have hq : ∀ q c d, (Op.equalIn (n + 1) e (.int q c) (.int q d)).run P w = .ok (c == d) w := fun q c d => by rw [Op.equalIn]; simp [runUnder h2]
  rw [Op.equalIn]
  simp only [Sem.run_bind, runUnder h1, Result.andThen_ok]
  subst he
  by_cases e1 : a = a' <;> by_cases e2 : b = b' <;>
   simp [Std.Legacy.Range.forIn_eq_forIn_range', Std.Legacy.Range.size, List.range', runSize h3, h4, hp _ _ 0 _ rfl, hp _ _ 1 _ rfl, hq, e1, e2]
 ·simp at he
theorem equal_run {kt : TypeId} (hk : KeyOk P 100 kt) {x y : V} {vx vy : Value} {r : Bool} (he : eqKey 100 x y = some r) (hx : KeyV 100 x vx) (hy : KeyV 100 y vy) (w : World) : (Op.equal kt vx vy).run P w = .ok r w := equal_gen hk he hx hy 9998 w
/-- Where a key stands in a map. -/
theorem findS_run {kd : Nat} {kt : TypeId} (hk : KeyOk P kd kt) {x : V} {vx : Value} (hx : RepS H μ x vx) (hkx : KeyV kd x vx) : ∀ (l : List (V × V)) (es : List MapEntry) (i : Nat) {r : Option (Nat × V)}, l.length = es.length →
  (∀ j (hj : j < l.length) (hj' : j < es.length), RepD H l[j].1 es[j].key) → findS kd x l i = some r →
  ∃ r' : Option (Nat × Value), (∀ d, P.underlying kt = some d → (kd ≠ 100 → Instr.findNow d vx es i = some r')) ∧ (kd = 100 → ∀ w, (Instr.findAsking kt vx es i).run P w = .ok r' w) ∧
   (match r with
    | none => r' = none
    | some (j, v) => i ≤ j ∧ ∃ (h1 : j - i < l.length) (h2 : j - i < es.length), l[j - i].2 = v ∧ r' = some (j, es[j - i].val) ∧ eqKey kd x l[j - i].1 = some true) := by
 intro l
 induction l with
 | nil =>
  intro es i r hl hkey hf
  cases es with
  | cons => simp at hl
  | nil =>
   simp [findS] at hf
   subst hf
   exact ⟨none, fun d hd _ => rfl, fun _ w => by simp [Instr.findAsking], rfl⟩
 | cons e l ih =>
  intro es i r hl hkey hf
  cases es with
  | nil => simp at hl
  | cons q es =>
   have hk0 := hkey 0 (by simp) (by simp)
   simp only [List.getElem_cons_zero] at hk0
   have hkr : ∀ j (hj : j < l.length) (hj' : j < es.length), RepD H l[j].1 es[j].key := fun j hj hj' => hkey (j + 1) (by simpa using hj) (by simpa using hj')
   simp only [findS] at hf
   cases hq : eqKey kd x e.1 with
   | none => rw [hq] at hf; simp at hf
   | some b =>
    rw [hq] at hf
    obtain ⟨b', hb'⟩ := eqKey_symm hq
    have hke := keyV_of hb' (RepS.two (μ := μ) _ _ (.one _ _ (.data _ _ hk0)))
    have hsame : kd ≠ 100 → ∀ d, P.underlying kt = some d → Instr.sameNow d vx q.key = some b := by
     intro hne d hd
     unfold eqKey at hq
     cases hkx with
     | int k a =>
      obtain ⟨i', hi⟩ := hk.1 rfl
      rw [hi] at hd
      injection hd with hd
      subst hd
      cases hke' : e.1 with
      | int k' a' =>
       rw [hke'] at hq hke
       generalize hkv : q.key = kv at hke
       cases hke
       simp only at hq
       split at hq
       ·rename_i hkk
        injection hq with hq
        simp [Instr.sameNow, hkk, ← hq]
       ·simp at hq
      | _ => rw [hke'] at hq; simp at hq
     | str s =>
      have hi := hk.2.1 rfl
      rw [hi] at hd
      injection hd with hd
      subst hd
      cases hke' : e.1 with
      | str s' =>
       rw [hke'] at hq hke
       generalize hkv : q.key = kv at hke
       cases hke
       simp only [Option.some.injEq] at hq
       simp [Instr.sameNow, beq_toListBytes, bytes_toList, ← hq]
      | _ => rw [hke'] at hq; simp at hq
     | arr => exact absurd rfl hne
    have hask : kd = 100 → ∀ w, (Op.equal kt vx q.key).run P w = .ok b w := by
     intro e100 w
     subst e100
     exact equal_run hk hq hkx hke w
    cases b with
    | true =>
     simp at hf
     subst hf
     refine ⟨some (i, q.val), fun d hd hne => by simp [Instr.findNow, hsame hne d hd], fun e100 w => by simp [Instr.findAsking, hask e100 w], Nat.le_refl _, by simp, by simp, ?_⟩
     simp [hq]
    | false =>
     simp only at hf
     obtain ⟨r', g1, g2, g3⟩ := ih es (i + 1) (by simpa using hl) hkr hf
     refine ⟨r', fun d hd hne => by simp [Instr.findNow, hsame hne d hd, g1 d hd hne], fun e100 w => by simp [Instr.findAsking, hask e100 w, g2 e100 w], ?_⟩
     cases r with
     | none => exact g3
     | some p =>
      obtain ⟨j, v⟩ := p
      obtain ⟨p1, p2, p3, p4, p5, p6⟩ := g3
      have e1 : j - i = (j - (i + 1)) + 1 := by omega
      refine ⟨by omega, by simp; omega, by simp at hl ⊢; omega, ?_⟩
      simp only [e1, List.getElem_cons_succ]
      exact ⟨p4, p5, p6⟩
theorem findKey_run {kd : Nat} {kt : TypeId} (hk : KeyOk P kd kt) {x : V} {vx : Value} (hx : RepS H μ x vx) (hkx : KeyV kd x vx) {base : Nat} {l : List (V × V)} {es : Array MapEntry} (hm : RepM H base l es.toList)
  {r : Option (Nat × V)} (hf : findS kd x l 0 = some r) (w : World) :
  ∃ r' : Option (Nat × Value), (Instr.findKey kt vx es.toList).run P w = .ok r' w ∧
   (match r with
    | none => r' = none
    | some (j, v) => ∃ (h1 : j < l.length) (h2 : j < es.toList.length), l[j].2 = v ∧ r' = some (j, es.toList[j].val) ∧ eqKey kd x l[j].1 = some true) := by
 obtain ⟨r', g1, g2, g3⟩ := findS_run hk hx hkx l es.toList 0 hm.len (fun j hj hj' => (hm.get j hj hj').2.1) hf
 have hd : ∃ d, P.underlying kt = some d := by
  rcases hk.2.2.2 with e | e | e
  ·obtain ⟨i, h⟩ := hk.1 e; exact ⟨_, h⟩
  ·exact ⟨_, hk.2.1 e⟩
  ·obtain ⟨_, _, _, h, _⟩ := hk.2.2.1 e; exact ⟨_, h⟩
 obtain ⟨d, hd⟩ := hd
 refine ⟨r', ?_, ?_⟩
 ·by_cases e : kd = 100
  ·subst e
   obtain ⟨e, i, j, h1, h2, h3, h4⟩ := hk.2.2.1 rfl
   simp only [Instr.findKey, Sem.run_bind, runUnder h1, Result.andThen_ok]
   cases hl : es.toList with
   | nil =>
    have := g2 rfl w
    rw [hl] at this
    simp [Instr.findAsking] at this
    simp [Instr.findNow, this]
   | cons q qs =>
    have hn : Instr.findNow (.array 2 e) vx (q :: qs) 0 = none := by
     cases hkx with
     | arr => simp [Instr.findNow, Instr.sameNow]
    rw [hn]
    simp only
    rw [← hl]
    exact g2 rfl w
  ·simp [Instr.findKey, runUnder hd, g1 d hd e]
 ·cases r with
  | none => exact g3
  | some p =>
   obtain ⟨j, v⟩ := p
   obtain ⟨_, p2, p3, p4, p5, p6⟩ := g3
   simp only [Nat.sub_zero] at p2 p3 p4 p5 p6
   exact ⟨p2, p3, p4, p5, p6⟩
theorem keyEq {kd : Nat} {x y : V} {vx vy : Value} (he : eqKey kd x y = some true) (hx : KeyV kd x vx) (hy : KeyV kd y vy) : vx = vy ∧ x = y := by
 cases hx with
 | int k a =>
  cases hy with
  | int k' a' =>
   simp only [eqKey] at he
   split at he
   ·rename_i h; subst h; simp at he; subst he; exact ⟨rfl, rfl⟩
   ·simp at he
 | str s =>
  cases hy with
  | str s' => simp [eqKey] at he; subst he; exact ⟨rfl, rfl⟩
 | arr k l a b =>
  cases hy with
  | arr k' l' a' b' =>
   simp only [eqKey] at he
   split at he
   ·rename_i h; obtain ⟨rfl, rfl⟩ := h; simp at he; obtain ⟨rfl, rfl⟩ := he; exact ⟨rfl, rfl⟩
   ·simp at he
theorem sameBits_key {kd : Nat} {x : V} {vx : Value} (hx : KeyV kd x vx) : Instr.sameBits 10000 vx vx = true := by
 cases hx with
 | int k a => simp [Instr.sameBits]
 | str s => simp [Instr.sameBits, beq_toListBytes]
 | arr k l a b => simp [Instr.sameBits]
theorem key_pure {kd : Nat} {x : V} {vx : Value} (hx : KeyV kd x vx) : RepD H x vx := by
 cases hx with
 | int k a => exact .int _ _
 | str s => exact .str _
 | arr k l a b =>
  have : (#[Value.int k a, .int l b] : Array Value) = [Value.int k a, .int l b].toArray := rfl
  rw [this]
  exact .agg _ _ (.cons _ _ _ _ rfl (.int _ _) (.cons _ _ _ _ rfl (.int _ _) .nil))
end
end Go.Ax
set_option linter.unusedVariables false
set_option linter.unusedSimpArgs false
namespace Go.Ax
attribute [local simp] look_cons
section
variable {P : Program} {T : Nat → Option TI} {M : Mode} {H H' : Heap} {μ μ' : Oid → Option Nat} {F : Fr} {st st' : St} {tm tm' : Nat → Value} {w w' : World} {ρ : Operand → Value}

/-- The map that a name leads to. -/
theorem Rel.mapAt (hr : Rel H μ F st tm w) {u : Oid} {b : Nat} (hb : μ u = some b) {base : Nat} {l : List (V × V)} (ho : st.ob u = some (.map base l)) :
  ∃ es : Array MapEntry, w.heap[b]? = some (.map es (base + l.length)) ∧ RepM H base l es.toList := by
 rcases hr.obs u _ ho rfl with ⟨b', hb', hr⟩ | ⟨e, _⟩
 ·rw [hb] at hb'; injection hb' with hb'; subst hb'; exact hr
 ·simp at e
theorem RepM.set {base : Nat} {l : List (V × V)} {es : Array MapEntry} (h : RepM H base l es.toList) {i : Nat} {k v : V} {f : MapEntry → MapEntry} (hf : ∀ (hi : i < es.size), (f es[i]).born = es[i].born ∧ RepD H k (f es[i]).key ∧ RepD H v (f es[i]).val) :
  RepM H base (setS l i k v) (es.modify i f).toList := by
 have hl := h.len
 refine ⟨by simp [setS, hl], fun j hj hj' => ?_⟩
 have hj1 : j < l.length := by simpa [setS] using hj
 have hj2 : j < es.size := by simpa using hj'
 have hg := h.get j hj1 (by simpa using hj2)
 simp only [setS, List.getElem_modify, Array.getElem_toList, Array.getElem_modify] at hg ⊢
 by_cases e : i = j
 ·subst e
  simp only [if_pos]
  obtain ⟨h1, h2, h3⟩ := hf hj2
  exact ⟨by rw [h1]; exact hg.1, h2, h3⟩
 ·simp only [if_neg e]
  exact hg
theorem RepM.push {base : Nat} {l : List (V × V)} {es : Array MapEntry} (h : RepM H base l es.toList) {k v : V} {q : MapEntry} (h1 : q.born = base + l.length) (h2 : RepD H k q.key) (h3 : RepD H v q.val) :
  RepM H base (l ++ [(k, v)]) (es.push q).toList := by
 have hl : l.length = es.toList.length := h.len
 refine ⟨by rw [List.length_append, Array.toList_push, List.length_append, hl]; rfl, fun j hj hj' => ?_⟩
 simp only [Array.toList_push]
 by_cases e : j < l.length
 ·have := h.get j e (by omega)
  rw [List.getElem_append_left e, List.getElem_append_left (by omega)]
  exact this
 ·have hj3 : j = l.length := by rw [List.length_append] at hj; simp only [List.length_cons, List.length_nil] at hj; omega
  subst hj3
  rw [List.getElem_append_right (by omega), List.getElem_append_right (by omega)]
  simp only [hl, Nat.sub_self, List.getElem_cons_zero] at h1 ⊢
  exact ⟨h1, h2, h3⟩
theorem out_map (hr : Rel H μ F st tm w) {s : Sem Next} {b : Nat} {u : Oid} (hb : μ u = some b) {base base' : Nat} {l l' : List (V × V)} (ho : st.ob u = some (.map base l)) {es : Array MapEntry} (hm : RepM H base' l' es.toList)
  {x : V} {v : Value} {n : Next} (hs : s.run P w = .ok n { w with heap := w.heap.setIfInBounds b (.map es (base' + l'.length)) }) (hn : n = .value v ∨ n = .skip ∧ v = undef) (hx : RepS H μ x v) (hxo : x.isOwn = false) {dst : Option Nat} :
  Good P H μ F tm w dst ((st.putO u (.map base' l')).app (out dst x)) s := by
 obtain ⟨h1, h2⟩ := hr.setMap (w' := { w with heap := w.heap.setIfInBounds b (.map es (base' + l'.length)) }) hb ho rfl ⟨rfl, rfl, rfl⟩ hm
 exact ⟨H, μ, _, n, v, hs, hn, out_rel' h1 hx hxo, h2⟩

theorem good_makeMap (hr : Rel H μ F st tm w) {o : Oper} {t : TypeId} (ho : o.op = .makeMap t none) {l : List Wr}
  (h : (opS T M o).run st = some (.ws l)) : Good P H μ F tm w o.dst (st.app l) (execOp ρ o) := by
 unfold opS at h
 rw [ho] at h
 dsimp only at h
 split at h
 ·rename_i d hd
  replace h := rd_bind _ _ _ h
  obtain ⟨_, hf, h⟩ := h
  have := rd_pure h
  injection this with this
  subst this
  have ho' := fresh_run hf (.loc d) (by simp)
  have h0 : Rel H μ F st tm { w with heap := w.heap.push (.map #[] 0) } := hr.push _ rfl (Le.refl _) (fun _ _ _ => rfl) (fun k v hv => by rw [hr.noNew] at hv; simp at hv) (fun _ _ => rfl) (by rw [hr.noSize]; exact Nat.zero_le _)
  have h1 := h0.addOb (o := .loc d) (by simp) ho' (x := .map 0 []) rfl (b := w.heap.size) ⟨#[], by simp, by simp, by simp⟩
   (fun u hu => by have := (hr.obLt hu).choose_spec.2.2.2; omega) (fun k => hr.noNew k) (fun hF => absurd (hr.Flt.1 _ hF) (by simp)) (hr.noHold rfl)
   (fun _ _ _ _ _ _ _ _ _ e => by simp at e) (fun j j' b' h1 => by obtain ⟨_, _, _, _, _, _, _, e, _⟩ := h1; simp at e)
  refine ⟨H, updO μ (.loc d) (some w.heap.size), _, _, .map (some w.heap.size), ?_, .inl rfl, ?_, Ext.push (w' := { w with heap := w.heap.push (.map #[] 0) }) F (.map #[] 0) rfl ⟨rfl, rfl, rfl⟩ (Le.refl _) (fun _ _ _ => rfl)⟩
  ·simp only [execOp, ho, Option.map_none, Instr.makeMap, Sem.run_bind, run_newObj, Result.andThen_ok, Sem.run_pure]
  ·rw [hd]
   exact h1.put (.two _ _ (.one _ _ (.mp _ _ (by simp [updO])))) (by simp)
 ·simp [Rd.run] at h

theorem good_lookup (hT : TabOk P T) (hr : Rel H μ F st tm w) (hρ : Env ρ tm) {o : Oper} {t : TypeId} {x k : Operand} {ok : Bool} (ho : o.op = .lookup t x k ok) {l : List Wr}
  (h : (opS T M o).run st = some (.ws l)) : Good P H μ F tm w o.dst (st.app l) (execOp ρ o) := by
 unfold opS at h
 rw [ho] at h
 replace h := rd_bind _ _ _ h
 obtain ⟨ti, hti, h⟩ := h
 have hti := hT _ _ (rd_rOpt hti)
 replace h := rd_bind _ _ _ h
 obtain ⟨vm, hm, h⟩ := h
 replace h := rd_bind _ _ _ h
 obtain ⟨vk, hk, h⟩ := h
 replace h := rd_bind _ _ _ h
 obtain ⟨⟨kd, z⟩, hkv, h⟩ := h
 have hkv := rd_rOpt hkv
 have hrm := ev_rep hr hρ hm
 have hrk := ev_rep hr hρ hk
 dsimp only at h
 split at h
 ·rename_i u
  obtain ⟨b, hb, e⟩ := hrm.mp
  simp only [Rd.run] at h
  split at h
  ·rename_i base l' hob
   replace h := rd_bind _ _ _ h
   obtain ⟨b0, hb0, h⟩ := h
   replace h := rd_bind _ _ _ h
   obtain ⟨r, hf, h⟩ := h
   have hf := rd_rOpt hf
   have hkx := keyV_of (rd_rOpt hb0) hrk
   have := rd_pure h
   injection this with this
   subst this
   obtain ⟨ke, ee, i, zz, g1, g2, g3, g4, g5, g6⟩ := hti.kv _ _ hkv
   obtain ⟨es, m1, m2⟩ := hr.mapAt hb hob
   obtain ⟨r', f1, f2⟩ := findKey_run g2 hrk hkx m2 hf w
   obtain ⟨_, _, hz⟩ := zc_rep (H := H) (μ := μ) g5
   have hzd : RepS H μ z zz := .two _ _ (.one _ _ hz)
   have hzo : z.weak.isOwn = false := weak_not_own z
   have hck := checkKey_run g2 hkx es.isEmpty w
   -- what stands there
   have hv : ∃ (u : Value) (q : V), q = valOf z.weak r ∧ RepS H μ q u ∧ q.isTup = false ∧ (execOp ρ o).run P w = .ok (.value (if ok then Value.tuple #[u, .bool r.isSome] else u)) w ∧ (r = none → u = zz) := by
    cases r with
    | none =>
     dsimp only at f2
     subst f2
     refine ⟨zz, z.weak, rfl, hzd.weak, by cases z <;> simp_all [V.pure1, V.isTup, V.weak], ?_, fun _ => rfl⟩
     simp only [execOp, ho, e, Instr.lookup, Sem.run_bind, runUnder g1, Result.andThen_ok, run_getObjM m1, Sem.run_pure, hck, f1, runZero g3 g4]
     rfl
    | some p =>
     obtain ⟨j, v⟩ := p
     obtain ⟨p1, p2, p3, p4, p5⟩ := f2
     subst p4
     have hg := (m2.get j p1 p2).2.2
     rw [p3] at hg
     refine ⟨es.toList[j].val, v, rfl, .two _ _ (.one _ _ (.data _ _ hg)), hg.notTup, ?_, by simp⟩
     simp only [execOp, ho, e, Instr.lookup, Sem.run_bind, runUnder g1, Result.andThen_ok, run_getObjM m1, Sem.run_pure, hck, f1]
     rfl
   obtain ⟨uv, q, q1, q2, q3, hrun, q4⟩ := hv
   rw [← q1]
   refine good_same hrun ?_
   cases ok with
   | true =>
    simp only [if_true]
    refine out_rel' hr (.tup [q, .bool r.isSome] [uv, .bool r.isSome] (.cons _ _ _ _ (q2.to2' q3) (.cons _ _ _ _ (.one _ _ (.data _ _ (.bool _))) .nil))) rfl
   | false =>
    simp only [Bool.false_eq_true, if_false]
    refine out_rel hr q2 fun sz xs b' off n c e1 e2 => ?_
    exfalso
    -- entries hold data; a zero row is nil
    cases r with
    | none =>
     rw [q1] at e1
     simp only [valOf] at e1
     rw [e1] at hzo
     simp [V.isOwn] at hzo
    | some p =>
     obtain ⟨j, v⟩ := p
     obtain ⟨p1, p2, p3, p4, p5⟩ := f2
     have hg := (m2.get j p1 p2).2.2
     rw [p3] at hg
     rw [q1] at e1
     simp only [valOf] at e1
     rw [e1] at hg
     have := hg.notOwn
     simp [V.isOwn] at this
  ·simp [Rd.run] at h
 ·simp [Rd.run] at h
end
end Go.Ax
set_option linter.unusedVariables false
set_option linter.unusedSimpArgs false
namespace Go.Ax
attribute [local simp] look_cons
section
variable {P : Program} {T : Nat → Option TI} {M : Mode} {H H' : Heap} {μ μ' : Oid → Option Nat} {F : Fr} {st st' : St} {tm tm' : Nat → Value} {w w' : World} {ρ : Operand → Value}

theorem keeps_run {old new : Value} (h : Instr.sameBits 10000 old new = true) (w : World) : (Instr.keyThatStays old new).run P w = .ok new w := by
 simp [Instr.keyThatStays, h]
/-- An entry is written. -/
theorem mapUpdate_run {t kt et : TypeId} (hm : P.underlying t = some (.map kt et)) {kd : Nat} (hk : KeyOk P kd kt) {x : V} {vx : Value} (hx : RepS H μ x vx) (hkx : KeyV kd x vx) {b base : Nat} {l : List (V × V)} {es : Array MapEntry}
  (hb : w.heap[b]? = some (.map es (base + l.length))) (hM : RepM H base l es.toList) {r : Option (Nat × V)} (hf : findS kd x l 0 = some r) {y : V} {vy : Value} (hy : RepD H y vy) :
  ∃ es' : Array MapEntry, (Instr.mapUpdate t (.map (some b)) vx vy).run P w = .ok () { w with heap := w.heap.setIfInBounds b (.map es' (base + (putS l x y r).length)) } ∧
   RepM H base (putS l x y r) es'.toList := by
 obtain ⟨r', f1, f2⟩ := findKey_run hk hx hkx hM hf w
 have hck := checkKey_run hk hkx false w
 cases r with
 | none =>
  dsimp only at f2
  subst f2
  refine ⟨es.push { key := vx, val := vy, born := base + l.length }, ?_, hM.push rfl (key_pure hkx) hy⟩
  simp only [Instr.mapUpdate, Sem.run_bind, runUnder hm, Result.andThen_ok, run_getObjM hb, hck, f1, run_setObjM hb, putS, List.length_append, List.length_cons, List.length_nil, Nat.add_assoc]
 | some p =>
  obtain ⟨i, v⟩ := p
  obtain ⟨p1, p2, p3, p4, p5⟩ := f2
  subst p4
  have hi : i < es.size := by simpa using p2
  have hkey : es[i].key = vx := by
   have hg := (hM.get i p1 p2).2.1
   simp only [Array.getElem_toList] at hg
   have hke : KeyV kd l[i].1 es[i].key := by
    obtain ⟨r0, h0⟩ := eqKey_symm p5
    exact keyV_of h0 (RepS.two (μ := μ) _ _ (.one _ _ (.data _ _ hg)))
   exact (keyEq p5 hkx hke).1.symm
  refine ⟨es.modify i fun e => { e with key := vx, val := vy }, ?_, hM.set fun hi => ⟨rfl, key_pure hkx, hy⟩⟩
  have hke : ((es[i]?).map (·.key)).getD vx = vx := by simp [hi, hkey]
  simp only [Instr.mapUpdate, Sem.run_bind, runUnder hm, Result.andThen_ok, run_getObjM hb, hck, f1, hke, keeps_run (sameBits_key hkx), run_setObjM hb, putS, setS, List.length_modify]
theorem good_mapPut (hT : TabOk P T) (hr : Rel H μ F st tm w) (hρ : Env ρ tm) {o : Oper} {t : TypeId} {m k v : Operand} (ho : o.op = .mapUpdate t m k v ∨ o.op = .insert t m k v) {l : List Wr}
  (h : (mapPut T t m k v o.dst).run st = some (.ws l)) : Good P H μ F tm w o.dst (st.app l) (execOp ρ o) := by
 unfold mapPut at h
 replace h := rd_bind _ _ _ h
 obtain ⟨ti, hti, h⟩ := h
 have hti := hT _ _ (rd_rOpt hti)
 replace h := rd_bind _ _ _ h
 obtain ⟨vm, hm, h⟩ := h
 replace h := rd_bind _ _ _ h
 obtain ⟨vk, hk, h⟩ := h
 replace h := rd_bind _ _ _ h
 obtain ⟨vv, hv, h⟩ := h
 replace h := rd_bind _ _ _ h
 obtain ⟨⟨kd, z⟩, hkv, h⟩ := h
 have hkv := rd_rOpt hkv
 have hrm := ev_rep hr hρ hm
 have hrk := ev_rep hr hρ hk
 have hrv := ev_rep hr hρ hv
 dsimp only at h
 split at h
 ·rename_i u
  obtain ⟨b, hb, e⟩ := hrm.mp
  simp only [Rd.run] at h
  split at h
  ·rename_i base l' hob
   replace h := rd_bind _ _ _ h
   obtain ⟨b0, hb0, h⟩ := h
   replace h := rd_bind _ _ _ h
   obtain ⟨r, hf, h⟩ := h
   have hf := rd_rOpt hf
   have hkx := keyV_of (rd_rOpt hb0) hrk
   split at h
   ·rename_i hc
    obtain ⟨c0, c1, c2, c3⟩ := hc
    obtain ⟨ke, ee, i, zz, g1, g2, g3, g4, g5, g6⟩ := hti.kv _ _ hkv
    obtain ⟨es, m1, m2⟩ := hr.mapAt hb hob
    obtain ⟨es', q1, q2⟩ := mapUpdate_run g1 g2 hrk hkx m1 m2 hf (RepD.of_pure hrv c2)
    have hexec : (execOp ρ o).run P w = .ok .skip { w with heap := w.heap.setIfInBounds b (.map es' (base + (putS l' vk vv.weak r).length)) } := by
     rcases ho with ho | ho
     ·simp only [execOp, ho, e, Sem.run_bind, q1, Result.andThen_ok, Sem.run_pure]
     ·simp only [execOp, ho, e, Sem.run_bind, q1, Result.andThen_ok, Sem.run_pure]
    have := rd_pure h
    injection this with this
    subst this
    rw [c3]
    exact out_map (dst := none) hr hb hob q2 hexec (.inr ⟨rfl, rfl⟩) (x := .tup []) (.tup _ _ .nil) rfl
   ·simp [Rd.run] at h
  ·simp [Rd.run] at h
 ·simp [Rd.run] at h
theorem good_mapEntry (hT : TabOk P T) (hr : Rel H μ F st tm w) (hρ : Env ρ tm) {o : Oper} {t : TypeId} {m k : Operand} (ho : o.op = .mapEntry t m k) {l : List Wr}
  (h : (opS T M o).run st = some (.ws l)) : Good P H μ F tm w o.dst (st.app l) (execOp ρ o) := by
 unfold opS at h
 rw [ho] at h
 replace h := rd_bind _ _ _ h
 obtain ⟨ti, hti, h⟩ := h
 have hti := hT _ _ (rd_rOpt hti)
 replace h := rd_bind _ _ _ h
 obtain ⟨vm, hm, h⟩ := h
 replace h := rd_bind _ _ _ h
 obtain ⟨vk, hk, h⟩ := h
 replace h := rd_bind _ _ _ h
 obtain ⟨⟨kd, z⟩, hkv, h⟩ := h
 have hkv := rd_rOpt hkv
 have hrm := ev_rep hr hρ hm
 have hrk := ev_rep hr hρ hk
 dsimp only at h
 split at h
 ·rename_i u
  obtain ⟨b, hb, e⟩ := hrm.mp
  simp only [Rd.run] at h
  split at h
  ·rename_i base l' hob
   replace h := rd_bind _ _ _ h
   obtain ⟨b0, hb0, h⟩ := h
   replace h := rd_bind _ _ _ h
   obtain ⟨r, hf, h⟩ := h
   have hf := rd_rOpt hf
   have hkx := keyV_of (rd_rOpt hb0) hrk
   obtain ⟨kt, ee, i, zz, g1, g2, g3, g4, g5, g6⟩ := hti.kv _ _ hkv
   obtain ⟨es, m1, m2⟩ := hr.mapAt hb hob
   obtain ⟨r', f1, f2⟩ := findKey_run g2 hrk hkx m2 hf w
   have hck := checkKey_run g2 hkx false w
   obtain ⟨_, _, hz⟩ := zc_rep (H := H) (μ := μ) g5
   have hzd : RepD H z.weak zz := RepD.of_pure (.two _ _ (.one _ _ hz)) (by cases z <;> simp_all [V.pure1, V.pure])
   have := rd_pure h
   injection this with this
   subst this
   -- what the map is then, and what is told
   have key : ∃ (es' : Array MapEntry) (uv : Value), (execOp ρ o).run P w = .ok (.value (.tuple #[uv, .int .i64 (base + idxOf l'.length r : Nat)])) { w with heap := w.heap.setIfInBounds b (.map es' (base + (putS l' vk (valOf z.weak r) r).length)) } ∧
     RepM H base (putS l' vk (valOf z.weak r) r) es'.toList ∧ RepD H (valOf z.weak r) uv := by
    cases r with
    | none =>
     dsimp only at f2
     subst f2
     refine ⟨es.push { key := ρ k, val := zz, born := base + l'.length }, zz, ?_, m2.push rfl (key_pure hkx) hzd, hzd⟩
     simp only [execOp, ho, e, Instr.mapEntry, Sem.run_bind, runUnder g1, Result.andThen_ok, run_getObjM m1, hck, f1, runZero g3 g4, run_setObjM m1, Sem.run_pure, putS, valOf, idxOf, List.length_append, List.length_cons, List.length_nil, Nat.add_assoc, goInt]
    | some p =>
     obtain ⟨i, v⟩ := p
     obtain ⟨p1, p2, p3, p4, p5⟩ := f2
     subst p4
     have hi : i < es.size := by simpa using p2
     have hg := m2.get i p1 p2
     simp only [Array.getElem_toList] at hg
     have hkey : es[i].key = ρ k := by
      have hke : KeyV kd l'[i].1 es[i].key := by
       obtain ⟨r0, h0⟩ := eqKey_symm p5
       exact keyV_of h0 (RepS.two (μ := μ) _ _ (.one _ _ (.data _ _ hg.2.1)))
      exact (keyEq p5 hkx hke).1.symm
     have hke : ((es[i]?).map (·.key)).getD (ρ k) = ρ k := by simp [hi, hkey]
     have hbo : ((es[i]?).map (fun x => (x.born : Int))).getD 0 = ((base + i : Nat) : Int) := by simp [hi, hg.1]
     refine ⟨es.modify i fun e => { e with key := ρ k }, es[i].val, ?_, m2.set fun hi => ⟨rfl, key_pure hkx, by rw [← p3]; exact hg.2.2⟩, by simp only [valOf]; rw [← p3]; exact hg.2.2⟩
     simp only [execOp, ho, e, Instr.mapEntry, Sem.run_bind, runUnder g1, Result.andThen_ok, run_getObjM m1, hck, f1, hke, hbo, keeps_run (sameBits_key hkx), run_setObjM m1, Sem.run_pure, putS, valOf, idxOf, setS, List.length_modify, goInt, Array.getElem_toList]
   obtain ⟨es', uv, k1, k2, k3⟩ := key
   exact out_map hr hb hob k2 k1 (.inl rfl) (.tup [valOf z.weak r, .int .i64 (base + idxOf l'.length r : Nat)] [uv, .int .i64 (base + idxOf l'.length r : Nat)] (.cons _ _ _ _ (.one _ _ (.data _ _ k3)) (.cons _ _ _ _ (.one _ _ (.data _ _ (.int _ _))) .nil))) rfl
  ·simp [Rd.run] at h
 ·simp [Rd.run] at h
theorem good_entryStore (hr : Rel H μ F st tm w) (hρ : Env ρ tm) {o : Oper} {t : TypeId} {m s v : Operand} (ho : o.op = .entryStore t m s v) {l : List Wr}
  (h : (opS T M o).run st = some (.ws l)) : Good P H μ F tm w o.dst (st.app l) (execOp ρ o) := by
 unfold opS at h
 rw [ho] at h
 replace h := rd_bind _ _ _ h
 obtain ⟨vm, hm, h⟩ := h
 replace h := rd_bind _ _ _ h
 obtain ⟨vs, hs, h⟩ := h
 replace h := rd_bind _ _ _ h
 obtain ⟨vv, hv, h⟩ := h
 have hrm := ev_rep hr hρ hm
 have hrs := ev_rep hr hρ hs
 have hrv := ev_rep hr hρ hv
 split at h
 ·rename_i u k q
  obtain ⟨b, hb, e⟩ := hrm.mp
  have es0 := hrs.int
  simp only [Rd.run] at h
  split at h
  ·rename_i base l' hob
   split at h
   ·rename_i kk vold hget
    split at h
    ·rename_i hc
     obtain ⟨c0, c1, c2, c3⟩ := hc
     simp only [Rd.run] at h
     injection h with h
     injection h with h
     subst h
     obtain ⟨es, m1, m2⟩ := hr.mapAt hb hob
     generalize hi : (q - (base : Int)).toNat = i at hget
     obtain ⟨hlt, hge⟩ := List.getElem?_eq_some_iff.1 hget
     have hl := m2.len
     have hi2 : i < es.size := by simp at hl; omega
     have hg := m2.get i hlt (by simpa using hi2)
     simp only [Array.getElem_toList] at hg
     have hfind : es.findIdx? (fun e => (e.born : Int) == q) = some i := by
      rw [Array.findIdx?_eq_some_iff_getElem]
      refine ⟨hi2, by simp [hg.1]; omega, fun j hj => ?_⟩
      have hgj := (m2.get j (by omega) (by simp; omega)).1
      simp only [Array.getElem_toList] at hgj
      simp [hgj]
      omega
     have hm' : RepM H base (setS l' i kk vv.weak) (es.modify i fun e => { e with val := ρ v }).toList := m2.set fun hi => ⟨rfl, by have := hg.2.1; rw [hge] at this; exact this, RepD.of_pure hrv c0⟩
     have hexec : (execOp ρ o).run P w = .ok .skip { w with heap := w.heap.setIfInBounds b (.map (es.modify i fun e => { e with val := ρ v }) (base + (setS l' i kk vv.weak).length)) } := by
      simp only [execOp, ho, e, es0, Instr.entryStore, asInt, asIntOf, Sem.run_bind, run_getObjM m1, Result.andThen_ok, Sem.run_pure, hfind, run_setObjM m1, setS, List.length_modify]
     rw [c2]
     exact out_map (dst := none) hr hb hob hm' hexec (.inr ⟨rfl, rfl⟩) (x := .tup []) (.tup _ _ .nil) rfl
    ·simp [Rd.run] at h
   ·simp [Rd.run] at h
  ·simp [Rd.run] at h
 ·simp [Rd.run] at h
theorem good_clear (hT : TabOk P T) (hr : Rel H μ F st tm w) (hρ : Env ρ tm) {o : Oper} {args : Array Operand} {at' : Array TypeId} (ho : o.op = .call { callee := .builtin .clear, args := args, argTypes := at' }) {l : List Wr}
  (h : (opS T M o).run st = some (.ws l)) : Good P H μ F tm w o.dst (st.app l) (execOp ρ o) := by
 unfold opS at h
 rw [ho] at h
 replace h := rd_bind _ _ _ h
 obtain ⟨vs, hvs, h⟩ := h
 obtain ⟨h1, h2⟩ := evs_rep hr hρ hvs
 replace h := rd_bind _ _ _ h
 obtain ⟨t, ht, h⟩ := h
 have ht := rd_rOpt ht
 replace h := rd_bind _ _ _ h
 obtain ⟨ti, hti, h⟩ := h
 obtain ⟨d, hd, _⟩ := (hT _ _ (rd_rOpt hti)).und
 split at h
 ·rename_i u
  obtain ⟨x, rfl⟩ := list1 (h1.symm)
  have e1 := (h2 0 (by simp) (by simp)).1
  simp at e1
  obtain ⟨b, hb, e⟩ := e1.mp
  simp only [Rd.run] at h
  split at h
  ·rename_i base l' hob
   simp only [Rd.run] at h
   injection h with h
   injection h with h
   subst h
   obtain ⟨es, m1, m2⟩ := hr.mapAt hb hob
   refine out_map hr hb hob (es := #[]) ⟨by simp, by simp⟩ (n := .value (.tuple #[])) ?_ (.inl rfl) (.tup _ _ .nil) rfl
   simp only [execOp, ho, resolve, Sem.run_bind, Sem.run_pure, Result.andThen_ok, invoke, builtin, List.map_toArray, List.map_cons, List.map_nil, Builtin.clear_, ht, List.getElem?_toArray, List.getElem?_cons_zero, runUnder hd, e, run_getObjM m1, run_setObjM m1,
    List.length_nil, Nat.add_zero]
  ·simp [Rd.run] at h
 ·simp [Rd.run] at h
end
end Go.Ax
set_option linter.unusedVariables false
set_option linter.unusedSimpArgs false
namespace Go.Ax
attribute [local simp] look_cons
section
variable {P : Program} {T : Nat → Option TI} {M : Mode} {H H' : Heap} {μ μ' : Oid → Option Nat} {F : Fr} {st st' : St} {tm tm' : Nat → Value} {w w' : World} {ρ : Operand → Value}

theorem good_min (hr : Rel H μ F st tm w) (hρ : Env ρ tm) {o : Oper} {args : Array Operand} {at' : Array TypeId} (ho : o.op = .call { callee := .builtin .min, args := args, argTypes := at' }) {l : List Wr}
  (h : (opS T M o).run st = some (.ws l)) : Good P H μ F tm w o.dst (st.app l) (execOp ρ o) := by
 unfold opS at h
 rw [ho] at h
 replace h := rd_bind _ _ _ h
 obtain ⟨vs, hvs, h⟩ := h
 obtain ⟨h1, h2⟩ := evs_rep hr hρ hvs
 split at h
 ·rename_i k a k' b
  obtain ⟨x, y, rfl⟩ := list2 (h1.symm)
  have e1 := (h2 0 (by simp) (by simp)).1.int
  have e2 := (h2 1 (by simp) (by simp)).1.int
  simp at e1 e2
  split at h
  ·rename_i hk
   subst hk
   have := rd_pure h
   injection this with this
   subst this
   refine good_val (v := .int k (min a b)) hr ?_ rep_int rfl
   simp only [execOp, ho, resolve, Sem.run_bind, Sem.run_pure, Result.andThen_ok, invoke, builtin, List.map_toArray, List.map_cons, List.map_nil, Builtin.min_, List.foldlM_cons, List.foldlM_nil, e1, e2, Builtin.min2]
   congr 3
   by_cases hab : b < a
   ·rw [if_pos hab]; congr 1; omega
   ·rw [if_neg hab]; congr 1; omega
  ·simp [Rd.run] at h
 ·simp [Rd.run] at h
theorem good_max (hr : Rel H μ F st tm w) (hρ : Env ρ tm) {o : Oper} {args : Array Operand} {at' : Array TypeId} (ho : o.op = .call { callee := .builtin .max, args := args, argTypes := at' }) {l : List Wr}
  (h : (opS T M o).run st = some (.ws l)) : Good P H μ F tm w o.dst (st.app l) (execOp ρ o) := by
 unfold opS at h
 rw [ho] at h
 replace h := rd_bind _ _ _ h
 obtain ⟨vs, hvs, h⟩ := h
 obtain ⟨h1, h2⟩ := evs_rep hr hρ hvs
 split at h
 ·rename_i k a k' b
  obtain ⟨x, y, rfl⟩ := list2 (h1.symm)
  have e1 := (h2 0 (by simp) (by simp)).1.int
  have e2 := (h2 1 (by simp) (by simp)).1.int
  simp at e1 e2
  split at h
  ·rename_i hk
   subst hk
   have := rd_pure h
   injection this with this
   subst this
   refine good_val (v := .int k (max a b)) hr ?_ rep_int rfl
   simp only [execOp, ho, resolve, Sem.run_bind, Sem.run_pure, Result.andThen_ok, invoke, builtin, List.map_toArray, List.map_cons, List.map_nil, Builtin.max_, List.foldlM_cons, List.foldlM_nil, e1, e2, Builtin.max2]
   congr 3
   by_cases hab : b > a
   ·rw [if_pos hab]; congr 1; omega
   ·rw [if_neg hab]; congr 1; omega
  ·simp [Rd.run] at h
 ·simp [Rd.run] at h
theorem bytesOf_some {cs : List V} {s : List UInt8} (h : bytesOf cs = some s) : ∃ ns : List Int, cs = ns.map (.int .u8) ∧ s = ns.map fun n => UInt8.ofNat n.toNat := by
 induction cs generalizing s with
 | nil => simp [bytesOf] at h; subst h; exact ⟨[], rfl, rfl⟩
 | cons c cs ih =>
  unfold bytesOf at h
  split at h
  ·rename_i e; cases e
  ·rename_i n r e
   injection e with e1 e2
   subst e1; subst e2
   rw [Option.map_eq_some_iff] at h
   obtain ⟨s', h1, rfl⟩ := h
   obtain ⟨ns, h2, h3⟩ := ih h1
   exact ⟨n :: ns, by rw [h2]; rfl, by rw [h3]; rfl⟩
  ·simp at h
theorem foldl_push (ns : List Int) : ∀ (a : ByteArray), (ns.foldl (fun r n => r.push (UInt8.ofNat n.toNat)) a).data.toList = a.data.toList ++ ns.map fun n => UInt8.ofNat n.toNat := by
 induction ns with
 | nil => intro a; simp
 | cons n ns ih =>
  intro a
  simp only [List.foldl_cons, ih, List.map_cons]
  simp [ByteArray.push]
theorem good_convert (hT : TabOk P T) (hr : Rel H μ F st tm w) (hρ : Env ρ tm) {o : Oper} {src dst : TypeId} {x : Operand} (ho : o.op = .convert src dst x) {l : List Wr}
  (h : (opS T M o).run st = some (.ws l)) : Good P H μ F tm w o.dst (st.app l) (execOp ρ o) := by
 unfold opS at h
 rw [ho] at h
 replace h := rd_bind _ _ _ h
 obtain ⟨ti, hti, h⟩ := h
 have hti := hT _ _ (rd_rOpt hti)
 replace h := rd_bind _ _ _ h
 obtain ⟨tj, htj, h⟩ := h
 have htj := hT _ _ (rd_rOpt htj)
 replace h := rd_bind _ _ _ h
 obtain ⟨v, hv, h⟩ := h
 have hrv := ev_rep hr hρ hv
 obtain ⟨dd, hdd, _⟩ := htj.und
 split at h
 ·rename_i k' n
  replace h := rd_bind _ _ _ h
  obtain ⟨k, hk, h⟩ := h
  have hk := rd_rOpt hk
  have := rd_pure h
  injection this with this
  subst this
  have e := hrv.int
  refine good_val (v := .int k (k.wrap n)) hr ?_ rep_int rfl
  have hu := hti.ik k hk
  simp only [execOp, ho, e, convert, Sem.run_bind, runUnder hdd, runUnder hu, Result.andThen_ok, Conv.intToInt, Sem.run_pure]
 ·rename_i sz u n
  simp only [Rd.run] at h
  split at h
  ·rename_i cs hob
   replace h := rd_bind _ _ _ h
   obtain ⟨s, hs, h⟩ := h
   have hs := rd_rOpt hs
   split at h
   ·rename_i hc
    obtain ⟨c1, c2, c3⟩ := hc
    have := rd_pure h
    injection this with this
    subst this
    have hd := hti.str c1
    obtain ⟨e, he, heu⟩ := htj.isB c2
    obtain ⟨ns, n1, n2⟩ := bytesOf_some hs
    rcases hrv.sl with ⟨h0, h1⟩ | ⟨b, c, h1, hb, hn, hsz⟩
    ·subst h0
     have hs0 : s = [] := by
      simpa [bytesOf] using hs
     subst hs0
     refine good_val (v := .string ⟨([] : List UInt8).toArray⟩) hr ?_ rep_str rfl
     simp only [execOp, ho, h1]
     simp only [Sem.run_bind, run_convert_bytes_string w src dst e none 0 0 he heu hd, Conv.bytesToString, Sem.run_pure]
     rfl
    ·obtain ⟨vs, ty, hblk, hrep, _⟩ := hr.cellsAt hob hb
     have hlenr := hrep.length
     rw [List.length_take] at hlenr
     have hlen2 : cs.length ≤ vs.size := by simp at hlenr; omega
     have hlc : ns.length = n := by
      have := congrArg List.length n1
      simp at this
      omega
     have hload : (loadCells ⟨b, 0, none⟩ n).run P w = .ok (ns.map (Value.int .u8)).toArray w := by
      refine loadCells_run (fun j hj => ?_) (by simp [hlc])
      rw [Nat.zero_add, cell?_of hblk]
      have hj' : j < ns.length := by simpa using hj
      have hjc : j < cs.length := by omega
      have hg := (hrep.get j hjc (by rw [List.length_take]; simp; omega)).2.2
      have hcj : cs[j] = .int .u8 ns[j] := by
       have := congrArg (fun l => l[j]?) n1
       simp only [List.getElem?_take, List.getElem?_map] at this
       rw [if_pos (by omega), List.getElem?_eq_getElem hjc, List.getElem?_eq_getElem hj'] at this
       simpa using this
      rw [hcj] at hg
      have := (RepS.two _ _ (.one _ _ hg)).int
      simp only [List.getElem_take, Array.getElem_toList] at this
      rw [Array.getElem?_eq_getElem (by omega), this]
      simp
     refine good_val (v := .string ⟨s.toArray⟩) hr ?_ rep_str rfl
     simp only [execOp, ho, h1]
     simp only [Sem.run_bind, run_convert_bytes_string w src dst e (some ⟨b, 0, none⟩) n c he heu hd, run_bytesToString w ⟨b, 0, none⟩ n c ns hload, Result.andThen_ok, Sem.run_pure]
     congr 3
     have := foldl_push ns ByteArray.empty
     rw [n2]
     cases hq : List.foldl (fun r n => r.push (UInt8.ofNat n.toNat)) ByteArray.empty ns with
     | mk d =>
      rw [hq] at this
      simp at this
      congr 1
      apply Array.ext'
      simp [this]
   ·simp [Rd.run] at h
  ·simp [Rd.run] at h
 ·simp [Rd.run] at h
theorem wrap_small {n : Int} (h1 : 0 ≤ n) (h2 : n ≤ 140737488355328) : IntKind.i64.wrap n = n := by
 simp only [IntKind.wrap, IntKind.bits, IntKind.signed]
 have e : (2 : Int) ^ 64 = 18446744073709551616 := by decide
 have e' : (2 : Int) ^ 63 = 9223372036854775808 := by decide
 simp [e, e']
 omega
theorem zcs_len : ∀ {xs : List V} {vs : List Value}, zcs xs vs = true → xs.length = vs.length
 | [], [], _ => rfl
 | x :: xs, v :: vs, h => by simp [zcs] at h; simp [zcs_len h.2]
 | [], _ :: _, h => by simp [zcs] at h
 | _ :: _, [], h => by simp [zcs] at h
theorem flat_get {α : Type} (z : List α) (hz : 0 < z.length) : ∀ (n j : Nat), (List.replicate n z).flatten[j]? = if j < n * z.length then z[j % z.length]? else none := by
 intro n
 induction n with
 | zero => intro j; simp
 | succ n ih =>
  intro j
  rw [List.replicate_succ, List.flatten_cons, List.getElem?_append]
  split
  ·rename_i h
   rw [Nat.mod_eq_of_lt h, if_pos (by rw [Nat.succ_mul]; omega)]
  ·rename_i h
   rw [ih, Nat.succ_mul]
   by_cases hj : j - z.length < n * z.length
   ·rw [if_pos hj, if_pos (by omega)]
    rw [show j % z.length = (j - z.length) % z.length from by rw [Nat.mod_eq_sub_mod (by omega)]]
   ·rw [if_neg hj, if_neg (by omega)]
theorem good_makeSlice (hT : TabOk P T) (hr : Rel H μ F st tm w) (hρ : Env ρ tm) {o : Oper} {t : TypeId} {lo co : Operand} (ho : o.op = .makeSlice t lo co) {l : List Wr}
  (h : (opS T M o).run st = some (.ws l)) : Good P H μ F tm w o.dst (st.app l) (execOp ρ o) := by
 unfold opS at h
 rw [ho] at h
 dsimp only at h
 split at h
 ·rename_i d hd
  replace h := rd_bind _ _ _ h
  obtain ⟨ti, hti, h⟩ := h
  have hti := hT _ _ (rd_rOpt hti)
  replace h := rd_bind _ _ _ h
  obtain ⟨vl, hl, h⟩ := h
  replace h := rd_bind _ _ _ h
  obtain ⟨vc, hc, h⟩ := h
  replace h := rd_bind _ _ _ h
  obtain ⟨⟨sz, bytes⟩, hsz, h⟩ := h
  have hsz := rd_rOpt hsz
  dsimp only at h
  replace h := rd_bind _ _ _ h
  obtain ⟨_, hf, h⟩ := h
  have ho' := fresh_run hf (.loc d) (by simp)
  have hrl := ev_rep hr hρ hl
  have hrc := ev_rep hr hρ hc
  split at h
  ·rename_i k n k' m
   have e1 := hrl.int
   have e2 := hrc.int
   split at h
   ·rename_i hcc
    obtain ⟨c1, c2, c3, c4, c5⟩ := hcc
    subst c1
    have := rd_pure h
    injection this with this
    subst this
    have c4' : sz = ti.ez.length := by rw [hsz] at c4; simpa using c4
    have hsz' : ti.esz = some (ti.ez.length, bytes) := by rw [hsz, c4']
    obtain ⟨e, ie, z, g1, g2, g3, g4, g5, g6, g7, g8⟩ := hti.esz _ _ hsz'
    obtain ⟨e', ie', z', q1, q2, q3, q4⟩ := hti.ez _ _ hsz' (by intro e; rw [e] at g7; simp at g7)
    rw [g1] at q1
    injection q1 with q1
    injection q1 with q1
    subst q1
    rw [g2] at q2
    injection q2 with q2
    subst q2
    rw [g5] at q3
    injection q3 with q3
    subst q3
    have hzr : ∀ {H : Heap} {μ : Oid → Option Nat}, RepC H μ ti.ez z.cells.toList := fun {H μ} => zcs_rep q4
    have hzl := zcs_len q4
    generalize hcells : ((Array.range (n.toNat * ti.ez.length)).map fun i => (if n.toNat * ti.ez.length = 0 then (#[] : Array Value) else z.cells)[i % (if n.toNat * ti.ez.length = 0 then (#[] : Array Value) else z.cells).size]!) = cells
    have hcs : cells.size = n.toNat * ti.ez.length := by rw [← hcells]; simp
    have hflen : (List.replicate n.toNat ti.ez).flatten.length = n.toNat * ti.ez.length := by simp
    have hget : ∀ j, j < n.toNat * ti.ez.length → ∃ h1 : j % ti.ez.length < z.cells.size, cells[j]? = some (z.cells[j % ti.ez.length]) := by
     intro j hj
     have hm := Nat.mod_lt j g7
     have hzs : z.cells.size = ti.ez.length := by simpa using hzl.symm
     refine ⟨by omega, ?_⟩
     rw [← hcells]
     have h0 : ¬ n.toNat * ti.ez.length = 0 := by omega
     simp only [if_neg h0, Array.getElem?_map, Array.getElem?_range, hj, if_true, Option.map_some, hzs]
     rw [getElem!_pos _ _ (by omega)]
    have hrep : RepC H μ (List.replicate n.toNat ti.ez).flatten cells.toList := by
     refine RepC.of_get (by rw [hflen]; simp [hcs]) fun j hj hj' => ?_
     rw [hflen] at hj
     obtain ⟨h1, h2⟩ := hget j hj
     have hm := Nat.mod_lt j g7
     have e1 : (List.replicate n.toNat ti.ez).flatten[j]? = some (ti.ez[j % ti.ez.length]) := by
      rw [flat_get _ g7, if_pos hj, List.getElem?_eq_getElem hm]
     have e2 := (List.getElem?_eq_some_iff.1 e1).2
     have e3 : cells.toList[j] = z.cells[j % ti.ez.length] := by
      rw [Array.getElem_toList]
      exact (Array.getElem?_eq_some_iff.1 h2).2
     rw [e2, e3]
     have := (hzr (H := H) (μ := μ)).get _ hm (by simpa using h1)
     simpa using this
    have hnoown : ∀ (j sz' : Nat) (ys : List V) (b off n' c' : Nat), (List.replicate n.toNat ti.ez).flatten[j]? = some (.own sz' ys) → cells[j]? = some (.slice (some ⟨b, off, none⟩) n' c') → False := by
     intro j sz' ys b off n' c' h1 h2
     have hj : j < n.toNat * ti.ez.length := by rw [← hflen]; exact (List.getElem?_eq_some_iff.1 h1).1
     rw [flat_get _ g7, if_pos hj] at h1
     obtain ⟨h3, h4⟩ := hget j hj
     rw [h4] at h2
     injection h2 with h2
     rcases zcs_own q4 _ _ (z.cells[j % ti.ez.length]) h1 (by rw [Array.getElem?_toList]; exact Array.getElem?_eq_getElem h3) with h5 | h5
     ·simp [V.isOwn] at h5
     ·exact h5 _ _ _ h2
    obtain ⟨n1, n2⟩ := (hr.world (w' := w) rfl).newRowOb (w' := { w with heap := w.heap.push (.cells cells e) }) (o := .loc d) (by simp) ho' (xs := (List.replicate n.toNat ti.ez).flatten) (vs := cells) (ty := e)
     (by rw [List.take_of_length_le (by rw [hflen]; simp [hcs])]; exact hrep)
     (rowOk_iff.2 fun y hy => by
      simp only [List.mem_flatten, List.mem_replicate] at hy
      obtain ⟨l, ⟨_, rfl⟩, hy⟩ := hy
      exact rowOk_iff.1 c5 y hy)
     (fun j j' sz1 ys1 off1 n1 c1 sz2 ys2 off2 n2 c2 b h1 h2 _ _ => (hnoown _ _ _ _ _ _ _ h1 h2).elim)
     (fun j sz' ys b off n' c' h1 h2 => (hnoown _ _ _ _ _ _ _ h1 h2).elim) rfl ⟨rfl, rfl, rfl⟩
    rw [hd]
    have hwr : IntKind.i64.wrap n = n := by
     have hb : (bytes : Int) ≥ 1 := by omega
     have : n * 1 ≤ n * bytes := Int.mul_le_mul_of_nonneg_left hb c2
     exact wrap_small (by omega) (by omega)
    have hbig : ¬ (ie.bytes : Int) * n > 2 ^ 48 := by
     rw [g4, Int.mul_comm]
     have : (2 : Int) ^ 48 = 281474976710656 := by decide
     omega
    refine ⟨_, updO μ (.loc d) (some w.heap.size), _, _, .slice (some ⟨w.heap.size, 0, none⟩) n.toNat n.toNat, ?_, .inl rfl, ?_, n2⟩
    ·have hneg : ¬ n < 0 := by omega
     have hrun : ∀ w : World, (if n.toNat * ti.ez.length = 0 then (pure #[] : Sem (Array Value)) else do pure (← zeroValue e).cells).run P w = .ok (if n.toNat * ti.ez.length = 0 then (#[] : Array Value) else z.cells) w := by
      intro w
      split
      ·rfl
      ·simp only [Sem.run_bind, runZero g2 g5, Result.andThen_ok, Sem.run_pure]
     simp only [execOp, ho, e1, e2, Instr.makeSlice, asInt, asIntOf, Sem.run_bind, runUnder g1, runInfo g2, runSize g2, g3, Result.andThen_ok, Sem.run_pure, hwr, hneg, hbig, decide_false, Bool.or_false, Bool.false_or, Int.lt_irrefl, gt_iff_lt,
      Bool.false_eq_true, if_false, run_askRoom, newRow, run_newObj]
     split
     ·rename_i h0
      simp only [if_pos h0] at hcells
      simp only [Sem.run_bind, Sem.run_pure, Result.andThen_ok, run_newObj, hcells]
     ·rename_i h0
      simp only [if_neg h0] at hcells
      simp only [Sem.run_bind, Sem.run_pure, Result.andThen_ok, runZero g2 g5, run_newObj, hcells]
    ·simp only [St.app]
     exact n1.put (.two _ _ (.one _ _ (.sl _ _ w.heap.size _ _ (by simp [updO]) (Nat.le_refl _) (by simp [Heap.put, hcs])))) (by simp)
   ·simp [Rd.run] at h
  ·simp [Rd.run] at h
 ·simp [Rd.run] at h
end
end Go.Ax
