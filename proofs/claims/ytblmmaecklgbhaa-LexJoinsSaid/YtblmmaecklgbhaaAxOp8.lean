/- A part of the proof of a law of this seat: no condition. -/
import Derived.Test.YtblmmaecklgbhaaAxOp7
import Derived.Laws.BytesString
set_option linter.unusedVariables false
set_option linter.unusedSimpArgs false
namespace Go.Ax
attribute [local simp] look_cons
section
variable {P : Program} {T : Nat → Option TI} {M : Mode} {H H' : Heap} {μ μ' : Oid → Option Nat} {F : Fr} {st st' : St} {tm tm' : Nat → Value} {w w' : World} {ρ : Operand → Value}

theorem _root_.Go.Ax.RepS.to2' {v : V} {u : Value} (h : RepS H μ v u) (ht : v.isTup = false) : Rep2 H μ v u := by
  cases h with
  | two _ _ h => exact h
  | tup => simp [V.isTup] at ht
theorem RepD.notTup {x : V} {v : Value} (h : RepD H x v) : x.isTup = false := by cases h <;> rfl
theorem RepD.notOwn {x : V} {v : Value} (h : RepD H x v) : x.isOwn = false := by cases h <;> rfl
theorem run_getObjM {r clock : Nat} {es : Array MapEntry} (h : w.heap[r]? = some (.map es clock)) : (getObj r).run P w = .ok (.map es clock) w := by
  simp [getObj, Sem.run, h]
theorem run_setObjM {r clock : Nat} {es : Array MapEntry} (h : w.heap[r]? = some (.map es clock)) (x : Obj) : (setObj r x).run P w = .ok () { w with heap := w.heap.setIfInBounds r x } := by
  simp [setObj, Sem.run, h]

/-- Keys that are compared. -/
inductive KeyV : Nat → V → Value → Prop
  | int (k a) : KeyV 2 (.int k a) (.int k a)
  | str (s : List UInt8) : KeyV 4 (.str s) (.string ⟨s.toArray⟩)
  | arr (k l a b) : KeyV 100 (.agg [.int k a, .int l b]) (.agg #[.int k a, .int l b])
theorem keyV_of {kd : Nat} {x y : V} {r : Bool} (he : eqKey kd x y = some r) {vx : Value} (hx : RepS H μ x vx) : KeyV kd x vx := by
  unfold eqKey at he
  split at he
  · rw [hx.int]; exact .int _ _
  · rw [hx.str]; exact .str _
  · obtain ⟨us, e, hc⟩ := hx.agg_inv
    cases hc with
    | cons _ u1 _ us1 _ _ h1 hs =>
      cases hs with
      | cons _ u2 _ us2 _ _ h2 hs2 =>
        cases hs2
        have e1 := (RepS.two _ _ (.one _ _ h1)).int
        have e2 := (RepS.two _ _ (.one _ _ h2)).int
        subst e1; subst e2
        rw [e]
        exact .arr _ _ _ _
  · simp at he
theorem eqKey_symm {kd : Nat} {x y : V} {r : Bool} (he : eqKey kd x y = some r) : ∃ r', eqKey kd y x = some r' := by
  unfold eqKey at he ⊢
  split at he
  · split at he
    · rename_i h; subst h; simp
    · simp at he
  · simp
  · split at he
    · rename_i h; obtain ⟨rfl, rfl⟩ := h; simp
    · simp at he
  · simp at he
theorem checkKey_gen {kd : Nat} {kt : TypeId} (hk : KeyOk P kd kt) {x : V} {vx : Value} (hx : KeyV kd x vx) (em : Bool) (n : Nat) (w : World) : (Instr.checkKey em (n + 2) kt vx).run P w = .ok () w := by
  cases hx with
  | int k a =>
    obtain ⟨i, hi⟩ := hk.1 rfl
    simp [Instr.checkKey, runUnder hi]
  | str s => simp [Instr.checkKey, runUnder (hk.2.1 rfl)]
  | arr k l a b =>
    obtain ⟨e, i, j, h1, h2, h3, h4⟩ := hk.2.2.1 rfl
    have hp : ∀ (n : Nat) (v : Value), #[Value.int k a, .int l b][n]? = some v → (part e #[.int k a, .int l b] n).run P w = .ok v w := by
      intro n v hv
      unfold part
      simp only [Sem.run_bind]
      rw [show (isAgg e).run P w = .ok false w from by simp [isAgg, runUnder h2]]
      simp [hv]
    have hc : ∀ q m, (Instr.checkKey em (n + 1) e (.int q m)).run P w = .ok () w := fun q m => by simp [Instr.checkKey, runUnder h2]
    rw [Instr.checkKey]
    simp only [Sem.run_bind, runUnder h1, Result.andThen_ok]
    simp [Std.Legacy.Range.forIn_eq_forIn_range', Std.Legacy.Range.size, List.range', runSize h3, h4, hp 0 _ rfl, hp 1 _ rfl, hc]
theorem checkKey_run {kd : Nat} {kt : TypeId} (hk : KeyOk P kd kt) {x : V} {vx : Value} (hx : KeyV kd x vx) (em : Bool) (w : World) : (Instr.checkKey em 10000 kt vx).run P w = .ok () w := checkKey_gen hk hx em 9998 w
/-- Are two keys one? -/
theorem equal_gen {kt : TypeId} (hk : KeyOk P 100 kt) {x y : V} {vx vy : Value} {r : Bool} (he : eqKey 100 x y = some r) (hx : KeyV 100 x vx) (hy : KeyV 100 y vy) (n : Nat) (w : World) : (Op.equalIn (n + 2) kt vx vy).run P w = .ok r w := by
  obtain ⟨e, i, j, h1, h2, h3, h4⟩ := hk.2.2.1 rfl
  cases hx with
  | arr k l a b =>
  cases hy with
  | arr k' l' a' b' =>
  simp only [eqKey] at he
  split at he
  · rename_i hkk
    obtain ⟨rfl, rfl⟩ := hkk
    injection he with he
    have hp : ∀ (c d : Int) (n : Nat) (v : Value), #[Value.int k c, .int l d][n]? = some v → (part e #[.int k c, .int l d] n).run P w = .ok v w := by
      intro c d n v hv
      unfold part
      simp only [Sem.run_bind]
      rw [show (isAgg e).run P w = .ok false w from by simp [isAgg, runUnder h2]]
      simp [hv]
    have hq : ∀ q c d, (Op.equalIn (n + 1) e (.int q c) (.int q d)).run P w = .ok (c == d) w := fun q c d => by rw [Op.equalIn]; simp [runUnder h2]
    rw [Op.equalIn]
    simp only [Sem.run_bind, runUnder h1, Result.andThen_ok]
    subst he
    by_cases e1 : a = a' <;> by_cases e2 : b = b' <;>
      simp [Std.Legacy.Range.forIn_eq_forIn_range', Std.Legacy.Range.size, List.range', runSize h3, h4, hp _ _ 0 _ rfl, hp _ _ 1 _ rfl, hq, e1, e2]
  · simp at he
theorem equal_run {kt : TypeId} (hk : KeyOk P 100 kt) {x y : V} {vx vy : Value} {r : Bool} (he : eqKey 100 x y = some r) (hx : KeyV 100 x vx) (hy : KeyV 100 y vy) (w : World) : (Op.equal kt vx vy).run P w = .ok r w := equal_gen hk he hx hy 9998 w
/-- Where a key stands in a map. -/
theorem findS_run {kd : Nat} {kt : TypeId} (hk : KeyOk P kd kt) {x : V} {vx : Value} (hx : RepS H μ x vx) (hkx : KeyV kd x vx) : ∀ (l : List (V × V)) (es : List MapEntry) (i : Nat) {r : Option (Nat × V)}, l.length = es.length →
    (∀ j (hj : j < l.length) (hj' : j < es.length), RepD H l[j].1 es[j].key) → findS kd x l i = some r →
    ∃ r' : Option (Nat × Value), (∀ d, P.underlying kt = some d → (kd ≠ 100 → Instr.findNow d vx es i = some r')) ∧ (kd = 100 → ∀ w, (Instr.findAsking kt vx es i).run P w = .ok r' w) ∧
      (match r with
        | none => r' = none
        | some (j, v) => i ≤ j ∧ ∃ (h1 : j - i < l.length) (h2 : j - i < es.length), l[j - i].2 = v ∧ r' = some (j, es[j - i].val) ∧ eqKey kd x l[j - i].1 = some true) := by
  intro l
  induction l with
  | nil =>
    intro es i r hl hkey hf
    cases es with
    | cons => simp at hl
    | nil =>
      simp [findS] at hf
      subst hf
      exact ⟨none, fun d hd _ => rfl, fun _ w => by simp [Instr.findAsking], rfl⟩
  | cons e l ih =>
    intro es i r hl hkey hf
    cases es with
    | nil => simp at hl
    | cons q es =>
      have hk0 := hkey 0 (by simp) (by simp)
      simp only [List.getElem_cons_zero] at hk0
      have hkr : ∀ j (hj : j < l.length) (hj' : j < es.length), RepD H l[j].1 es[j].key := fun j hj hj' => hkey (j + 1) (by simpa using hj) (by simpa using hj')
      simp only [findS] at hf
      cases hq : eqKey kd x e.1 with
      | none => rw [hq] at hf; simp at hf
      | some b =>
        rw [hq] at hf
        obtain ⟨b', hb'⟩ := eqKey_symm hq
        have hke := keyV_of hb' (RepS.two (μ := μ) _ _ (.one _ _ (.data _ _ hk0)))
        have hsame : kd ≠ 100 → ∀ d, P.underlying kt = some d → Instr.sameNow d vx q.key = some b := by
          intro hne d hd
          unfold eqKey at hq
          cases hkx with
          | int k a =>
            obtain ⟨i', hi⟩ := hk.1 rfl
            rw [hi] at hd
            injection hd with hd
            subst hd
            cases hke' : e.1 with
            | int k' a' =>
              rw [hke'] at hq hke
              generalize hkv : q.key = kv at hke
              cases hke
              simp only at hq
              split at hq
              · rename_i hkk
                injection hq with hq
                simp [Instr.sameNow, hkk, ← hq]
              · simp at hq
            | _ => rw [hke'] at hq; simp at hq
          | str s =>
            have hi := hk.2.1 rfl
            rw [hi] at hd
            injection hd with hd
            subst hd
            cases hke' : e.1 with
            | str s' =>
              rw [hke'] at hq hke
              generalize hkv : q.key = kv at hke
              cases hke
              simp only [Option.some.injEq] at hq
              simp [Instr.sameNow, beq_toListBytes, bytes_toList, ← hq]
            | _ => rw [hke'] at hq; simp at hq
          | arr => exact absurd rfl hne
        have hask : kd = 100 → ∀ w, (Op.equal kt vx q.key).run P w = .ok b w := by
          intro e100 w
          subst e100
          exact equal_run hk hq hkx hke w
        cases b with
        | true =>
          simp at hf
          subst hf
          refine ⟨some (i, q.val), fun d hd hne => by simp [Instr.findNow, hsame hne d hd], fun e100 w => by simp [Instr.findAsking, hask e100 w], Nat.le_refl _, by simp, by simp, ?_⟩
          simp [hq]
        | false =>
          simp only at hf
          obtain ⟨r', g1, g2, g3⟩ := ih es (i + 1) (by simpa using hl) hkr hf
          refine ⟨r', fun d hd hne => by simp [Instr.findNow, hsame hne d hd, g1 d hd hne], fun e100 w => by simp [Instr.findAsking, hask e100 w, g2 e100 w], ?_⟩
          cases r with
          | none => exact g3
          | some p =>
            obtain ⟨j, v⟩ := p
            obtain ⟨p1, p2, p3, p4, p5, p6⟩ := g3
            have e1 : j - i = (j - (i + 1)) + 1 := by omega
            refine ⟨by omega, by simp; omega, by simp at hl ⊢; omega, ?_⟩
            simp only [e1, List.getElem_cons_succ]
            exact ⟨p4, p5, p6⟩
theorem findKey_run {kd : Nat} {kt : TypeId} (hk : KeyOk P kd kt) {x : V} {vx : Value} (hx : RepS H μ x vx) (hkx : KeyV kd x vx) {base : Nat} {l : List (V × V)} {es : Array MapEntry} (hm : RepM H base l es.toList)
    {r : Option (Nat × V)} (hf : findS kd x l 0 = some r) (w : World) :
    ∃ r' : Option (Nat × Value), (Instr.findKey kt vx es.toList).run P w = .ok r' w ∧
      (match r with
        | none => r' = none
        | some (j, v) => ∃ (h1 : j < l.length) (h2 : j < es.toList.length), l[j].2 = v ∧ r' = some (j, es.toList[j].val) ∧ eqKey kd x l[j].1 = some true) := by
  obtain ⟨r', g1, g2, g3⟩ := findS_run hk hx hkx l es.toList 0 hm.len (fun j hj hj' => (hm.get j hj hj').2.1) hf
  have hd : ∃ d, P.underlying kt = some d := by
    rcases hk.2.2.2 with e | e | e
    · obtain ⟨i, h⟩ := hk.1 e; exact ⟨_, h⟩
    · exact ⟨_, hk.2.1 e⟩
    · obtain ⟨_, _, _, h, _⟩ := hk.2.2.1 e; exact ⟨_, h⟩
  obtain ⟨d, hd⟩ := hd
  refine ⟨r', ?_, ?_⟩
  · by_cases e : kd = 100
    · subst e
      obtain ⟨e, i, j, h1, h2, h3, h4⟩ := hk.2.2.1 rfl
      simp only [Instr.findKey, Sem.run_bind, runUnder h1, Result.andThen_ok]
      cases hl : es.toList with
      | nil =>
        have := g2 rfl w
        rw [hl] at this
        simp [Instr.findAsking] at this
        simp [Instr.findNow, this]
      | cons q qs =>
        have hn : Instr.findNow (.array 2 e) vx (q :: qs) 0 = none := by
          cases hkx with
          | arr => simp [Instr.findNow, Instr.sameNow]
        rw [hn]
        simp only
        rw [← hl]
        exact g2 rfl w
    · simp [Instr.findKey, runUnder hd, g1 d hd e]
  · cases r with
    | none => exact g3
    | some p =>
      obtain ⟨j, v⟩ := p
      obtain ⟨_, p2, p3, p4, p5, p6⟩ := g3
      simp only [Nat.sub_zero] at p2 p3 p4 p5 p6
      exact ⟨p2, p3, p4, p5, p6⟩
theorem keyEq {kd : Nat} {x y : V} {vx vy : Value} (he : eqKey kd x y = some true) (hx : KeyV kd x vx) (hy : KeyV kd y vy) : vx = vy ∧ x = y := by
  cases hx with
  | int k a =>
    cases hy with
    | int k' a' =>
      simp only [eqKey] at he
      split at he
      · rename_i h; subst h; simp at he; subst he; exact ⟨rfl, rfl⟩
      · simp at he
  | str s =>
    cases hy with
    | str s' => simp [eqKey] at he; subst he; exact ⟨rfl, rfl⟩
  | arr k l a b =>
    cases hy with
    | arr k' l' a' b' =>
      simp only [eqKey] at he
      split at he
      · rename_i h; obtain ⟨rfl, rfl⟩ := h; simp at he; obtain ⟨rfl, rfl⟩ := he; exact ⟨rfl, rfl⟩
      · simp at he
theorem sameBits_key {kd : Nat} {x : V} {vx : Value} (hx : KeyV kd x vx) : Instr.sameBits 10000 vx vx = true := by
  cases hx with
  | int k a => simp [Instr.sameBits]
  | str s => simp [Instr.sameBits, beq_toListBytes]
  | arr k l a b => simp [Instr.sameBits]
theorem key_pure {kd : Nat} {x : V} {vx : Value} (hx : KeyV kd x vx) : RepD H x vx := by
  cases hx with
  | int k a => exact .int _ _
  | str s => exact .str _
  | arr k l a b =>
    have : (#[Value.int k a, .int l b] : Array Value) = [Value.int k a, .int l b].toArray := rfl
    rw [this]
    exact .agg _ _ (.cons _ _ _ _ rfl (.int _ _) (.cons _ _ _ _ rfl (.int _ _) .nil))
/-- A key that any key is compared with, or none is there. -/
theorem keyV_of_find {kd : Nat} {x : V} {l : List (V × V)} {r : Option (Nat × V)} (hf : findS kd x l 0 = some r) {vx : Value} (hx : RepS H μ x vx) (hl : l ≠ []) : KeyV kd x vx := by
  cases l with
  | nil => exact absurd rfl hl
  | cons e l =>
    simp only [findS] at hf
    cases hq : eqKey kd x e.1 with
    | none => rw [hq] at hf; simp at hf
    | some b => exact keyV_of hq hx
end
end Go.Ax
