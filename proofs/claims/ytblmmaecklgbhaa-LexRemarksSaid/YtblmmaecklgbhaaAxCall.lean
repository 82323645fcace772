/- A part of the proof of a law of this seat: no condition. -/
import Derived.Test.YtblmmaecklgbhaaAxOp7
set_option linter.unusedVariables false
set_option linter.unusedSimpArgs false
namespace Go.Ax
attribute [local simp] look_cons

def parMap (bs : List Nat) : Oid → Option Nat
  | .par j => bs[j]?
  | .loc _ => none
def noTm : Nat → Value := fun _ => undef

structure RepArgs (H : Heap) (μ : Oid → Option Nat) (args : List V) (vs : List Value) : Prop where
  len : args.length = vs.length
  get : ∀ j (hj : j < args.length) (hj' : j < vs.length), RepS H μ args[j] vs[j]

/-- A call's contract: of values and objects; what it answers, and what the objects are then. -/
structure CallOk (P : Program) (B : Heap) (f : FuncId) (args : List V) (objs : List Ob) (r : V) (objs' : List Ob) : Prop where
  enter : ∀ (as_ : Array Value) (w : World), (callFunc f as_).run P w = .ok (.enter f as_) w
  len : objs'.length = objs.length
  calls : ∀ (H : Heap) (F : Fr) (w : World) (bs : List Nat) (vs : List Value), F.B = B → bs.length = objs.length → (∀ j b, F.G j b → bs[j]? = some b) → Rel H (parMap bs) F ⟨[], parObs objs⟩ noTm w → RepArgs H (parMap bs) args vs →
    Calls P f vs.toArray w fun e w' => ∃ v H', e = .returned v ∧ Rel H' (parMap bs) F ⟨[(0, r)], parObs objs'⟩ (upd noTm 0 v) w' ∧ Ext F H w H' w'

theorem parObsFrom_ob (objs : List Ob) : ∀ (k : Nat) (o : Oid), lookO o (parObsFrom k objs) = match o with | .par j => if k ≤ j then objs[j - k]? else none | .loc _ => none := by
  induction objs with
  | nil => intro k o; cases o <;> simp [parObsFrom, lookO]
  | cons x r ih =>
    intro k o
    simp only [parObsFrom, lookO]
    cases o with
    | loc t => simp [ih]
    | par j =>
      rw [ih]
      by_cases h : k = j
      · subst h; simp
      · simp only [Oid.par.injEq, h, if_false]
        by_cases h2 : k ≤ j
        · rw [if_pos (by omega), if_pos h2, show j - k = (j - (k + 1)) + 1 from by omega, List.getElem?_cons_succ]
        · rw [if_neg (by omega), if_neg h2]
theorem parObs_ob (objs : List Ob) (env : List (Nat × V)) (o : Oid) : (St.mk env (parObs objs)).ob o = match o with | .par j => objs[j]? | .loc _ => none := by
  simp only [St.ob, parObs, parObsFrom_ob]
  cases o <;> simp

theorem place_some {o : Oid} : ∀ {l : List Oid} {j : Nat}, place o l = some j → l[j]? = some o := by
  intro l
  induction l with
  | nil => intro j h; simp [place] at h
  | cons u l ih =>
    intro j h
    simp only [place] at h
    split at h
    · rename_i e; simp at h; subst h; simp [e]
    · cases hp : place o l with
      | none => rw [hp] at h; simp at h
      | some i => rw [hp] at h; simp at h; subst h; simpa using ih hp
theorem place_of {o : Oid} : ∀ {l : List Oid}, o ∈ l → ∃ j, place o l = some j := by
  intro l
  induction l with
  | nil => simp
  | cons u l ih =>
    intro h
    simp only [place]
    split
    · exact ⟨0, rfl⟩
    · rename_i e
      rcases List.mem_cons.1 h with h | h
      · exact absurd h.symm e
      · obtain ⟨j, hj⟩ := ih h; exact ⟨j + 1, by rw [hj]; rfl⟩
theorem dedup_nodup : ∀ (l acc : List Oid), acc.Nodup → (dedup acc l).Nodup := by
  intro l
  induction l with
  | nil => intro acc h; exact h
  | cons o l ih =>
    intro acc h
    simp only [dedup]
    split
    · exact ih _ h
    · rename_i hp
      refine ih _ ?_
      rw [List.nodup_append]
      refine ⟨h, by simp, fun a ha b hb => ?_⟩
      simp at hb
      subst hb
      rintro rfl
      obtain ⟨j, hj⟩ := place_of ha
      rw [hj] at hp
      simp at hp

section
variable {P : Program} {H H' : Heap} {μ μ' : Oid → Option Nat} {F : Fr} {st st' : St} {tm tm' : Nat → Value} {w w' : World}

/-- Renaming keeps what is told. -/
theorem Rep1.ren {f : Oid → Option Oid} {x : V} {v : Value} (h : Rep1 H μ x v) (hf : ∀ o u b, f o = some u → μ o = some b → μ' u = some b) : Rep1 H μ' (ren1 f x) v := by
  cases h with
  | any => exact .any _
  | nils => exact .nils
  | data _ _ h => cases h <;> exact .data _ _ (by constructor <;> assumption)
  | own0 => exact .own0 _
  | own sz xs b off c hr hc => exact .own sz xs b off c hr hc
  | ref o b off h =>
    simp only [ren1]
    split
    · rename_i u hu; exact .ref _ _ _ (hf _ _ _ hu h)
    · exact .any _
  | eptr cs vs b o0 off h hm => exact .eptr cs vs b o0 off h hm
theorem isCell_ren {f : Oid → Option Oid} {x : V} (h : x.isCell = true) : (ren1 f x).isCell = true := by
  cases x with
  | ref o off => simp only [ren1]; cases f o <;> rfl
  | _ => exact h
theorem RepC.ren {f : Oid → Option Oid} {xs vs} (h : RepC H μ xs vs) (hf : ∀ o u b, f o = some u → μ o = some b → μ' u = some b) : RepC H μ' (xs.map (ren1 f)) vs := by
  induction xs generalizing vs with
  | nil => cases h; exact .nil
  | cons x xs ih => cases h with | cons _ v _ vs h1 hv h hs => exact .cons _ _ _ _ (isCell_ren h1) hv (h.ren hf) (ih hs)
theorem ren1_data {f : Oid → Option Oid} {x : V} {v : Value} (h : RepD H x v) : ren1 f x = x := by cases h <;> rfl
theorem map_ren1_data {f : Oid → Option Oid} {xs vs} (h : RepL H xs vs) : xs.map (ren1 f) = xs := by
  induction xs generalizing vs with
  | nil => rfl
  | cons x xs ih => cases h with | cons _ v _ vs h1 h hs => simp [ren1_data h, ih hs]
theorem Rep2.ren2 {f : Oid → Option Oid} {x : V} {v : Value} (h : Rep2 H μ x v) (hf : ∀ o u b, f o = some u → μ o = some b → μ' u = some b) : Rep2 H μ' (Go.Ax.ren2 f x) v := by
  cases h with
  | agg cs vs h => exact .agg _ _ (h.ren hf)
  | clo g a b us vs h h' => exact .clo g _ _ us vs (h.ren hf) (h'.ren hf)
  | one _ _ h =>
    cases h with
    | any => exact .one _ _ (.any _)
    | nils => exact .one _ _ .nils
    | data _ _ h =>
      cases h with
      | agg cs vs h => simp only [Go.Ax.ren2]; rw [map_ren1_data h]; exact .one _ _ (.data _ _ (.agg _ _ h))
      | _ => exact .one _ _ (.data _ _ (by constructor <;> assumption))
    | own0 => exact .one _ _ (.own0 _)
    | own sz xs b off c hr hc => exact .one _ _ (.own sz xs b off c hr hc)
    | ref o b off h =>
      simp only [Go.Ax.ren2]
      split
      · rename_i u hu; exact .one _ _ (.ref _ _ _ (hf _ _ _ hu h))
      · exact .one _ _ (.any _)
    | eptr cs vs b o0 off h hm => exact .one _ _ (.eptr cs vs b o0 off h hm)
theorem RepT.ren {f : Oid → Option Oid} {xs : List V} {vs : List Value} (h : RepT H μ xs vs) (hf : ∀ o u b, f o = some u → μ o = some b → μ' u = some b) : RepT H μ' (xs.map (Go.Ax.ren2 f)) vs := by
  induction xs generalizing vs with
  | nil => cases h; exact .nil
  | cons x xs ih => cases h with | cons _ v _ vs h hs => exact .cons _ _ _ _ (h.ren2 hf) (ih hs)
theorem RepS.ren {f : Oid → Option Oid} {x : V} {v : Value} (h : RepS H μ x v) (hf : ∀ o u b, f o = some u → μ o = some b → μ' u = some b) : RepS H μ' (renV f x) v := by
  cases h with
  | tup xs vs h => exact .tup _ _ (h.ren hf)
  | two _ _ h =>
    have hx : renV f x = Go.Ax.ren2 f x := by
      cases x <;> first | rfl | (exfalso; cases h with | one _ _ h => cases h with | data _ _ h => cases h)
    rw [hx]
    exact .two _ _ (h.ren2 hf)
theorem ren1_own {f : Oid → Option Oid} {x : V} {sz : Nat} {xs : List V} : ren1 f x = .own sz xs ↔ x = .own sz xs := by
  cases x with
  | ref o off => simp only [ren1]; cases f o <;> simp
  | _ => simp [ren1]
theorem renV_own {f : Oid → Option Oid} {x : V} {sz : Nat} {xs : List V} : renV f x = .own sz xs ↔ x = .own sz xs := by
  cases x with
  | ref o off => simp only [renV, Go.Ax.ren2]; cases f o <;> simp
  | _ => simp [renV, Go.Ax.ren2]

/-- What a call passes on. -/
structure Pass (st : St) (μ : Oid → Option Nat) (ids : List Oid) (objs : List Ob) (bs : List Nat) : Prop where
  nodup : ids.Nodup
  lenB : bs.length = ids.length
  lenO : objs.length = ids.length
  ob : ∀ j (hj : j < ids.length) (hj' : j < objs.length), st.ob ids[j] = some objs[j]
  blk : ∀ j (hj : j < ids.length) (hj' : j < bs.length), μ ids[j] = some bs[j]

def passF (B : Heap) (μ : Oid → Option Nat) (st : St) (tm : Nat → Value) (w : World) (ids : List Oid) (bs : List Nat) : Fr :=
  ⟨fun b => b < w.heap.size ∧ b ∉ bs ∧ ∀ o ∈ ids, ∀ j, ¬ Holds μ st tm w (.o o j) b, fun j b => bs[j]? = some b, B⟩

theorem Pass.toPar {ids objs bs} (p : Pass st μ ids objs bs) : ∀ o u b, Go.Ax.toPar ids o = some u → μ o = some b → parMap bs u = some b := by
  intro o u b h1 h2
  simp only [Go.Ax.toPar] at h1
  cases hp : place o ids with
  | none => rw [hp] at h1; simp at h1
  | some j =>
    rw [hp] at h1
    simp at h1
    subst h1
    have hj := place_some hp
    obtain ⟨hlt, he⟩ := List.getElem?_eq_some_iff.1 hj
    have := p.blk j hlt (by rw [p.lenB]; exact hlt)
    rw [he, h2] at this
    simp only [parMap]
    rw [List.getElem?_eq_getElem (by rw [p.lenB]; exact hlt), ← this]
theorem Pass.ofPar {ids objs bs} (p : Pass st μ ids objs bs) : ∀ o u b, Go.Ax.ofPar ids o = some u → parMap bs o = some b → μ u = some b := by
  intro o u b h1 h2
  cases o with
  | loc t => simp [parMap] at h2
  | par j =>
    simp only [Go.Ax.ofPar] at h1
    simp only [parMap] at h2
    obtain ⟨hlt, he⟩ := List.getElem?_eq_some_iff.1 h1
    obtain ⟨hlt', he'⟩ := List.getElem?_eq_some_iff.1 h2
    have := p.blk j hlt hlt'
    rw [he, he'] at this
    exact this

/-- The callee's state. -/
theorem Pass.pre {ids objs bs} (p : Pass st μ ids objs bs) (hr : Rel H μ F st tm w) :
    Rel H (parMap bs) (passF F.B μ st tm w ids bs) ⟨[], parObs (objs.map (Ob.ren (Go.Ax.toPar ids)))⟩ noTm w := by
  have hob : ∀ o, (St.mk [] (parObs (objs.map (Ob.ren (Go.Ax.toPar ids))))).ob o = match o with | .par j => (objs[j]?).map (Ob.ren (Go.Ax.toPar ids)) | .loc _ => none := by
    intro o
    rw [parObs_ob]
    cases o <;> simp
  have hat : ∀ ℓ sz xs b off n c, atL (parMap bs) ⟨[], parObs (objs.map (Ob.ren (Go.Ax.toPar ids)))⟩ noTm w ℓ (.own sz xs) (.slice (some ⟨b, off, none⟩) n c) →
      ∃ (j k : Nat) (hj : j < ids.length), ℓ = .o (.par j) k ∧ atL μ st tm w (.o ids[j] k) (.own sz xs) (.slice (some ⟨b, off, none⟩) n c) := by
    intro ℓ sz xs b off n c hl
    cases ℓ with
    | t m => simp [atL, St.tm, look] at hl
    | o o k =>
      obtain ⟨cs, b', h1, h2, h3, h4⟩ := hl
      rw [hob] at h1
      cases o with
      | loc t => simp at h1
      | par j =>
        simp only at h1
        cases ho : objs[j]? with
        | none => rw [ho] at h1; simp at h1
        | some x =>
          rw [ho] at h1
          obtain ⟨hlt, he⟩ := List.getElem?_eq_some_iff.1 ho
          have hj : j < ids.length := by rw [← p.lenO]; exact hlt
          refine ⟨j, k, hj, rfl, ?_⟩
          cases x with
          | cells cs0 =>
            simp [Ob.ren] at h1
            subst h1
            simp only [List.getElem?_map] at h3
            cases hk : cs0[k]? with
            | none => rw [hk] at h3; simp at h3
            | some y =>
              rw [hk] at h3
              simp at h3
              rw [ren1_own] at h3
              subst h3
              simp only [parMap] at h2
              obtain ⟨hlt2, he2⟩ := List.getElem?_eq_some_iff.1 h2
              exact ⟨cs0, b', by rw [p.ob j hj hlt, he], by rw [p.blk j hj hlt2, he2], hk, h4⟩
  refine ⟨fun t => .two _ _ (.one _ _ (.any _)), hr.heap, ?_, ?_, ?_, ?_, ?_, fun b hb => hb.1, ?_, ?_, fun j b hb => hb, hr.base⟩
  · intro o ho
    rw [hob] at ho
    cases o with
    | loc t => rfl
    | par j =>
      simp at ho
      simp only [parMap]
      rw [List.getElem?_eq_none (by rw [p.lenB, ← p.lenO]; exact ho)]
  · intro o x hx
    rw [hob] at hx
    cases o with
    | loc t => simp at hx
    | par j =>
      simp only at hx
      cases ho : objs[j]? with
      | none => rw [ho] at hx; simp at hx
      | some y =>
        rw [ho] at hx
        simp at hx
        subst hx
        obtain ⟨hlt, he⟩ := List.getElem?_eq_some_iff.1 ho
        have hj : j < ids.length := by rw [← p.lenO]; exact hlt
        have hjb : j < bs.length := by rw [p.lenB]; exact hj
        obtain ⟨b, hb, hrep⟩ := hr.obs _ _ (p.ob j hj hlt)
        rw [p.blk j hj hjb] at hb
        injection hb with hb
        refine ⟨b, by simp [parMap, hjb, hb], ?_⟩
        rw [he] at hrep
        cases y with
        | cells cs =>
          obtain ⟨vs, ty, g1, g2⟩ := hrep
          exact ⟨vs, ty, g1, g2.ren p.toPar⟩
  · intro o o' b h1 h2
    cases o with
    | loc t => simp [parMap] at h1
    | par j =>
      cases o' with
      | loc t => simp [parMap] at h2
      | par j' =>
        simp only [parMap] at h1 h2
        obtain ⟨l1, e1⟩ := List.getElem?_eq_some_iff.1 h1
        obtain ⟨l2, e2⟩ := List.getElem?_eq_some_iff.1 h2
        have m1 := p.blk j (by rw [← p.lenB]; exact l1) l1
        have m2 := p.blk j' (by rw [← p.lenB]; exact l2) l2
        rw [e1] at m1
        rw [e2] at m2
        have := hr.inj _ _ _ m1 m2
        have := (List.getElem_inj p.nodup).1 this
        rw [this]
  · intro o b hb k
    cases o with
    | loc t => simp [parMap] at hb
    | par j =>
      simp only [parMap] at hb
      obtain ⟨l1, e1⟩ := List.getElem?_eq_some_iff.1 hb
      have m1 := p.blk j (by rw [← p.lenB]; exact l1) l1
      rw [e1] at m1
      exact hr.objH _ _ m1 k
  · intro o b hb hF
    cases o with
    | loc t => simp [parMap] at hb
    | par j =>
      simp only [parMap] at hb
      exact hF.2.1 (List.mem_of_getElem? hb)
  · intro ℓ sz xs b off n c hl
    obtain ⟨j, k, hj, rfl, hl2⟩ := hat _ _ _ _ _ _ _ hl
    obtain ⟨g1, g2, g3, g4⟩ := hr.own _ _ _ _ _ _ _ hl2
    refine ⟨g1, g2, fun o ho => ?_, fun hF => hF.2.2 _ (List.getElem_mem hj) k ⟨_, _, _, _, _, hl2⟩⟩
    cases o with
    | loc t => simp [parMap] at ho
    | par j' =>
      simp only [parMap] at ho
      obtain ⟨l1, e1⟩ := List.getElem?_eq_some_iff.1 ho
      have m1 := p.blk j' (by rw [← p.lenB]; exact l1) l1
      rw [e1] at m1
      exact g3 _ m1
  · rintro ℓ ℓ' b ⟨sz1, xs1, off1, n1, c1, h1⟩ ⟨sz2, xs2, off2, n2, c2, h2⟩
    obtain ⟨j, k, hj, rfl, h3⟩ := hat _ _ _ _ _ _ _ h1
    obtain ⟨j', k', hj', rfl, h4⟩ := hat _ _ _ _ _ _ _ h2
    have := hr.ownInj _ _ _ ⟨_, _, _, _, _, h3⟩ ⟨_, _, _, _, _, h4⟩
    simp only [Loc.o.injEq] at this
    obtain ⟨e1, e2⟩ := this
    have := (List.getElem_inj p.nodup).1 e1
    rw [this, e2]

/-- What a call's writes leave. -/
theorem back_ob {ids : List Oid} (hn : ids.Nodup) : ∀ (objs : List Ob) (st : St) (f : Oid → Option Oid), objs.length = ids.length → ∀ o,
    (st.app ((ids.zip objs).map (fun x => Wr.o x.1 (x.2.ren f)))).ob o = match place o ids with | some j => (objs[j]?).map (Ob.ren f) | none => st.ob o := by
  induction ids with
  | nil => intro objs st f _ o; simp [St.app, place]
  | cons u ids ih =>
    intro objs st f hl o
    cases objs with
    | nil => simp at hl
    | cons x objs =>
      simp only [List.zip_cons_cons, List.map_cons, St.app]
      have hn' := List.nodup_cons.1 hn
      rw [ih hn'.2 objs _ f (by simpa using hl) o]
      simp only [place]
      by_cases e : u = o
      · subst e
        rw [if_pos rfl]
        cases hp : place u ids with
        | some j => exact absurd (List.mem_of_getElem? (place_some hp)) hn'.1
        | none => simp [St.ob_putO]
      · rw [if_neg e]
        cases hp : place o ids with
        | some j => simp
        | none => simp [St.ob_putO, e]
theorem back_tm (l : List (Oid × Ob)) (f : Oid → Option Oid) : ∀ (st : St) (t : Nat), (st.app (l.map (fun x => Wr.o x.1 (x.2.ren f)))).tm t = st.tm t := by
  induction l with
  | nil => intro st t; rfl
  | cons x l ih => intro st t; simp only [List.map_cons, St.app, ih]; rfl

/-- The caller's state behind the call. -/
theorem Pass.post {ids objs bs objs' r v dst} (p : Pass st μ ids objs bs) (hr : Rel H μ F st tm w) (hlen : objs'.length = ids.length)
    (h : Rel H' (parMap bs) (passF F.B μ st tm w ids bs) ⟨[(0, r)], parObs objs'⟩ (upd noTm 0 v) w') (hx : Ext (passF F.B μ st tm w ids bs) H w H' w') :
    Rel H' μ F (st.app (back ids dst r objs')) (after dst tm v) w' ∧ Ext F H w H' w' := by
  have hFF : ∀ b, F b → passF F.B μ st tm w ids bs b := by
    intro b hb
    refine ⟨hr.Flt b hb, fun hm => ?_, fun o _ j hh => ?_⟩
    · obtain ⟨j, hj, e⟩ := List.getElem_of_mem hm
      exact hr.objF _ _ (p.blk j (by rw [← p.lenB]; exact hj) hj) (e ▸ hb)
    · obtain ⟨_, _, _, _, _, hl⟩ := hh
      exact (hr.own _ _ _ _ _ _ _ hl).nofr hb
  refine ⟨?_, hx.sub hFF⟩
  have hplace : ∀ o j, place o ids = some j → ∃ (hj : j < ids.length) (hj' : j < bs.length) (ho : j < objs'.length), ids[j] = o ∧ μ o = some bs[j] := by
    intro o j hp
    obtain ⟨hj, he⟩ := List.getElem?_eq_some_iff.1 (place_some hp)
    exact ⟨hj, by rw [p.lenB]; exact hj, by rw [hlen]; exact hj, he, by rw [← he]; exact p.blk j hj (by rw [p.lenB]; exact hj)⟩
  have hnp : ∀ o b, place o ids = none → μ o = some b → b ∉ bs := by
    intro o b hp hb hm
    obtain ⟨j, hj, e⟩ := List.getElem_of_mem hm
    have hj2 : j < ids.length := by rw [← p.lenB]; exact hj
    have := hr.inj _ _ _ (p.blk j hj2 hj) (e ▸ hb)
    obtain ⟨i, hi⟩ := place_of (this ▸ List.getElem_mem hj2 : o ∈ ids)
    rw [hp] at hi
    simp at hi
  -- blocks that were not passed are as they were
  have hkeep : ∀ o b, place o ids = none → μ o = some b → passF F.B μ st tm w ids bs b := by
    intro o b hp hb
    refine ⟨(hr.obLt hb).choose_spec.2.2, hnp o b hp hb, fun u _ j hh => ?_⟩
    obtain ⟨_, _, _, _, _, hl⟩ := hh
    exact (hr.own _ _ _ _ _ _ _ hl).noobj o hb
  have htm : ∀ t, (st.app (back ids dst r objs')).tm t = if dst = some t then renV (Go.Ax.ofPar ids) r else st.tm t := by
    intro t
    simp only [back, St.app_append]
    cases dst with
    | none => simp [out, St.app, back_tm]
    | some d => simp only [out, St.app, St.tm_put, back_tm, Option.some.injEq]
  have hob : ∀ o, (st.app (back ids dst r objs')).ob o = match place o ids with | some j => (objs'[j]?).map (Ob.ren (Go.Ax.ofPar ids)) | none => st.ob o := by
    intro o
    simp only [back, St.app_append]
    rw [show ((st.app ((ids.zip objs').map fun x => Wr.o x.1 (x.2.ren (Go.Ax.ofPar ids)))).app (out dst (renV (Go.Ax.ofPar ids) r))).ob o = (st.app ((ids.zip objs').map fun x => Wr.o x.1 (x.2.ren (Go.Ax.ofPar ids)))).ob o from by
      cases dst <;> rfl]
    exact back_ob p.nodup objs' st _ hlen o
  have haf : ∀ t, after dst tm v t = if dst = some t then v else tm t := by
    intro t
    cases dst with
    | none => simp [after]
    | some d => simp only [after, upd, Option.some.injEq]; by_cases e : t = d <;> simp [e, eq_comm]
  -- rows: what is new lies in no kept block, what is old in one
  have hat : ∀ ℓ sz xs b off n c, atL μ (st.app (back ids dst r objs')) (after dst tm v) w' ℓ (.own sz xs) (.slice (some ⟨b, off, none⟩) n c) →
      (∃ ℓ', atL (parMap bs) ⟨[(0, r)], parObs objs'⟩ (upd noTm 0 v) w' ℓ' (.own sz xs) (.slice (some ⟨b, off, none⟩) n c) ∧
        ((∃ d, dst = some d ∧ ℓ = .t d ∧ ℓ' = .t 0) ∨ ∃ (j k : Nat) (hj : j < ids.length), ℓ = .o ids[j] k ∧ ℓ' = .o (.par j) k)) ∨
      (atL μ st tm w ℓ (.own sz xs) (.slice (some ⟨b, off, none⟩) n c) ∧ passF F.B μ st tm w ids bs b) := by
    intro ℓ sz xs b off n c hl
    cases ℓ with
    | t m =>
      obtain ⟨h1, h2⟩ := hl
      rw [htm] at h1
      rw [haf] at h2
      by_cases e : dst = some m
      · rw [if_pos e] at h1 h2
        rw [renV_own] at h1
        exact .inl ⟨.t 0, ⟨by simp [St.tm, look, h1], by simp [upd, h2]⟩, .inl ⟨m, e, rfl, rfl⟩⟩
      · rw [if_neg e] at h1 h2
        have hl : atL μ st tm w (.t m) (.own sz xs) (.slice (some ⟨b, off, none⟩) n c) := ⟨h1, h2⟩
        obtain ⟨⟨vs, ty, g1, _⟩, g2, g3, g4⟩ := hr.own _ _ _ _ _ _ _ hl
        refine .inr ⟨hl, (Array.getElem?_eq_some_iff.1 g1).1, fun hm => ?_, fun o ho j hh => ?_⟩
        · obtain ⟨j, hj, e⟩ := List.getElem_of_mem hm
          exact g3 _ (e ▸ p.blk j (by rw [← p.lenB]; exact hj) hj)
        · have := hr.ownInj _ _ _ ⟨_, _, _, _, _, hl⟩ hh
          simp at this
    | o o k =>
      obtain ⟨cs, b', h1, h2, h3, h4⟩ := hl
      rw [hob] at h1
      cases hp : place o ids with
      | some j =>
        rw [hp] at h1
        obtain ⟨hj, hjb, hjo, e1, e2⟩ := hplace o j hp
        simp only [List.getElem?_eq_getElem hjo, Option.map_some] at h1
        cases hx : objs'[j] with
        | cells cs0 =>
          rw [hx] at h1
          simp [Ob.ren] at h1
          subst h1
          simp only [List.getElem?_map] at h3
          cases hk : cs0[k]? with
          | none => rw [hk] at h3; simp at h3
          | some y =>
            rw [hk] at h3
            simp at h3
            rw [ren1_own] at h3
            subst h3
            rw [e2] at h2
            injection h2 with h2
            exact .inl ⟨.o (.par j) k, ⟨cs0, b', by rw [parObs_ob]; simp [hjo, hx], by simp [parMap, hjb, h2], hk, h4⟩, .inr ⟨j, k, hj, by rw [e1], rfl⟩⟩
      | none =>
        rw [hp] at h1
        have hkp := hkeep o b' hp h2
        rw [cell?_eq (hx.frm b' hkp hkp.1)] at h4
        have hl : atL μ st tm w (.o o k) (.own sz xs) (.slice (some ⟨b, off, none⟩) n c) := ⟨cs, b', h1, h2, h3, h4⟩
        obtain ⟨⟨vs, ty, g1, _⟩, g2, g3, g4⟩ := hr.own _ _ _ _ _ _ _ hl
        refine .inr ⟨hl, (Array.getElem?_eq_some_iff.1 g1).1, fun hm => ?_, fun u hu j hh => ?_⟩
        · obtain ⟨j, hj, e⟩ := List.getElem_of_mem hm
          exact g3 _ (e ▸ p.blk j (by rw [← p.lenB]; exact hj) hj)
        · have := hr.ownInj _ _ _ ⟨_, _, _, _, _, hl⟩ hh
          simp only [Loc.o.injEq] at this
          obtain ⟨i, hi⟩ := place_of (this.1 ▸ hu : o ∈ ids)
          rw [hp] at hi
          simp at hi
  refine ⟨fun t => ?_, h.heap, ?_, ?_, hr.inj, ?_, hr.objF, fun b hb => Nat.lt_of_lt_of_le (hr.Flt b hb) hx.size, ?_, ?_, hr.par, hr.base.trans hx.le⟩
  · rw [htm, haf]
    by_cases e : dst = some t
    · rw [if_pos e, if_pos e]
      have := h.env 0
      simp [St.tm, look, upd] at this
      exact this.ren p.ofPar
    · rw [if_neg e, if_neg e]
      exact (hr.env t).mono hx.le (fun _ _ x => x)
  · intro o ho
    rw [hob] at ho
    cases hp : place o ids with
    | some j =>
      rw [hp] at ho
      obtain ⟨hj, hjb, hjo, _⟩ := hplace o j hp
      simp only [List.getElem?_eq_getElem hjo] at ho
      simp at ho
    | none => rw [hp] at ho; exact hr.dom o ho
  · intro o x hxo
    rw [hob] at hxo
    cases hp : place o ids with
    | some j =>
      rw [hp] at hxo
      obtain ⟨hj, hjb, hjo, e1, e2⟩ := hplace o j hp
      simp only [List.getElem?_eq_getElem hjo, Option.map_some, Option.some.injEq] at hxo
      subst hxo
      obtain ⟨b, g1, g2⟩ := h.obs (.par j) objs'[j] (by rw [parObs_ob]; simp [hjo])
      simp [parMap, hjb] at g1
      subst g1
      refine ⟨bs[j], e2, ?_⟩
      cases hy : objs'[j] with
      | cells cs =>
        rw [hy] at g2
        obtain ⟨vs, ty, g3, g4⟩ := g2
        exact ⟨vs, ty, g3, g4.ren p.ofPar⟩
    | none =>
      rw [hp] at hxo
      obtain ⟨b, g1, g2⟩ := hr.obs o x hxo
      have hkp := hkeep o b hp g1
      refine ⟨b, g1, ?_⟩
      cases x with
      | cells cs =>
        obtain ⟨vs, ty, g3, g4⟩ := g2
        exact ⟨vs, ty, by rw [hx.frm b hkp hkp.1]; exact g3, g4.mono hx.le (fun _ _ x => x)⟩
  · intro o b hb k
    cases hp : place o ids with
    | some j =>
      obtain ⟨hj, hjb, hjo, e1, e2⟩ := hplace o j hp
      rw [hb] at e2
      injection e2 with e2
      exact h.objH (.par j) b (by simp [parMap, hjb, e2]) k
    | none =>
      have hkp := hkeep o b hp hb
      rw [hx.frH b hkp hkp.1]
      exact hr.objH o b hb k
  · intro ℓ sz xs b off n c hl
    rcases hat _ _ _ _ _ _ _ hl with ⟨ℓ', hl', _⟩ | ⟨hl', hkp⟩
    · obtain ⟨g1, g2, g3, g4⟩ := h.own _ _ _ _ _ _ _ hl'
      refine ⟨g1, g2, fun o ho => ?_, fun hF => g4 (hFF b hF)⟩
      cases hp : place o ids with
      | some j =>
        obtain ⟨hj, hjb, hjo, e1, e2⟩ := hplace o j hp
        rw [ho] at e2
        injection e2 with e2
        exact g3 (.par j) (by simp [parMap, hjb, e2])
      | none => exact g4 (hkeep o b hp ho)
    · obtain ⟨⟨vs, ty, g1, g1'⟩, g2, g3, g4⟩ := hr.own _ _ _ _ _ _ _ hl'
      exact ⟨⟨vs, ty, by rw [hx.frm b hkp hkp.1]; exact g1, g1'⟩, fun k hk => by rw [hx.frH b hkp hkp.1]; exact g2 k hk, g3, g4⟩
  · rintro ℓ ℓ' b ⟨sz1, xs1, off1, n1, c1, h1⟩ ⟨sz2, xs2, off2, n2, c2, h2⟩
    rcases hat _ _ _ _ _ _ _ h1 with ⟨q1, a1, a2⟩ | ⟨a1, k1⟩ <;> rcases hat _ _ _ _ _ _ _ h2 with ⟨q2, b1, b2⟩ | ⟨b1, k2⟩
    · have := h.ownInj _ _ _ ⟨_, _, _, _, _, a1⟩ ⟨_, _, _, _, _, b1⟩
      subst this
      rcases a2 with ⟨d, e1, e2, e3⟩ | ⟨j, k, hj, e2, e3⟩ <;> rcases b2 with ⟨d', e1', e2', e3'⟩ | ⟨j', k', hj', e2', e3'⟩
      · rw [e2, e2']
        rw [e1] at e1'
        injection e1' with e1'
        rw [e1']
      · rw [e3] at e3'; simp at e3'
      · rw [e3] at e3'; simp at e3'
      · rw [e3] at e3'
        simp at e3'
        obtain ⟨rfl, rfl⟩ := e3'
        rw [e2, e2']
    · exact absurd k2 (h.own _ _ _ _ _ _ _ a1).nofr
    · exact absurd k1 (h.own _ _ _ _ _ _ _ b1).nofr
    · exact hr.ownInj _ _ _ ⟨_, _, _, _, _, a1⟩ ⟨_, _, _, _, _, b1⟩
end
end Go.Ax
