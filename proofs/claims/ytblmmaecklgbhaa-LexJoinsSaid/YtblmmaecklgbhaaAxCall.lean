/- A part of the proof of a law of this seat: no condition. -/
import Derived.Test.YtblmmaecklgbhaaAxOp11
set_option linter.unusedVariables false
set_option linter.unusedSimpArgs false
namespace Go.Ax
attribute [local simp] look_cons

def noTm : Nat → Value := fun _ => undef
def argTm (vs : List Value) (t : Nat) : Value := (vs[t]?).getD undef

/-- A call's contract: of values and objects; what it answers, what the objects are then, and which are new. -/
structure CallOk (P : Program) (B : Heap) (f : FuncId) (args : List V) (objs : List Ob) (r : V) (objs' news : List Ob) : Prop where
  enter : ∀ (as_ : Array Value) (w : World), (callFunc f as_).run P w = .ok (.enter f as_) w
  len : objs'.length = objs.length
  calls : ∀ (H : Heap) (F : Fr) (w : World) (μ : Oid → Option Nat) (vs : List Value), F.B = B → args.length = vs.length → Rel H μ F (conSt args objs []) (argTm vs) w →
    Calls P f vs.toArray w fun e w' => ∃ v H' μ' F', e = .returned v ∧ F'.F = F.F ∧ F'.B = F.B ∧ (∀ j, j < objs.length → j ∉ mvOf args objs → μ' (.par j) = μ (.par j)) ∧
      Rel H' μ' F' (conSt [r] objs' news) (upd noTm 0 v) w' ∧ Ext F H w H' w'

theorem parObsFrom_ob (objs : List Ob) : ∀ (k : Nat) (o : Oid), lookO o (parObsFrom k objs) = match o with | .par j => if k ≤ j then objs[j - k]? else none | _ => none := by
  induction objs with
  | nil => intro k o; cases o <;> simp [parObsFrom, lookO]
  | cons x r ih =>
    intro k o
    simp only [parObsFrom, lookO]
    cases o with
    | par j =>
      rw [ih]
      by_cases h : k = j
      · subst h; simp
      · simp only [Oid.par.injEq, h, if_false]
        by_cases h2 : k ≤ j
        · rw [if_pos (by omega), if_pos h2, show j - k = (j - (k + 1)) + 1 from by omega, List.getElem?_cons_succ]
        · rw [if_neg (by omega), if_neg h2]
    | _ => simp [ih]
theorem subObsFrom_ob (objs : List Ob) : ∀ (k : Nat) (o : Oid), lookO o (subObsFrom k objs) = match o with | .sub 0 j => if k ≤ j then objs[j - k]? else none | _ => none := by
  induction objs with
  | nil =>
    intro k o
    simp only [subObsFrom, lookO]
    split <;> simp
  | cons x r ih =>
    intro k o
    simp only [subObsFrom, lookO, ih]
    cases o with
    | sub t j =>
      cases t with
      | zero =>
        by_cases h : k = j
        · subst h; simp
        · simp only [Oid.sub.injEq, true_and, h, if_false]
          by_cases h2 : k ≤ j
          · rw [if_pos (by omega), if_pos h2, show j - k = (j - (k + 1)) + 1 from by omega, List.getElem?_cons_succ]
          · rw [if_neg (by omega), if_neg h2]
      | succ t => simp
    | _ => simp
theorem lookO_append (a b : List (Oid × Ob)) (o : Oid) : lookO o (a ++ b) = match lookO o a with | some x => some x | none => lookO o b := by
  induction a with
  | nil => rfl
  | cons x a ih =>
    simp only [List.cons_append, lookO]
    split
    · rfl
    · exact ih
theorem conSt_ob (args : List V) (objs news : List Ob) (o : Oid) : (conSt args objs news).ob o = match o with | .par j => objs[j]? | .sub 0 i => news[i]? | _ => none := by
  simp only [St.ob, conSt, lookO_append, parObsFrom_ob, subObsFrom_ob]
  cases o with
  | par j => cases h : objs[j]? <;> simp [h]
  | sub t j => cases t <;> simp
  | _ => simp
theorem argsFrom_look (args : List V) : ∀ (k t : Nat), look t (argsFrom k args) = if k ≤ t then (args[t - k]?).getD .any else .any := by
  induction args with
  | nil => intro k t; simp [argsFrom, look]
  | cons x r ih =>
    intro k t
    simp only [argsFrom, look, ih]
    by_cases h : k = t
    · subst h; simp
    · rw [if_neg h]
      by_cases h2 : k ≤ t
      · rw [if_pos (by omega), if_pos h2, show t - k = (t - (k + 1)) + 1 from by omega, List.getElem?_cons_succ]
      · rw [if_neg (by omega), if_neg h2]
theorem conSt_tm (args : List V) (objs news : List Ob) (t : Nat) : (conSt args objs news).tm t = (args[t]?).getD .any := by
  simp [conSt, St.tm, argsFrom_look]

theorem place_some {o : Oid} : ∀ {l : List Oid} {j : Nat}, place o l = some j → l[j]? = some o := by
  intro l
  induction l with
  | nil => intro j h; simp [place] at h
  | cons u l ih =>
    intro j h
    simp only [place] at h
    split at h
    · rename_i e; simp at h; subst h; simp [e]
    · cases hp : place o l with
      | none => rw [hp] at h; simp at h
      | some i => rw [hp] at h; simp at h; subst h; simpa using ih hp
theorem place_of {o : Oid} : ∀ {l : List Oid}, o ∈ l → ∃ j, place o l = some j := by
  intro l
  induction l with
  | nil => simp
  | cons u l ih =>
    intro h
    simp only [place]
    split
    · exact ⟨0, rfl⟩
    · rename_i e
      rcases List.mem_cons.1 h with h | h
      · exact absurd h.symm e
      · obtain ⟨j, hj⟩ := ih h; exact ⟨j + 1, by rw [hj]; rfl⟩
theorem dedup_nodup : ∀ (l acc : List Oid), acc.Nodup → (dedup acc l).Nodup := by
  intro l
  induction l with
  | nil => intro acc h; exact h
  | cons o l ih =>
    intro acc h
    simp only [dedup]
    split
    · exact ih _ h
    · rename_i hp
      refine ih _ ?_
      rw [List.nodup_append]
      refine ⟨h, by simp, fun a ha b hb => ?_⟩
      simp at hb
      subst hb
      rintro rfl
      obtain ⟨j, hj⟩ := place_of ha
      rw [hj] at hp
      simp at hp


theorem mvOf_mem {args : List V} {objs : List Ob} {j : Nat} (h : j ∈ mvOf args objs) : True := trivial
/-- What is written, each place once. -/
theorem app_ob_mem {o : Oid} {x : Ob} : ∀ (L : List (Oid × Ob)) (st : St), (∃ y, (o, y) ∈ L) → (∀ y, (o, y) ∈ L → y = x) → (st.app (L.map fun p => Wr.o p.1 p.2)).ob o = some x := by
  intro L
  induction L with
  | nil => intro st h; obtain ⟨y, hy⟩ := h; simp at hy
  | cons p L ih =>
    intro st h hf
    simp only [List.map_cons, St.app]
    by_cases hm : ∃ y, (o, y) ∈ L
    · exact ih _ hm fun y hy => hf y (by simp [hy])
    · have hnm : ∀ (L : List (Oid × Ob)) (st : St), (¬ ∃ y, (o, y) ∈ L) → (st.app (L.map fun p => Wr.o p.1 p.2)).ob o = st.ob o := by
        intro L
        induction L with
        | nil => intro st _; rfl
        | cons q L ih2 =>
          intro st hn
          simp only [List.map_cons, St.app]
          rw [ih2 _ (fun ⟨y, hy⟩ => hn ⟨y, by simp [hy]⟩), St.ob_putO, if_neg]
          rintro rfl
          exact hn ⟨q.2, by simp⟩
      rw [hnm L _ hm, St.ob_putO]
      obtain ⟨y, hy⟩ := h
      rcases List.mem_cons.1 hy with e | e
      · rw [← e] at hf ⊢
        simp only [if_pos]
        rw [hf y (by simp)]
      · exact absurd ⟨y, e⟩ hm
theorem app_ob_not {o : Oid} : ∀ (L : List (Oid × Ob)) (st : St), (¬ ∃ y, (o, y) ∈ L) → (st.app (L.map fun p => Wr.o p.1 p.2)).ob o = st.ob o := by
  intro L
  induction L with
  | nil => intro st _; rfl
  | cons q L ih2 =>
    intro st hn
    simp only [List.map_cons, St.app]
    rw [ih2 _ (fun ⟨y, hy⟩ => hn ⟨y, by simp [hy]⟩), St.ob_putO, if_neg]
    rintro rfl
    exact hn ⟨q.2, by simp⟩
theorem app_tm_o (L : List (Oid × Ob)) : ∀ (st : St) (t : Nat), (st.app (L.map fun p => Wr.o p.1 p.2)).tm t = st.tm t := by
  induction L with
  | nil => intro st t; rfl
  | cons x l ih => intro st t; simp only [List.map_cons, St.app, ih]; rfl
theorem mem_backO {w : Way} {objs news : List Ob} {o : Oid} {x : Ob} : (o, x) ∈ backO w objs news ↔
    (∃ j ∈ w.mv, w.ids[j]? = some o ∧ x = .dead) ∨ (∃ j y, objs[j]? = some y ∧ ofPar w.ids w.mv w.dst (.par j) = some o ∧ x = y.ren (ofPar w.ids w.mv w.dst)) ∨
    ∃ i y, news[i]? = some y ∧ ofPar w.ids w.mv w.dst (.sub 0 i) = some o ∧ x = y.ren (ofPar w.ids w.mv w.dst) := by
  simp only [backO, List.mem_append, List.mem_filterMap, List.append_assoc]
  constructor
  · rintro (⟨j, hj, h⟩ | ⟨⟨y, j⟩, hy, h⟩ | ⟨⟨y, j⟩, hy, h⟩)
    · left
      rw [Option.map_eq_some_iff] at h
      obtain ⟨u, h1, h2⟩ := h
      simp at h2
      exact ⟨j, hj, by rw [h1, h2.1], h2.2.symm⟩
    · right; left
      rw [Option.map_eq_some_iff] at h
      obtain ⟨u, h1, h2⟩ := h
      simp at h2
      rw [List.mem_zipIdx_iff_getElem?] at hy
      exact ⟨j, y, hy, by rw [h1, h2.1], h2.2.symm⟩
    · right; right
      rw [Option.map_eq_some_iff] at h
      obtain ⟨u, h1, h2⟩ := h
      simp at h2
      rw [List.mem_zipIdx_iff_getElem?] at hy
      exact ⟨j, y, hy, by rw [h1, h2.1], h2.2.symm⟩
  · rintro (⟨j, hj, h, rfl⟩ | ⟨j, y, hy, h, rfl⟩ | ⟨j, y, hy, h, rfl⟩)
    · exact .inl ⟨j, hj, by rw [h]; rfl⟩
    · exact .inr (.inl ⟨(y, j), by rw [List.mem_zipIdx_iff_getElem?]; exact hy, by simp only; rw [h]; rfl⟩)
    · exact .inr (.inr ⟨(y, j), by rw [List.mem_zipIdx_iff_getElem?]; exact hy, by simp only; rw [h]; rfl⟩)

section
variable {P : Program} {H H' : Heap} {μ μ' : Oid → Option Nat} {F : Fr} {st st' : St} {tm tm' : Nat → Value} {w w' : World}

/-- Renaming keeps what is told. -/
theorem Rep1.ren {f : Oid → Option Oid} {x : V} {v : Value} (h : Rep1 H μ x v) (hf : ∀ o u b, f o = some u → μ o = some b → μ' u = some b) : Rep1 H μ' (ren1 f x) v := by
  cases h with
  | any => exact .any _
  | nils => exact .nils
  | data _ _ h => cases h <;> exact .data _ _ (by constructor <;> assumption)
  | own0 => exact .own0 _
  | own sz xs b off c hr hc => exact .own sz xs b off c hr hc
  | ref o b off h =>
    simp only [ren1]
    split
    · rename_i u hu; exact .ref _ _ _ (hf _ _ _ hu h)
    · exact .any _
  | sl0 sz o =>
    simp only [ren1]
    split
    · exact .sl0 _ _
    · exact .any _
  | sl sz o b n c h hc hs =>
    simp only [ren1]
    split
    · rename_i u hu; exact .sl _ _ _ _ _ (hf _ _ _ hu h) hc hs
    · exact .any _
  | mp o b h =>
    simp only [ren1]
    split
    · rename_i u hu; exact .mp _ _ (hf _ _ _ hu h)
    · exact .any _
  | eptr cs vs b o0 off h hm => exact .eptr cs vs b o0 off h hm
theorem isCell_ren {f : Oid → Option Oid} {x : V} (h : x.isCell = true) : (ren1 f x).isCell = true := by
  cases x with
  | ref o off => simp only [ren1]; cases f o <;> rfl
  | sl sz o n => simp only [ren1]; cases f o <;> rfl
  | mp o => simp only [ren1]; cases f o <;> rfl
  | _ => exact h
theorem RepC.ren {f : Oid → Option Oid} {xs vs} (h : RepC H μ xs vs) (hf : ∀ o u b, f o = some u → μ o = some b → μ' u = some b) : RepC H μ' (xs.map (ren1 f)) vs := by
  induction xs generalizing vs with
  | nil => cases h; exact .nil
  | cons x xs ih => cases h with | cons _ v _ vs h1 hv h hs => exact .cons _ _ _ _ (isCell_ren h1) hv (h.ren hf) (ih hs)
theorem ren1_data {f : Oid → Option Oid} {x : V} {v : Value} (h : RepD H x v) : ren1 f x = x := by cases h <;> rfl
theorem map_ren1_data {f : Oid → Option Oid} {xs vs} (h : RepL H xs vs) : xs.map (ren1 f) = xs := by
  induction xs generalizing vs with
  | nil => rfl
  | cons x xs ih => cases h with | cons _ v _ vs h1 h hs => simp [ren1_data h, ih hs]
theorem Rep2.ren2 {f : Oid → Option Oid} {x : V} {v : Value} (h : Rep2 H μ x v) (hf : ∀ o u b, f o = some u → μ o = some b → μ' u = some b) : Rep2 H μ' (Go.Ax.ren2 f x) v := by
  cases h with
  | agg cs vs h => exact .agg _ _ (h.ren hf)
  | clo g a b us vs h h' => exact .clo g _ _ us vs (h.ren hf) (h'.ren hf)
  | one _ _ h =>
    by_cases hx : Go.Ax.ren2 f x = ren1 f x
    · rw [hx]; exact .one _ _ (h.ren hf)
    · cases h with
      | data _ _ h =>
        cases h with
        | agg cs vs h => simp only [Go.Ax.ren2]; rw [map_ren1_data h]; exact .one _ _ (.data _ _ (.agg _ _ h))
        | _ => exact absurd rfl hx
      | _ => exact absurd rfl hx
theorem RepT.ren {f : Oid → Option Oid} {xs : List V} {vs : List Value} (h : RepT H μ xs vs) (hf : ∀ o u b, f o = some u → μ o = some b → μ' u = some b) : RepT H μ' (xs.map (Go.Ax.ren2 f)) vs := by
  induction xs generalizing vs with
  | nil => cases h; exact .nil
  | cons x xs ih => cases h with | cons _ v _ vs h hs => exact .cons _ _ _ _ (h.ren2 hf) (ih hs)
theorem RepS.ren {f : Oid → Option Oid} {x : V} {v : Value} (h : RepS H μ x v) (hf : ∀ o u b, f o = some u → μ o = some b → μ' u = some b) : RepS H μ' (renV f x) v := by
  cases h with
  | tup xs vs h => exact .tup _ _ (h.ren hf)
  | two _ _ h =>
    have hx : renV f x = Go.Ax.ren2 f x := by
      cases x <;> first | rfl | (exfalso; cases h with | one _ _ h => cases h with | data _ _ h => cases h)
    rw [hx]
    exact .two _ _ (h.ren2 hf)
theorem ren1_own {f : Oid → Option Oid} {x : V} {sz : Nat} {xs : List V} : ren1 f x = .own sz xs ↔ x = .own sz xs := by
  cases x with
  | ref o off => simp only [ren1]; cases f o <;> simp
  | sl sz o n => simp only [ren1]; cases f o <;> simp
  | mp o => simp only [ren1]; cases f o <;> simp
  | _ => simp [ren1]
theorem renV_own {f : Oid → Option Oid} {x : V} {sz : Nat} {xs : List V} : renV f x = .own sz xs ↔ x = .own sz xs := by
  cases x with
  | ref o off => simp only [renV, Go.Ax.ren2]; cases f o <;> simp
  | sl sz o n => simp only [renV, Go.Ax.ren2]; cases f o <;> simp
  | mp o => simp only [renV, Go.Ax.ren2]; cases f o <;> simp
  | _ => simp [renV, Go.Ax.ren2]
theorem ren_alive {f : Oid → Option Oid} {x : Ob} : (x.ren f).alive = x.alive := by
  cases x with
  | cells row l => cases row <;> rfl
  | _ => rfl
theorem pure1_ren {f : Oid → Option Oid} {x : V} (h : x.pure1 = true) : ren1 f x = x := by cases x <;> simp_all [V.pure1, ren1]
theorem rowOk_ren {f : Oid → Option Oid} {cs : List V} (h : rowOk cs = true) : cs.map (ren1 f) = cs := by
  have := rowOk_iff.1 h
  induction cs with
  | nil => rfl
  | cons x xs ih => simp [pure1_ren (this x (by simp)), ih (rowOk_iff.2 fun y hy => this y (by simp [hy])) (fun y hy => this y (by simp [hy]))]
theorem RepOb.ren {f : Oid → Option Oid} {b : Nat} {x : Ob} (h : RepOb H μ w b x) (hf : ∀ o u b, f o = some u → μ o = some b → μ' u = some b) : RepOb H μ' w b (x.ren f) := by
  cases x with
  | cells row cs =>
    obtain ⟨vs, ty, h1, h2, h3⟩ := h
    have hr := h2.ren hf
    cases row with
    | true =>
      rw [rowOk_ren (h3 rfl)] at hr
      exact ⟨vs, ty, h1, hr, h3⟩
    | false => exact ⟨vs, ty, h1, by rw [List.length_map]; exact hr, by simp⟩
  | map base l => exact h
  | dead => trivial
/-- A row in a renamed object. -/
theorem ren_cells {f : Oid → Option Oid} {x : Ob} {row : Bool} {cs : List V} (h : x.ren f = .cells row cs) : ∃ cs0, x = .cells row cs0 ∧ ∀ (k sz : Nat) (xs : List V), cs[k]? = some (.own sz xs) ↔ cs0[k]? = some (.own sz xs) := by
  cases x with
  | cells r l =>
    cases r with
    | true => simp [Ob.ren] at h; obtain ⟨rfl, rfl⟩ := h; exact ⟨l, rfl, fun _ _ _ => Iff.rfl⟩
    | false =>
      simp [Ob.ren] at h
      obtain ⟨rfl, rfl⟩ := h
      refine ⟨l, rfl, fun k sz xs => ?_⟩
      rw [List.getElem?_map]
      cases l[k]? with
      | none => simp
      | some y => simp [ren1_own]
  | map => simp [Ob.ren] at h
  | dead => simp [Ob.ren] at h
end
end Go.Ax
