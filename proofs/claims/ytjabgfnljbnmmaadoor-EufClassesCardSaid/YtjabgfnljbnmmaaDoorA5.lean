/- A part of the proof of a law of this seat: no condition. -/
import Derived.Test.YtjabgfnljbnmmaaDoorA4
import Derived.Tactics
set_option linter.unusedVariables false
set_option linter.unusedSimpArgs false
namespace Go.Ax
attribute [local simp] look_cons

def noTm : Nat → Value := fun _ => undef
def argTm (vs : List Value) (t : Nat) : Value := (vs[t]?).getD undef

/-- A call's contract: of values and objects; what it answers, what the objects are then, and which are new. -/
structure CallM (P : Program) (B : Heap) (mv : List Nat) (f : FuncId) (args : List V) (objs : List Ob) (r : V) (objs' news : List Ob) : Prop where
 enter : ∀ (as_ : Array Value) (w : World), (callFunc f as_).run P w = .ok (.enter f as_) w
 len : objs'.length = objs.length
 calls : ∀ (H : Heap) (F : Fr) (w : World) (μ : Oid → Option Nat) (vs : List Value), F.B = B → args.length = vs.length → Rel H μ F (conSt args objs []) (argTm vs) w →
  Calls P f vs.toArray w fun e w' => ∃ v H' μ' F', e = .returned v ∧ F'.F = F.F ∧ F'.B = F.B ∧ (∀ j, j < objs.length → j ∉ mv → μ' (.par j) = μ (.par j)) ∧
   Rel H' μ' F' (conSt [r] objs' news) (upd noTm 0 v) w' ∧ Ext F H w H' w'
/-- Rows that objects hold may lie elsewhere behind the call. -/
abbrev CallOk (P : Program) (B : Heap) (f : FuncId) (args : List V) (objs : List Ob) (r : V) (objs' news : List Ob) : Prop := CallM P B (mvOf args objs) f args objs r objs' news
/-- What the calls of a body may lean on: contracts; and at f + 1000000 those that leave all as it is. -/
def COk (P : Program) (B : Heap) (f : FuncId) (args : List V) (objs : List Ob) (r : V) (objs' news : List Ob) : Prop :=
 cond (Nat.blt f 1000000) (CallOk P B f args objs r objs' news) (objs' = [] ∧ news = [] ∧ CallM P B [] (f - 1000000) args objs r objs [])

theorem COk.lt {P : Program} {B : Heap} {f : FuncId} {args : List V} {objs : List Ob} {r : V} {objs' news : List Ob} (h : f < 1000000) : COk P B f args objs r objs' news = CallOk P B f args objs r objs' news := by
 have : Nat.blt f 1000000 = true := Nat.ble_eq_true_of_le h
 unfold COk
 rw [this]
 rfl
theorem COk.ge {P : Program} {B : Heap} {f : FuncId} {args : List V} {objs : List Ob} {r : V} {objs' news : List Ob} (h : 1000000 ≤ f) : COk P B f args objs r objs' news = (objs' = [] ∧ news = [] ∧ CallM P B [] (f - 1000000) args objs r objs []) := by
 have : Nat.blt f 1000000 = false := by
  cases e : Nat.blt f 1000000 with
  | false => rfl
  | true => exact absurd (Nat.le_of_ble_eq_true e) (Nat.not_le_of_gt (Nat.lt_succ_of_le h))
 unfold COk
 rw [this]
 rfl

theorem parObsFrom_ob (objs : List Ob) : ∀ (k : Nat) (o : Oid), lookO o (parObsFrom k objs) = match o with | .par j => if k ≤ j then objs[j - k]? else none | _ => none := by
 induction objs with
 | nil => intro k o; cases o <;> simp [parObsFrom, lookO]
 | cons x r ih =>
  intro k o
  simp only [parObsFrom, lookO]
  cases o with
  | par j =>
   rw [ih]
   by_cases h : k = j
   ·subst h; simp
   ·simp only [Oid.par.injEq, h, if_false]
    by_cases h2 : k ≤ j
    ·rw [if_pos (by omega), if_pos h2, show j - k = (j - (k + 1)) + 1 from by omega, List.getElem?_cons_succ]
    ·rw [if_neg (by omega), if_neg h2]
  | _ => simp [ih]
theorem subObsFrom_ob (objs : List Ob) : ∀ (k : Nat) (o : Oid), lookO o (subObsFrom k objs) = match o with | .sub 0 j => if k ≤ j then objs[j - k]? else none | _ => none := by
 induction objs with
 | nil =>
  intro k o
  simp only [subObsFrom, lookO]
  split <;> simp
 | cons x r ih =>
  intro k o
  simp only [subObsFrom, lookO, ih]
  cases o with
  | sub t j =>
   cases t with
   | zero =>
    by_cases h : k = j
    ·subst h; simp
    ·simp only [Oid.sub.injEq, true_and, h, if_false]
     by_cases h2 : k ≤ j
     ·rw [if_pos (by omega), if_pos h2, show j - k = (j - (k + 1)) + 1 from by omega, List.getElem?_cons_succ]
     ·rw [if_neg (by omega), if_neg h2]
   | succ t => simp
  | _ => simp
theorem lookO_append (a b : List (Oid × Ob)) (o : Oid) : lookO o (a ++ b) = match lookO o a with | some x => some x | none => lookO o b := by
 induction a with
 | nil => rfl
 | cons x a ih =>
  simp only [List.cons_append, lookO]
  split
  ·rfl
  ·exact ih
theorem conSt_ob (args : List V) (objs news : List Ob) (o : Oid) : (conSt args objs news).ob o = match o with | .par j => objs[j]? | .sub 0 i => news[i]? | _ => none := by
 simp only [St.ob, conSt, lookO_append, parObsFrom_ob, subObsFrom_ob]
 cases o with
 | par j => cases h : objs[j]? <;> simp [h]
 | sub t j => cases t <;> simp
 | _ => simp
theorem argsFrom_look (args : List V) : ∀ (k t : Nat), look t (argsFrom k args) = if k ≤ t then (args[t - k]?).getD .any else .any := by
 induction args with
 | nil => intro k t; simp [argsFrom, look]
 | cons x r ih =>
  intro k t
  simp only [argsFrom, look, ih]
  by_cases h : k = t
  ·subst h; simp
  ·rw [if_neg h]
   by_cases h2 : k ≤ t
   ·rw [if_pos (by omega), if_pos h2, show t - k = (t - (k + 1)) + 1 from by omega, List.getElem?_cons_succ]
   ·rw [if_neg (by omega), if_neg h2]
theorem conSt_tm (args : List V) (objs news : List Ob) (t : Nat) : (conSt args objs news).tm t = (args[t]?).getD .any := by
 simp [conSt, St.tm, argsFrom_look]

theorem place_some {o : Oid} : ∀ {l : List Oid} {j : Nat}, place o l = some j → l[j]? = some o := by
 intro l
 induction l with
 | nil => intro j h; simp [place] at h
 | cons u l ih =>
  intro j h
  simp only [place] at h
  split at h
  ·rename_i e; simp at h; subst h; simp [e]
  ·cases hp : place o l with
   | none => rw [hp] at h; simp at h
   | some i => rw [hp] at h; simp at h; subst h; simpa using ih hp
theorem place_of {o : Oid} : ∀ {l : List Oid}, o ∈ l → ∃ j, place o l = some j := by
 intro l
 induction l with
 | nil => simp
 | cons u l ih =>
  intro h
  simp only [place]
  split
  ·exact ⟨0, rfl⟩
  ·rename_i e
   rcases List.mem_cons.1 h with h | h
   ·exact absurd h.symm e
   ·obtain ⟨j, hj⟩ := ih h; exact ⟨j + 1, by rw [hj]; rfl⟩
theorem dedup_nodup : ∀ (l acc : List Oid), acc.Nodup → (dedup acc l).Nodup := by
 intro l
 induction l with
 | nil => intro acc h; exact h
 | cons o l ih =>
  intro acc h
  simp only [dedup]
  split
  ·exact ih _ h
  ·rename_i hp
   refine ih _ ?_
   rw [List.nodup_append]
   refine ⟨h, by simp, fun a ha b hb => ?_⟩
   simp at hb
   subst hb
   rintro rfl
   obtain ⟨j, hj⟩ := place_of ha
   rw [hj] at hp
   simp at hp


/-- What is written, each place once. -/
theorem app_ob_mem {o : Oid} {x : Ob} : ∀ (L : List (Oid × Ob)) (st : St), (∃ y, (o, y) ∈ L) → (∀ y, (o, y) ∈ L → y = x) → (st.app (L.map fun p => Wr.o p.1 p.2)).ob o = some x := by
 intro L
 induction L with
 | nil => intro st h; obtain ⟨y, hy⟩ := h; simp at hy
 | cons p L ih =>
  intro st h hf
  simp only [List.map_cons, St.app]
  by_cases hm : ∃ y, (o, y) ∈ L
  ·exact ih _ hm fun y hy => hf y (by simp [hy])
  ·have hnm : ∀ (L : List (Oid × Ob)) (st : St), (¬ ∃ y, (o, y) ∈ L) → (st.app (L.map fun p => Wr.o p.1 p.2)).ob o = st.ob o := by
    intro L
    induction L with
    | nil => intro st _; rfl
    | cons q L ih2 =>
     intro st hn
     simp only [List.map_cons, St.app]
     rw [ih2 _ (fun ⟨y, hy⟩ => hn ⟨y, by simp [hy]⟩), St.ob_putO, if_neg]
     rintro rfl
     exact hn ⟨q.2, by simp⟩
   rw [hnm L _ hm, St.ob_putO]
   obtain ⟨y, hy⟩ := h
   rcases List.mem_cons.1 hy with e | e
   ·rw [← e] at hf ⊢
    simp only [if_pos]
    rw [hf y (by simp)]
   ·exact absurd ⟨y, e⟩ hm
theorem app_ob_not {o : Oid} : ∀ (L : List (Oid × Ob)) (st : St), (¬ ∃ y, (o, y) ∈ L) → (st.app (L.map fun p => Wr.o p.1 p.2)).ob o = st.ob o := by
 intro L
 induction L with
 | nil => intro st _; rfl
 | cons q L ih2 =>
  intro st hn
  simp only [List.map_cons, St.app]
  rw [ih2 _ (fun ⟨y, hy⟩ => hn ⟨y, by simp [hy]⟩), St.ob_putO, if_neg]
  rintro rfl
  exact hn ⟨q.2, by simp⟩
theorem app_tm_o (L : List (Oid × Ob)) : ∀ (st : St) (t : Nat), (st.app (L.map fun p => Wr.o p.1 p.2)).tm t = st.tm t := by
 induction L with
 | nil => intro st t; rfl
 | cons x l ih => intro st t; simp only [List.map_cons, St.app, ih]; rfl
theorem mem_backO {w : Way} {objs news : List Ob} {o : Oid} {x : Ob} : (o, x) ∈ backO w objs news ↔
  (∃ j ∈ w.mv, w.ids[j]? = some o ∧ x = .dead) ∨ (∃ j y, objs[j]? = some y ∧ ofPar w.ids w.mv w.dst (.par j) = some o ∧ x = y.ren (ofPar w.ids w.mv w.dst)) ∨
  ∃ i y, news[i]? = some y ∧ ofPar w.ids w.mv w.dst (.sub 0 i) = some o ∧ x = y.ren (ofPar w.ids w.mv w.dst) := by
 simp only [backO, List.mem_append, List.mem_filterMap, List.append_assoc]
 constructor
 ·rintro (⟨j, hj, h⟩ | ⟨⟨y, j⟩, hy, h⟩ | ⟨⟨y, j⟩, hy, h⟩)
  ·left
   rw [Option.map_eq_some_iff] at h
   obtain ⟨u, h1, h2⟩ := h
   simp at h2
   exact ⟨j, hj, by rw [h1, h2.1], h2.2.symm⟩
  ·right; left
   rw [Option.map_eq_some_iff] at h
   obtain ⟨u, h1, h2⟩ := h
   simp at h2
   rw [List.mem_zipIdx_iff_getElem?] at hy
   exact ⟨j, y, hy, by rw [h1, h2.1], h2.2.symm⟩
  ·right; right
   rw [Option.map_eq_some_iff] at h
   obtain ⟨u, h1, h2⟩ := h
   simp at h2
   rw [List.mem_zipIdx_iff_getElem?] at hy
   exact ⟨j, y, hy, by rw [h1, h2.1], h2.2.symm⟩
 ·rintro (⟨j, hj, h, rfl⟩ | ⟨j, y, hy, h, rfl⟩ | ⟨j, y, hy, h, rfl⟩)
  ·exact .inl ⟨j, hj, by rw [h]; rfl⟩
  ·exact .inr (.inl ⟨(y, j), by rw [List.mem_zipIdx_iff_getElem?]; exact hy, by simp only; rw [h]; rfl⟩)
  ·exact .inr (.inr ⟨(y, j), by rw [List.mem_zipIdx_iff_getElem?]; exact hy, by simp only; rw [h]; rfl⟩)

section
variable {P : Program} {H H' : Heap} {μ μ' : Oid → Option Nat} {F : Fr} {st st' : St} {tm tm' : Nat → Value} {w w' : World}

/-- Renaming keeps what is told. -/
theorem Rep1.ren {f : Oid → Option Oid} {x : V} {v : Value} (h : Rep1 H μ x v) (hf : ∀ o u b, f o = some u → μ o = some b → μ' u = some b) : Rep1 H μ' (ren1 f x) v := by
 cases h with
 | any => exact .any _
 | nils => exact .nils
 | data _ _ h => cases h <;> exact .data _ _ (by constructor <;> assumption)
 | own0 => exact .own0 _
 | own sz xs b off c hr hc => exact .own sz xs b off c hr hc
 | ref o b off h =>
  simp only [ren1]
  split
  ·rename_i u hu; exact .ref _ _ _ (hf _ _ _ hu h)
  ·exact .any _
 | sl0 sz o =>
  simp only [ren1]
  split
  ·exact .sl0 _ _
  ·exact .any _
 | sl sz o b n c h hc hs =>
  simp only [ren1]
  split
  ·rename_i u hu; exact .sl _ _ _ _ _ (hf _ _ _ hu h) hc hs
  ·exact .any _
 | mp o b h =>
  simp only [ren1]
  split
  ·rename_i u hu; exact .mp _ _ (hf _ _ _ hu h)
  ·exact .any _
 | eptr cs vs b o0 off h hm => exact .eptr cs vs b o0 off h hm
theorem isCell_ren {f : Oid → Option Oid} {x : V} (h : x.isCell = true) : (ren1 f x).isCell = true := by
 cases x with
 | ref o off => simp only [ren1]; cases f o <;> rfl
 | sl sz o n => simp only [ren1]; cases f o <;> rfl
 | mp o => simp only [ren1]; cases f o <;> rfl
 | _ => exact h
theorem RepC.ren {f : Oid → Option Oid} {xs vs} (h : RepC H μ xs vs) (hf : ∀ o u b, f o = some u → μ o = some b → μ' u = some b) : RepC H μ' (xs.map (ren1 f)) vs := by
 induction xs generalizing vs with
 | nil => cases h; exact .nil
 | cons x xs ih => cases h with | cons _ v _ vs h1 hv h hs => exact .cons _ _ _ _ (isCell_ren h1) hv (h.ren hf) (ih hs)
theorem ren1_data {f : Oid → Option Oid} {x : V} {v : Value} (h : RepD H x v) : ren1 f x = x := by cases h <;> rfl
theorem map_ren1_data {f : Oid → Option Oid} {xs vs} (h : RepL H xs vs) : xs.map (ren1 f) = xs := by
 induction xs generalizing vs with
 | nil => rfl
 | cons x xs ih => cases h with | cons _ v _ vs h1 h hs => simp [ren1_data h, ih hs]
theorem Rep2.ren2 {f : Oid → Option Oid} {x : V} {v : Value} (h : Rep2 H μ x v) (hf : ∀ o u b, f o = some u → μ o = some b → μ' u = some b) : Rep2 H μ' (Go.Ax.ren2 f x) v := by
 cases h with
 | agg cs vs h => exact .agg _ _ (h.ren hf)
 | clo g a b us vs h h' => exact .clo g _ _ us vs (h.ren hf) (h'.ren hf)
 | one _ _ h =>
  by_cases hx : Go.Ax.ren2 f x = ren1 f x
  ·rw [hx]; exact .one _ _ (h.ren hf)
  ·cases h with
   | data _ _ h =>
    cases h with
    | agg cs vs h => simp only [Go.Ax.ren2]; rw [map_ren1_data h]; exact .one _ _ (.data _ _ (.agg _ _ h))
    | _ => exact absurd rfl hx
   | _ => exact absurd rfl hx
theorem RepT.ren {f : Oid → Option Oid} {xs : List V} {vs : List Value} (h : RepT H μ xs vs) (hf : ∀ o u b, f o = some u → μ o = some b → μ' u = some b) : RepT H μ' (xs.map (Go.Ax.ren2 f)) vs := by
 induction xs generalizing vs with
 | nil => cases h; exact .nil
 | cons x xs ih => cases h with | cons _ v _ vs h hs => exact .cons _ _ _ _ (h.ren2 hf) (ih hs)
theorem RepS.ren {f : Oid → Option Oid} {x : V} {v : Value} (h : RepS H μ x v) (hf : ∀ o u b, f o = some u → μ o = some b → μ' u = some b) : RepS H μ' (renV f x) v := by
 cases h with
 | tup xs vs h => exact .tup _ _ (h.ren hf)
 | two _ _ h =>
  have hx : renV f x = Go.Ax.ren2 f x := by
   cases x <;> first | rfl | (exfalso; cases h with | one _ _ h => cases h with | data _ _ h => cases h)
  rw [hx]
  exact .two _ _ (h.ren2 hf)
theorem ren1_own {f : Oid → Option Oid} {x : V} {sz : Nat} {xs : List V} : ren1 f x = .own sz xs ↔ x = .own sz xs := by
 cases x with
 | ref o off => simp only [ren1]; cases f o <;> simp
 | sl sz o n => simp only [ren1]; cases f o <;> simp
 | mp o => simp only [ren1]; cases f o <;> simp
 | _ => simp [ren1]
theorem renV_own {f : Oid → Option Oid} {x : V} {sz : Nat} {xs : List V} : renV f x = .own sz xs ↔ x = .own sz xs := by
 cases x with
 | ref o off => simp only [renV, Go.Ax.ren2]; cases f o <;> simp
 | sl sz o n => simp only [renV, Go.Ax.ren2]; cases f o <;> simp
 | mp o => simp only [renV, Go.Ax.ren2]; cases f o <;> simp
 | _ => simp [renV, Go.Ax.ren2]
theorem ren_alive {f : Oid → Option Oid} {x : Ob} : (x.ren f).alive = x.alive := by
 cases x with
 | cells row l => cases row <;> rfl
 | _ => rfl
theorem pure1_ren {f : Oid → Option Oid} {x : V} (h : x.pure1 = true) : ren1 f x = x := by cases x <;> simp_all [V.pure1, ren1]
theorem rowOk_ren {f : Oid → Option Oid} {cs : List V} (h : rowOk cs = true) : cs.map (ren1 f) = cs := by
 have := rowOk_iff.1 h
 induction cs with
 | nil => rfl
 | cons x xs ih => simp [pure1_ren (this x (by simp)), ih (rowOk_iff.2 fun y hy => this y (by simp [hy])) (fun y hy => this y (by simp [hy]))]
theorem RepOb.ren {f : Oid → Option Oid} {b : Nat} {x : Ob} (h : RepOb H μ w b x) (hf : ∀ o u b, f o = some u → μ o = some b → μ' u = some b) : RepOb H μ' w b (x.ren f) := by
 cases x with
 | cells row cs =>
  obtain ⟨vs, ty, h1, h2, h3⟩ := h
  have hr := h2.ren hf
  cases row with
  | true =>
   rw [rowOk_ren (h3 rfl)] at hr
   exact ⟨vs, ty, h1, hr, h3⟩
  | false => exact ⟨vs, ty, h1, by rw [List.length_map]; exact hr, by simp⟩
 | map base l => exact h
 | dead => trivial
/-- A row in a renamed object. -/
theorem ren_cells {f : Oid → Option Oid} {x : Ob} {row : Bool} {cs : List V} (h : x.ren f = .cells row cs) : ∃ cs0, x = .cells row cs0 ∧ ∀ (k sz : Nat) (xs : List V), cs[k]? = some (.own sz xs) ↔ cs0[k]? = some (.own sz xs) := by
 cases x with
 | cells r l =>
  cases r with
  | true => simp [Ob.ren] at h; obtain ⟨rfl, rfl⟩ := h; exact ⟨l, rfl, fun _ _ _ => Iff.rfl⟩
  | false =>
   simp [Ob.ren] at h
   obtain ⟨rfl, rfl⟩ := h
   refine ⟨l, rfl, fun k sz xs => ?_⟩
   rw [List.getElem?_map]
   cases l[k]? with
   | none => simp
   | some y => simp [ren1_own]
 | map => simp [Ob.ren] at h
 | dead => simp [Ob.ren] at h
end
end Go.Ax
set_option linter.unusedVariables false
set_option linter.unusedSimpArgs false
namespace Go.Ax
attribute [local simp] look_cons

structure RepArgs (H : Heap) (μ : Oid → Option Nat) (args : List V) (vs : List Value) : Prop where
 len : args.length = vs.length
 get : ∀ j (hj : j < args.length) (hj' : j < vs.length), RepS H μ args[j] vs[j]
/-- What a call passes on. -/
structure Pass (st : St) (ids : List Oid) (objs : List Ob) : Prop where
 nodup : ids.Nodup
 lenO : objs.length = ids.length
 ob : ∀ j (hj : j < ids.length) (hj' : j < objs.length), st.ob ids[j] = some objs[j] ∧ objs[j].alive = true
def parMu (ids : List Oid) (μ : Oid → Option Nat) : Oid → Option Nat
 | .par j => (ids[j]?).bind μ
 | _ => none
def passF (B : Heap) (μ : Oid → Option Nat) (st : St) (tm : Nat → Value) (w : World) (ids : List Oid) (gt : Option Nat) : Fr :=
 ⟨fun b => b < w.heap.size ∧ (∀ o ∈ ids, μ o ≠ some b) ∧ (∀ o ∈ ids, ∀ j, ¬ Holds μ st tm w (.o o j) b) ∧ ∀ t, gt = some t → ¬ Holds μ st tm w (.t t) b, fun j => (ids[j]?).bind μ, B⟩
theorem weakBut_get (gv : Option (Nat × Nat)) (vs : List V) (j : Nat) : (weakBut gv vs)[j]? = (vs[j]?).map fun x => match gv with | some (i, _) => if j = i then x else x.weak | none => x.weak := by
 simp only [weakBut, List.getElem?_map, List.getElem?_zipIdx]
 cases vs[j]? with
 | none => rfl
 | some x => simp only [Option.map_some, Nat.zero_add]; rfl
theorem weakBut_len (gv : Option (Nat × Nat)) (vs : List V) : (weakBut gv vs).length = vs.length := by simp [weakBut]

section
variable {P : Program} {H H' : Heap} {μ μ' : Oid → Option Nat} {F F' : Fr} {st st' : St} {tm tm' : Nat → Value} {w w' : World}

theorem toPar_some {ids : List Oid} {o u : Oid} (h : toPar ids o = some u) : ∃ j, u = .par j ∧ ids[j]? = some o := by
 simp only [toPar] at h
 cases hp : place o ids with
 | none => rw [hp] at h; simp at h
 | some j => rw [hp] at h; simp at h; exact ⟨j, h.symm, place_some hp⟩
theorem toPar_mu {ids : List Oid} : ∀ o u b, toPar ids o = some u → μ o = some b → parMu ids μ u = some b := by
 intro o u b h1 h2
 obtain ⟨j, rfl, h3⟩ := toPar_some h1
 simp [parMu, h3, h2]
theorem parMu_some {ids : List Oid} {o : Oid} {b : Nat} (h : parMu ids μ o = some b) : ∃ j, o = .par j ∧ ∃ hj : j < ids.length, μ ids[j] = some b := by
 cases o with
 | par j =>
  simp only [parMu, Option.bind_eq_some_iff] at h
  obtain ⟨u, h1, h2⟩ := h
  obtain ⟨hj, rfl⟩ := List.getElem?_eq_some_iff.1 h1
  exact ⟨j, rfl, hj, h2⟩
 | _ => simp [parMu] at h

/-- The callee's state. -/
theorem Pass.pre {ids objs} (p : Pass st ids objs) (hr : Rel H μ F st tm w) {vs : List V} {us : List Value} (ha : RepArgs H μ vs us) {gv : Option (Nat × Nat)}
  (hg : ∀ j t, gv = some (j, t) → ∀ sz xs b off n c, vs[j]? = some (.own sz xs) → us[j]? = some (.slice (some ⟨b, off, none⟩) n c) → atL μ st tm w (.t t) (.own sz xs) (.slice (some ⟨b, off, none⟩) n c)) :
  Rel H (parMu ids μ) (passF F.B μ st tm w ids (gv.map (·.2))) (conSt ((weakBut gv vs).map (renV (toPar ids))) (objs.map (Ob.ren (toPar ids))) []) (argTm us) w := by
 have hob : ∀ o, (conSt ((weakBut gv vs).map (renV (toPar ids))) (objs.map (Ob.ren (toPar ids))) []).ob o = match o with | .par j => (objs[j]?).map (Ob.ren (toPar ids)) | _ => none := by
  intro o
  rw [conSt_ob]
  cases o with
  | par j => simp
  | sub t j => cases t <;> simp
  | _ => rfl
 have htm : ∀ t, (conSt ((weakBut gv vs).map (renV (toPar ids))) (objs.map (Ob.ren (toPar ids))) []).tm t = (((weakBut gv vs)[t]?).map (renV (toPar ids))).getD .any := by
  intro t
  rw [conSt_tm, List.getElem?_map]
 have hpl : ∀ j x, (objs[j]?).map (Ob.ren (toPar ids)) = some x → ∃ (hj : j < ids.length) (hj' : j < objs.length), x = objs[j].ren (toPar ids) ∧ st.ob ids[j] = some objs[j] ∧ objs[j].alive = true := by
  intro j x h
  rw [Option.map_eq_some_iff] at h
  obtain ⟨y, h1, rfl⟩ := h
  obtain ⟨hlt, rfl⟩ := List.getElem?_eq_some_iff.1 h1
  have hj : j < ids.length := by rw [← p.lenO]; exact hlt
  exact ⟨hj, hlt, rfl, (p.ob j hj hlt).1, (p.ob j hj hlt).2⟩
 have hlv : ∀ o b, live (conSt ((weakBut gv vs).map (renV (toPar ids))) (objs.map (Ob.ren (toPar ids))) []) (parMu ids μ) o = some b → ∃ j, o = .par j ∧ ∃ hj : j < ids.length, live st μ ids[j] = some b := by
  intro o b h
  obtain ⟨h1, _⟩ := live_some h
  obtain ⟨j, rfl, hj, h2⟩ := parMu_some h1
  refine ⟨j, rfl, hj, live_of h2 ?_⟩
  have := p.ob j hj (by rw [p.lenO]; exact hj)
  rw [this.1]
  intro e
  injection e with e
  rw [e] at this
  simp [Ob.alive] at this
 have hat : ∀ ℓ sz xs b off n c, atL (parMu ids μ) (conSt ((weakBut gv vs).map (renV (toPar ids))) (objs.map (Ob.ren (toPar ids))) []) (argTm us) w ℓ (.own sz xs) (.slice (some ⟨b, off, none⟩) n c) →
   (∃ (j k : Nat) (hj : j < ids.length), ℓ = .o (.par j) k ∧ atL μ st tm w (.o ids[j] k) (.own sz xs) (.slice (some ⟨b, off, none⟩) n c)) ∨
   (∃ j t, gv = some (j, t) ∧ ℓ = .t j ∧ atL μ st tm w (.t t) (.own sz xs) (.slice (some ⟨b, off, none⟩) n c)) := by
  intro ℓ sz xs b off n c hl
  cases ℓ with
  | t m =>
   right
   obtain ⟨h1, h2⟩ := hl
   rw [htm, weakBut_get] at h1
   cases hv : vs[m]? with
   | none => rw [hv] at h1; simp at h1
   | some x =>
    rw [hv] at h1
    simp only [Option.map_some, Option.getD_some, renV_own] at h1
    have hm : m < us.length := by rw [← ha.len]; exact (List.getElem?_eq_some_iff.1 hv).1
    have hu : us[m]? = some (.slice (some ⟨b, off, none⟩) n c) := by
     simp only [argTm, List.getElem?_eq_getElem hm, Option.getD_some] at h2
     rw [List.getElem?_eq_getElem hm, h2]
    cases gv with
    | none =>
     simp only at h1
     have := weak_not_own x
     rw [h1] at this
     simp [V.isOwn] at this
    | some q =>
     obtain ⟨i, t⟩ := q
     simp only at h1
     split at h1
     ·rename_i e
      subst e
      rw [h1] at hv
      exact ⟨m, t, rfl, rfl, hg m t rfl sz xs b off n c hv hu⟩
     ·have := weak_not_own x
      rw [h1] at this
      simp [V.isOwn] at this
  | o o k =>
   left
   obtain ⟨row, cs, b', h1, h2, h3, h4⟩ := hl
   rw [hob] at h1
   cases o with
   | par j =>
    obtain ⟨hj, hj', e, h5, h6⟩ := hpl j _ h1
    obtain ⟨cs0, e1, e2⟩ := ren_cells e.symm
    obtain ⟨j2, e3, hj2, h7⟩ := parMu_some h2
    injection e3 with e3
    subst e3
    exact ⟨j, k, hj, rfl, row, cs0, b', by rw [h5, e1], h7, (e2 k sz xs).1 h3, h4⟩
   | _ => simp at h1
 have hFp : ∀ b, F b → passF F.B μ st tm w ids (gv.map (·.2)) b := by
  intro b hb
  refine ⟨hr.Flt.1 b hb, fun o ho hm => ?_, fun o _ j hh => ?_, fun t _ hh => ?_⟩
  ·obtain ⟨j, hj, rfl⟩ := List.getElem_of_mem ho
   have := p.ob j hj (by rw [p.lenO]; exact hj)
   refine hr.objF _ _ (live_of hm ?_) hb
   rw [this.1]
   intro e
   injection e with e
   rw [e] at this
   simp [Ob.alive] at this
  ·obtain ⟨_, _, _, _, _, hl⟩ := hh
   exact (hr.own _ _ _ _ _ _ _ hl).nofr hb
  ·obtain ⟨_, _, _, _, _, hl⟩ := hh
   exact (hr.own _ _ _ _ _ _ _ hl).nofr hb
 refine ⟨fun t => ?_, hr.heap, hr.size, ?_, ?_, ?_, ?_, ?_, ⟨fun b hb => hb.1, fun b o ho => ⟨hFp b (hr.Flt.2 b o ho).1, (hr.Flt.2 b o ho).2⟩⟩, ?_, ?_, fun j _ => rfl, hr.base⟩
 ·rw [htm, weakBut_get]
  cases hv : vs[t]? with
  | none => exact .two _ _ (.one _ _ (.any _))
  | some x =>
   obtain ⟨hlt, hx⟩ := List.getElem?_eq_some_iff.1 hv
   have hlt' : t < us.length := by rw [← ha.len]; exact hlt
   have hrep := ha.get t hlt hlt'
   rw [hx] at hrep
   simp only [Option.map_some, Option.getD_some, argTm, List.getElem?_eq_getElem hlt']
   cases gv with
   | none => exact hrep.weak.ren toPar_mu
   | some q =>
    obtain ⟨i, t'⟩ := q
    dsimp only
    split
    ·exact hrep.ren toPar_mu
    ·exact hrep.weak.ren toPar_mu
 ·intro o ho
  rw [hob] at ho
  cases o with
  | par j =>
   simp at ho
   simp only [parMu]
   rw [List.getElem?_eq_none (by rw [← p.lenO]; exact ho)]
   rfl
  | _ => rfl
 ·intro o x hx hax
  rw [hob] at hx
  cases o with
  | par j =>
   obtain ⟨hj, hj', e, h5, h6⟩ := hpl j _ hx
   subst e
   rcases hr.obs _ _ h5 h6 with ⟨b, h7, h8⟩ | ⟨h7, h8⟩
   ·exact .inl ⟨b, by simp [parMu, hj, h7], h8.ren toPar_mu⟩
   ·right
    rw [h7]
    exact ⟨rfl, by simp [parMu, hj, h8]⟩
  | _ => simp at hx
 ·intro o o' b h1 h2
  obtain ⟨j, rfl, hj, h3⟩ := hlv _ _ h1
  obtain ⟨j', rfl, hj', h4⟩ := hlv _ _ h2
  have := hr.inj _ _ _ h3 h4
  rw [(List.getElem_inj p.nodup).1 this]
 ·intro o b hb k
  obtain ⟨j, rfl, hj, h3⟩ := hlv _ _ hb
  exact hr.objH _ _ h3 k
 ·intro o b hb hF
  obtain ⟨j, rfl, hj, h3⟩ := hlv _ _ hb
  exact hF.2.1 _ (List.getElem_mem hj) (live_some h3).1
 ·intro ℓ sz xs b off n c hl
  rcases hat _ _ _ _ _ _ _ hl with ⟨j, k, hj, rfl, hl2⟩ | ⟨j, t, hgv, rfl, hl2⟩
  ·obtain ⟨g1, g2, g3, g4⟩ := hr.own _ _ _ _ _ _ _ hl2
   refine ⟨g1, g2, fun o ho => ?_, fun hF => hF.2.2.1 _ (List.getElem_mem hj) k ⟨_, _, _, _, _, hl2⟩⟩
   obtain ⟨j', rfl, hj', h3⟩ := hlv _ _ ho
   exact g3 _ h3
  ·obtain ⟨g1, g2, g3, g4⟩ := hr.own _ _ _ _ _ _ _ hl2
   refine ⟨g1, g2, fun o ho => ?_, fun hF => hF.2.2.2 t (by rw [hgv]; rfl) ⟨_, _, _, _, _, hl2⟩⟩
   obtain ⟨j', rfl, hj', h3⟩ := hlv _ _ ho
   exact g3 _ h3
 ·rintro ℓ ℓ' b ⟨sz1, xs1, off1, n1, c1, h1⟩ ⟨sz2, xs2, off2, n2, c2, h2⟩
  rcases hat _ _ _ _ _ _ _ h1 with ⟨j, k, hj, rfl, h3⟩ | ⟨j, t, hgv, rfl, h3⟩ <;> rcases hat _ _ _ _ _ _ _ h2 with ⟨j', k', hj', rfl, h4⟩ | ⟨j', t', hgv', rfl, h4⟩
  ·have := hr.ownInj _ _ _ ⟨_, _, _, _, _, h3⟩ ⟨_, _, _, _, _, h4⟩
   simp only [Loc.o.injEq] at this
   obtain ⟨e1, e2⟩ := this
   rw [(List.getElem_inj p.nodup).1 e1, e2]
  ·have := hr.ownInj _ _ _ ⟨_, _, _, _, _, h3⟩ ⟨_, _, _, _, _, h4⟩
   simp at this
  ·have := hr.ownInj _ _ _ ⟨_, _, _, _, _, h3⟩ ⟨_, _, _, _, _, h4⟩
   simp at this
  ·rw [hgv] at hgv'
   simp at hgv'
   rw [hgv'.1]
end
end Go.Ax
set_option linter.unusedVariables false
set_option linter.unusedSimpArgs false
namespace Go.Ax
attribute [local simp] look_cons
/-- Where things lie behind a call. -/
def postMu (ids : List Oid) (mv : List Nat) (dst : Option Nat) (n : Nat) (μ μ' : Oid → Option Nat) : Oid → Option Nat
 | .alt o => match place o ids with
  | some j => if mv.contains j then μ' (.par j) else μ (.alt o)
  | none => μ (.alt o)
 | .sub d i => if dst = some d ∧ i < n then μ' (.sub 0 i) else μ (.sub d i)
 | o => μ o
section
variable {P : Program} {H H' : Heap} {μ μ' : Oid → Option Nat} {F F' : Fr} {st st1 : St} {tm tm' : Nat → Value} {w w' : World}

/-- The caller's state behind the call. -/
theorem Pass.post {ids : List Oid} {objs objs' news : List Ob} {mv : List Nat} {dst : Option Nat} {pre : List Wr} {gt : Option Nat} {r : V} {v : Value} (p : Pass st ids objs) (hr : Rel H μ F st tm w)
  (hr1 : Rel H μ F (st.app pre) tm w) (hpo : ∀ o, (st.app pre).ob o = st.ob o) (hgt : ∀ t, gt = some t → ∀ b, Holds μ st tm w (.t t) b → ∀ ℓ, ¬ Holds μ (st.app pre) tm w ℓ b)
  (hps : ∀ ℓ b, Holds μ (st.app pre) tm w ℓ b → Holds μ st tm w ℓ b)
  (hmv : ∀ j ∈ mv, j < ids.length) (hfr : ∀ j ∈ mv, ∀ o, ids[j]? = some o → st.ob (.alt o) = none) (hfs : ∀ d, dst = some d → ∀ i, i < news.length → st.ob (.sub d i) = none)
  (hlen : objs'.length = ids.length) (hfix : ∀ j, j < ids.length → j ∉ mv → μ' (.par j) = parMu ids μ (.par j))
  (hFF' : F'.F = (passF F.B μ st tm w ids gt).F) (hFB : F'.B = F.B)
  (h : Rel H' μ' F' (conSt [r] objs' news) (upd noTm 0 v) w') (hx : Ext (passF F.B μ st tm w ids gt) H w H' w') :
  Rel H' (postMu ids mv dst news.length μ μ') F (st.app (back ⟨pre, ids, mv, dst⟩ r objs' news)) (after dst tm v) w' ∧ Ext F H w H' w' := by
 generalize hnm : ofPar ids mv dst = nm
 generalize hμ2 : postMu ids mv dst news.length μ μ' = μ2
 generalize hpf : passF F.B μ st tm w ids gt = pf at *
 have hpfF : ∀ b, pf b ↔ b < w.heap.size ∧ (∀ o ∈ ids, μ o ≠ some b) ∧ (∀ o ∈ ids, ∀ j, ¬ Holds μ st tm w (.o o j) b) ∧ ∀ t, gt = some t → ¬ Holds μ st tm w (.t t) b := fun b => by rw [← hpf]; rfl
 have hidl : ∀ j (hj : j < ids.length), live st μ ids[j] = μ ids[j] := by
  intro j hj
  have := p.ob j hj (by rw [p.lenO]; exact hj)
  unfold live
  rw [this.1]
  cases ho : objs[j]'(by rw [p.lenO]; exact hj) <;> rw [ho] at this <;> simp_all [Ob.alive]
 have hidn : ∀ o ∈ ids, st.ob o ≠ none := by
  intro o ho
  obtain ⟨j, hj, rfl⟩ := List.getElem_of_mem ho
  rw [(p.ob j hj (by rw [p.lenO]; exact hj)).1]
  simp
 have hFF : ∀ b, F b → pf b := by
  intro b hb
  rw [hpfF]
  refine ⟨hr.Flt.1 b hb, fun o ho hm => ?_, fun o _ j hh => ?_, fun t _ hh => ?_⟩
  ·obtain ⟨j, hj, rfl⟩ := List.getElem_of_mem ho
   exact hr.objF _ _ ((hidl j hj).trans hm) hb
  ·obtain ⟨_, _, _, _, _, hl⟩ := hh
   exact (hr.own _ _ _ _ _ _ _ hl).nofr hb
  ·obtain ⟨_, _, _, _, _, hl⟩ := hh
   exact (hr.own _ _ _ _ _ _ _ hl).nofr hb
 refine ⟨?_, hx.sub hFF⟩
 have hL1 : live (st.app pre) μ = live st μ := live_congr hpo
 -- names
 have hnmp : ∀ j o, nm (.par j) = some o ↔ (j ∈ mv ∧ ∃ u, ids[j]? = some u ∧ o = .alt u) ∨ (j ∉ mv ∧ ids[j]? = some o) := by
  intro j o
  rw [← hnm]
  simp only [ofPar]
  by_cases hj : j ∈ mv
  ·rw [if_pos (by simpa using hj)]
   simp only [hj, not_true_eq_false, true_and, false_and, or_false, Option.map_eq_some_iff]
   constructor
   ·rintro ⟨u, h1, h2⟩; exact ⟨u, h1, h2.symm⟩
   ·rintro ⟨u, h1, h2⟩; exact ⟨u, h1, h2.symm⟩
  ·rw [if_neg (by simpa using hj)]
   simp [hj]
 have hnms : ∀ i o, nm (.sub 0 i) = some o ↔ ∃ d, dst = some d ∧ o = .sub d i := by
  intro i o
  rw [← hnm]
  simp only [ofPar, Option.map_eq_some_iff]
  constructor
  ·rintro ⟨u, h1, h2⟩; exact ⟨u, h1, h2.symm⟩
  ·rintro ⟨u, h1, h2⟩; exact ⟨u, h1, h2.symm⟩
 have hnmo : ∀ u o, nm u = some o → (∃ j, u = .par j) ∨ ∃ i, u = .sub 0 i := by
  intro u o hu
  rw [← hnm] at hu
  cases u with
  | par j => exact .inl ⟨j, rfl⟩
  | sub t i => cases t with
   | zero => exact .inr ⟨i, rfl⟩
   | succ t => simp [ofPar] at hu
  | _ => simp [ofPar] at hu
 -- a name that was there
 have hold2 : ∀ o, st.ob o ≠ none → μ2 o = μ o := by
  intro o ho
  rw [← hμ2]
  cases o with
  | alt u =>
   simp only [postMu]
   split
   ·rename_i j hj
    split
    ·rename_i hc
     exact absurd (hfr j (by simpa using hc) u (place_some hj)) ho
    ·rfl
   ·rfl
  | sub d i =>
   simp only [postMu]
   split
   ·rename_i hc
    exact absurd (hfs d hc.1 i hc.2) ho
   ·rfl
  | _ => rfl
 have hmono : LeM μ μ2 := by
  intro o b hb
  rw [hold2 o (fun e => by rw [hr.dom o e] at hb; simp at hb)]
  exact hb
 -- a callee's name
 have hcal : ∀ u o b, nm u = some o → (conSt [r] objs' news).ob u ≠ none → μ' u = some b → μ2 o = some b := by
  intro u o b hu hun hb
  rcases hnmo u o hu with ⟨j, rfl⟩ | ⟨i, rfl⟩
  ·rcases (hnmp j o).1 hu with ⟨h1, u', h2, rfl⟩ | ⟨h1, h2⟩
   ·rw [← hμ2]
    simp only [postMu]
    obtain ⟨j', hj'⟩ := place_of (List.mem_of_getElem? h2)
    have : j' = j := by
     have h3 := place_some hj'
     obtain ⟨l1, e1⟩ := List.getElem?_eq_some_iff.1 h2
     obtain ⟨l2, e2⟩ := List.getElem?_eq_some_iff.1 h3
     exact (List.getElem_inj p.nodup).1 (e2.trans e1.symm)
    subst this
    rw [hj']
    simp only
    rw [if_pos (by simpa using h1)]
    exact hb
   ·obtain ⟨hj, rfl⟩ := List.getElem?_eq_some_iff.1 h2
    rw [hold2 _ (hidn _ (List.getElem_mem hj))]
    rw [hfix j hj h1] at hb
    simpa [parMu, hj] using hb
  ·obtain ⟨d, h1, rfl⟩ := (hnms i o).1 hu
   rw [conSt_ob] at hun
   simp only at hun
   have hi : i < news.length := by
    cases hq : news[i]? with
    | none => exact absurd hq hun
    | some x => exact (List.getElem?_eq_some_iff.1 hq).1
   rw [← hμ2]
   simp only [postMu]
   rw [if_pos ⟨h1, hi⟩]
   exact hb
 have hcal' : ∀ o u b, nm o = some u → μ' o = some b → μ2 u = some b := fun o u b h1 h2 => hcal o u b h1 (fun e => by rw [h.dom o e] at h2; simp at h2) h2
 -- what is written
 have hbk : ∀ o, (∀ x, (o, x) ∈ backO ⟨pre, ids, mv, dst⟩ objs' news → ∀ y, (o, y) ∈ backO ⟨pre, ids, mv, dst⟩ objs' news → y = x) := by
  intro o x hx y hy
  rw [mem_backO] at hx hy
  simp only [hnm] at hx hy
  rcases hx with ⟨j, hj, h1, rfl⟩ | ⟨j, x0, h0, h1, rfl⟩ | ⟨i, x0, h0, h1, rfl⟩ <;> rcases hy with ⟨j', hj', h1', rfl⟩ | ⟨j', y0, h0', h1', rfl⟩ | ⟨i', y0, h0', h1', rfl⟩
  ·rfl
  ·exfalso
   rcases (hnmp j' o).1 h1' with ⟨h2, u, h3, rfl⟩ | ⟨h2, h3⟩
   ·exact hidn _ (List.mem_of_getElem? h1) (hfr j' h2 u h3)
   ·obtain ⟨l1, e1⟩ := List.getElem?_eq_some_iff.1 h1
    obtain ⟨l2, e2⟩ := List.getElem?_eq_some_iff.1 h3
    have := (List.getElem_inj p.nodup).1 (e1.trans e2.symm)
    subst this
    exact h2 hj
  ·exfalso
   obtain ⟨d, h2, rfl⟩ := (hnms i' o).1 h1'
   exact hidn _ (List.mem_of_getElem? h1) (hfs d h2 i' (List.getElem?_eq_some_iff.1 h0').1)
  ·exfalso
   rcases (hnmp j o).1 h1 with ⟨h2, u, h3, rfl⟩ | ⟨h2, h3⟩
   ·exact hidn _ (List.mem_of_getElem? h1') (hfr j h2 u h3)
   ·obtain ⟨l1, e1⟩ := List.getElem?_eq_some_iff.1 h1'
    obtain ⟨l2, e2⟩ := List.getElem?_eq_some_iff.1 h3
    have := (List.getElem_inj p.nodup).1 (e1.trans e2.symm)
    subst this
    exact h2 hj'
  ·have hjj : j = j' := by
    rcases (hnmp j o).1 h1 with ⟨h2, u, h3, rfl⟩ | ⟨h2, h3⟩ <;> rcases (hnmp j' _).1 h1' with ⟨h2', u', h3', e⟩ | ⟨h2', h3'⟩
    ·injection e with e
     subst e
     obtain ⟨l1, e1⟩ := List.getElem?_eq_some_iff.1 h3
     obtain ⟨l2, e2⟩ := List.getElem?_eq_some_iff.1 h3'
     exact (List.getElem_inj p.nodup).1 (e1.trans e2.symm)
    ·exact absurd (hfr j h2 u h3) (hidn _ (List.mem_of_getElem? h3'))
    ·subst e
     exact absurd (hfr j' h2' u' h3') (hidn _ (List.mem_of_getElem? h3))
    ·obtain ⟨l1, e1⟩ := List.getElem?_eq_some_iff.1 h3
     obtain ⟨l2, e2⟩ := List.getElem?_eq_some_iff.1 h3'
     exact (List.getElem_inj p.nodup).1 (e1.trans e2.symm)
   subst hjj
   rw [h0] at h0'
   injection h0' with h0'
   rw [h0']
  ·exfalso
   obtain ⟨d, h2, rfl⟩ := (hnms i' o).1 h1'
   rcases (hnmp j _).1 h1 with ⟨_, u, _, e⟩ | ⟨_, h3⟩
   ·simp at e
   ·exact hidn _ (List.mem_of_getElem? h3) (hfs d h2 i' (List.getElem?_eq_some_iff.1 h0').1)
  ·exfalso
   obtain ⟨d, h2, rfl⟩ := (hnms i o).1 h1
   exact hidn _ (List.mem_of_getElem? h1') (hfs d h2 i (List.getElem?_eq_some_iff.1 h0).1)
  ·exfalso
   obtain ⟨d, h2, rfl⟩ := (hnms i o).1 h1
   rcases (hnmp j' _).1 h1' with ⟨_, u, _, e⟩ | ⟨_, h3⟩
   ·simp at e
   ·exact hidn _ (List.mem_of_getElem? h3) (hfs d h2 i (List.getElem?_eq_some_iff.1 h0).1)
  ·obtain ⟨d, h2, rfl⟩ := (hnms i o).1 h1
   obtain ⟨d', h2', e⟩ := (hnms i' _).1 h1'
   simp at e
   obtain ⟨rfl, rfl⟩ := e
   rw [h0] at h0'
   injection h0' with h0'
   rw [h0']
 have htm : ∀ t, (st.app (back ⟨pre, ids, mv, dst⟩ r objs' news)).tm t = if dst = some t then renV nm r else (st.app pre).tm t := by
  intro t
  simp only [back, St.app_append, hnm]
  cases dst with
  | none => simp [out, St.app, app_tm_o]
  | some d => simp only [out, St.app, St.tm_put, app_tm_o, Option.some.injEq]
 have hob0 : ∀ o, (st.app (back ⟨pre, ids, mv, dst⟩ r objs' news)).ob o = ((st.app pre).app ((backO ⟨pre, ids, mv, dst⟩ objs' news).map fun x => Wr.o x.1 x.2)).ob o := by
  intro o
  simp only [back, St.app_append]
  cases dst <;> rfl
 have hobM : ∀ o x, (o, x) ∈ backO ⟨pre, ids, mv, dst⟩ objs' news → (st.app (back ⟨pre, ids, mv, dst⟩ r objs' news)).ob o = some x := by
  intro o x hx
  rw [hob0]
  exact app_ob_mem _ _ ⟨x, hx⟩ fun y hy => hbk o x hx y hy
 have hobN : ∀ o, (¬ ∃ x, (o, x) ∈ backO ⟨pre, ids, mv, dst⟩ objs' news) → (st.app (back ⟨pre, ids, mv, dst⟩ r objs' news)).ob o = st.ob o := by
  intro o hn
  rw [hob0, app_ob_not _ _ hn, hpo]
 have hmemC : ∀ u x, (conSt [r] objs' news).ob u = some x → ∀ o, nm u = some o → (o, x.ren nm) ∈ backO ⟨pre, ids, mv, dst⟩ objs' news := by
  intro u x hu o ho
  rw [mem_backO]
  simp only [hnm]
  rw [conSt_ob] at hu
  rcases hnmo u o ho with ⟨j, rfl⟩ | ⟨i, rfl⟩
  ·exact .inr (.inl ⟨j, x, hu, ho, rfl⟩)
  ·exact .inr (.inr ⟨i, x, hu, ho, rfl⟩)
 -- each object: the callee's, dead, or as it was
 have hcase : ∀ o x, (st.app (back ⟨pre, ids, mv, dst⟩ r objs' news)).ob o = some x → x.alive = true →
   (∃ u y, nm u = some o ∧ (conSt [r] objs' news).ob u = some y ∧ x = y.ren nm) ∨ ((¬ ∃ x, (o, x) ∈ backO ⟨pre, ids, mv, dst⟩ objs' news) ∧ st.ob o = some x ∧ o ∉ ids) := by
  intro o x hx ha
  by_cases hm : ∃ y, (o, y) ∈ backO ⟨pre, ids, mv, dst⟩ objs' news
  ·left
   obtain ⟨y, hy⟩ := hm
   have := hobM o y hy
   rw [hx] at this
   injection this with this
   subst this
   rw [mem_backO] at hy
   simp only [hnm] at hy
   rcases hy with ⟨j, hj, h1, rfl⟩ | ⟨j, y0, h0, h1, rfl⟩ | ⟨i, y0, h0, h1, rfl⟩
   ·simp [Ob.alive] at ha
   ·exact ⟨.par j, y0, h1, by rw [conSt_ob]; exact h0, rfl⟩
   ·exact ⟨.sub 0 i, y0, h1, by rw [conSt_ob]; exact h0, rfl⟩
  ·right
   rw [hobN o hm] at hx
   refine ⟨hm, hx, fun hmem => hm ?_⟩
   obtain ⟨j, hj, rfl⟩ := List.getElem_of_mem hmem
   by_cases hjm : j ∈ mv
   ·exact ⟨.dead, by rw [mem_backO]; exact .inl ⟨j, hjm, by simp [hj], rfl⟩⟩
   ·have hlt : j < objs'.length := by rw [hlen]; exact hj
    exact ⟨_, hmemC (.par j) objs'[j] (by rw [conSt_ob]; simp [hlt]) ids[j] ((hnmp j _).2 (.inr ⟨hjm, by simp [hj]⟩))⟩
 have hlvC : ∀ u y, (conSt [r] objs' news).ob u = some y → y.alive = true → ∀ b, μ' u = some b → live (conSt [r] objs' news) μ' u = some b := by
  intro u y hu hy b hb
  refine live_of hb ?_
  rw [hu]
  intro e
  injection e with e
  rw [e] at hy
  simp [Ob.alive] at hy
 -- blocks that were not passed are as they were
 have hkeep : ∀ o b, o ∉ ids → live st μ o = some b → pf b := by
  intro o b ho hb
  rw [hpfF]
  refine ⟨(hr.obLt hb).choose_spec.2.2.2, fun u hu hm => ?_, fun u _ j hh => ?_, fun t _ hh => ?_⟩
  ·obtain ⟨j, hj, rfl⟩ := List.getElem_of_mem hu
   have := hr.inj _ _ _ hb ((hidl j hj).trans hm)
   exact ho (this ▸ List.getElem_mem hj)
  ·obtain ⟨_, _, _, _, _, hl⟩ := hh
   exact (hr.own _ _ _ _ _ _ _ hl).noobj o hb
  ·obtain ⟨_, _, _, _, _, hl⟩ := hh
   exact (hr.own _ _ _ _ _ _ _ hl).noobj o hb
 have hpfl : ∀ b, pf b → b < w.heap.size := fun b hb => ((hpfF b).1 hb).1
 -- where an object lives
 have hlive : ∀ o b, live (st.app (back ⟨pre, ids, mv, dst⟩ r objs' news)) μ2 o = some b →
   (∃ u y, nm u = some o ∧ (conSt [r] objs' news).ob u = some y ∧ live (conSt [r] objs' news) μ' u = some b) ∨ (o ∉ ids ∧ live st μ o = some b ∧ pf b) := by
  intro o b hb
  obtain ⟨h1, h2⟩ := live_some hb
  cases hx : (st.app (back ⟨pre, ids, mv, dst⟩ r objs' news)).ob o with
  | none =>
   exfalso
   -- no name, no place
   have hn : ¬ ∃ x, (o, x) ∈ backO ⟨pre, ids, mv, dst⟩ objs' news := by
    rintro ⟨x, hx'⟩
    rw [hobM o x hx'] at hx
    simp at hx
   rw [hobN o hn] at hx
   rw [← hμ2] at h1
   cases o with
   | alt u =>
    simp only [postMu] at h1
    split at h1
    ·rename_i j hj
     split at h1
     ·rename_i hc
      have hjm : j ∈ mv := by simpa using hc
      have hlt : j < objs'.length := by rw [hlen]; exact hmv j hjm
      exact hn ⟨_, hmemC (.par j) objs'[j] (by rw [conSt_ob]; simp [hlt]) _ ((hnmp j _).2 (.inl ⟨hjm, u, place_some hj, rfl⟩))⟩
     ·rw [hr.dom _ hx] at h1; simp at h1
    ·rw [hr.dom _ hx] at h1; simp at h1
   | sub d i =>
    simp only [postMu] at h1
    split at h1
    ·rename_i hc
     exact hn ⟨_, hmemC (.sub 0 i) news[i] (by rw [conSt_ob]; simp [hc.2]) _ ((hnms i _).2 ⟨d, hc.1, rfl⟩)⟩
    ·rw [hr.dom _ hx] at h1; simp at h1
   | _ => simp only [postMu] at h1; rw [hr.dom _ hx] at h1; simp at h1
  | some x =>
   have hax : x.alive = true := by cases x <;> simp_all [Ob.alive]
   rcases hcase o x hx hax with ⟨u, y, h3, h4, rfl⟩ | ⟨h3, h4, h5⟩
   ·left
    rw [ren_alive] at hax
    refine ⟨u, y, h3, h4, ?_⟩
    rcases h.obs u y h4 hax with ⟨b', h5, _⟩ | ⟨h5, h6⟩
    ·have := hcal u o b' h3 (by rw [h4]; simp) h5
     rw [h1] at this
     injection this with this
     subst this
     exact hlvC u y h4 hax b h5
    ·-- nil, yet it has a place: then it was one that stays
     exfalso
     rcases hnmo u o h3 with ⟨j, rfl⟩ | ⟨i, rfl⟩
     ·rcases (hnmp j o).1 h3 with ⟨g1, u', g2, rfl⟩ | ⟨g1, g2⟩
      ·rw [← hμ2] at h1
       simp only [postMu] at h1
       obtain ⟨j', hj'⟩ := place_of (List.mem_of_getElem? g2)
       have : j' = j := by
        obtain ⟨l1, e1⟩ := List.getElem?_eq_some_iff.1 g2
        obtain ⟨l2, e2⟩ := List.getElem?_eq_some_iff.1 (place_some hj')
        exact (List.getElem_inj p.nodup).1 (e2.trans e1.symm)
       subst this
       rw [hj'] at h1
       simp only at h1
       rw [if_pos (by simpa using g1), h6] at h1
       simp at h1
      ·obtain ⟨hj, rfl⟩ := List.getElem?_eq_some_iff.1 g2
       rw [hold2 _ (hidn _ (List.getElem_mem hj))] at h1
       rw [hfix j hj g1] at h6
       simp [parMu, hj, h1] at h6
     ·obtain ⟨d, g1, rfl⟩ := (hnms i o).1 h3
      rw [← hμ2] at h1
      simp only [postMu] at h1
      rw [conSt_ob] at h4
      have hi : i < news.length := (List.getElem?_eq_some_iff.1 h4).1
      rw [if_pos ⟨g1, hi⟩, h6] at h1
      simp at h1
   ·right
    have h6 : μ o = some b := by rw [← hold2 o (by rw [h4]; simp)]; exact h1
    have h7 : live st μ o = some b := live_of h6 (by rw [h4]; intro e; injection e with e; rw [e] at hax; simp [Ob.alive] at hax)
    exact ⟨h5, h7, hkeep o b h5 h7⟩
 have haf : ∀ t, after dst tm v t = if dst = some t then v else tm t := by
  intro t
  cases dst with
  | none => simp [after]
  | some d => simp only [after, upd, Option.some.injEq]; by_cases e : t = d <;> simp [e, eq_comm]
 have hF'F : ∀ b, F'.F b ↔ pf b := by rw [hFF']; exact fun _ => Iff.rfl
 -- rows: what is new lies in no kept block, what is old in one
 have hat : ∀ ℓ sz xs b off n c, atL μ2 (st.app (back ⟨pre, ids, mv, dst⟩ r objs' news)) (after dst tm v) w' ℓ (.own sz xs) (.slice (some ⟨b, off, none⟩) n c) →
   (∃ ℓ', atL μ' (conSt [r] objs' news) (upd noTm 0 v) w' ℓ' (.own sz xs) (.slice (some ⟨b, off, none⟩) n c) ∧
    ((∃ d, dst = some d ∧ ℓ = .t d ∧ ℓ' = .t 0) ∨ ∃ u o k, nm u = some o ∧ ℓ = .o o k ∧ ℓ' = .o u k)) ∨
   (atL μ (st.app pre) tm w ℓ (.own sz xs) (.slice (some ⟨b, off, none⟩) n c) ∧ pf b) := by
  intro ℓ sz xs b off n c hl
  have hpfo : ∀ ℓ, atL μ (st.app pre) tm w ℓ (.own sz xs) (.slice (some ⟨b, off, none⟩) n c) → (∀ o ∈ ids, ∀ j, ℓ ≠ .o o j) → pf b := by
   intro ℓ hl hne
   obtain ⟨⟨vs, ty, g1, _⟩, g2, g3, g4⟩ := hr1.own _ _ _ _ _ _ _ hl
   rw [hL1] at g3
   rw [hpfF]
   refine ⟨(Array.getElem?_eq_some_iff.1 g1).1, fun o ho hm => ?_, fun o ho j hh => ?_, fun t ht hh => ?_⟩
   ·obtain ⟨j, hj, rfl⟩ := List.getElem_of_mem ho
    exact g3 _ ((hidl j hj).trans hm)
   ·exact hne o ho j (hr.ownInj _ _ _ (hps _ _ ⟨_, _, _, _, _, hl⟩) hh)
   ·exact hgt t ht b hh ℓ ⟨_, _, _, _, _, hl⟩
  cases ℓ with
  | t m =>
   obtain ⟨h1, h2⟩ := hl
   rw [htm] at h1
   rw [haf] at h2
   by_cases e : dst = some m
   ·rw [if_pos e] at h1 h2
    rw [renV_own] at h1
    exact .inl ⟨.t 0, ⟨by rw [conSt_tm]; simp [h1], by simp [upd, h2]⟩, .inl ⟨m, e, rfl, rfl⟩⟩
   ·rw [if_neg e] at h1 h2
    have hl : atL μ (st.app pre) tm w (.t m) (.own sz xs) (.slice (some ⟨b, off, none⟩) n c) := ⟨h1, h2⟩
    exact .inr ⟨hl, hpfo _ hl (by simp)⟩
  | o o k =>
   obtain ⟨row, cs, b', h1, h2, h3, h4⟩ := hl
   rcases hcase o _ h1 rfl with ⟨u, y, h5, h6, h7⟩ | ⟨h5, h6, h7⟩
   ·left
    obtain ⟨cs0, e1, e2⟩ := ren_cells h7.symm
    subst e1
    refine ⟨.o u k, ⟨row, cs0, b', h6, ?_, (e2 k sz xs).1 h3, h4⟩, .inr ⟨u, o, k, h5, rfl, rfl⟩⟩
    rcases hlive o b' (live_of h2 (by rw [h1]; simp)) with ⟨u2, y2, g1, g2, g3⟩ | ⟨g1, g2, g3⟩
    ·-- the same name
     rcases h.obs u _ h6 rfl with ⟨b3, g4, _⟩ | ⟨g4, _⟩
     ·have := hcal u o b3 h5 (by rw [h6]; simp) g4
      rw [h2] at this
      injection this with this
      rw [this]; exact g4
     ·simp only [Ob.cells.injEq] at g4
      obtain ⟨_, rfl⟩ := g4
      have := (e2 k sz xs).1 h3
      simp at this
    ·rcases h.obs u _ h6 rfl with ⟨b3, g4, _⟩ | ⟨g4, _⟩
     ·have := hcal u o b3 h5 (by rw [h6]; simp) g4
      rw [h2] at this
      injection this with this
      rw [this]; exact g4
     ·simp only [Ob.cells.injEq] at g4
      obtain ⟨_, rfl⟩ := g4
      have := (e2 k sz xs).1 h3
      simp at this
   ·right
    have h8 : μ o = some b' := by rw [← hold2 o (by rw [h6]; simp)]; exact h2
    have h9 := hr.cellsLive h6 h8
    have hkp := hkeep o b' h7 h9
    rw [cell?_eq (hx.frm b' hkp (hpfl _ hkp))] at h4
    have hl : atL μ (st.app pre) tm w (.o o k) (.own sz xs) (.slice (some ⟨b, off, none⟩) n c) := ⟨row, cs, b', by rw [hpo]; exact h6, h8, h3, h4⟩
    exact ⟨hl, hpfo _ hl (fun u hu j e => by simp at e; exact h7 (e.1 ▸ hu))⟩
 refine ⟨fun t => ?_, h.heap, h.size, ?_, ?_, ?_, ?_, ?_, ⟨fun b hb => Nat.lt_of_lt_of_le (hr.Flt.1 b hb) hx.size, fun b o ho => ⟨(hr.Flt.2 b o ho).1, (hx.frm b (hFF b (hr.Flt.2 b o ho).1) (hr.Flt.1 b (hr.Flt.2 b o ho).1)).trans (hr.Flt.2 b o ho).2⟩⟩, ?_, ?_, ?_, hr.base.trans hx.le⟩
 ·rw [htm, haf]
  by_cases e : dst = some t
  ·rw [if_pos e, if_pos e]
   have := h.env 0
   rw [conSt_tm] at this
   simp [upd] at this
   exact this.ren hcal'
  ·rw [if_neg e, if_neg e]
   exact (hr1.env t).mono hx.le hmono
 ·intro o ho
  have hn : ¬ ∃ x, (o, x) ∈ backO ⟨pre, ids, mv, dst⟩ objs' news := by
   rintro ⟨x, hx'⟩
   rw [hobM o x hx'] at ho
   simp at ho
  cases hb : μ2 o with
  | none => rfl
  | some b =>
   have := hlive o b (live_of hb (by rw [ho]; simp))
   rcases this with ⟨u, y, g1, g2, g3⟩ | ⟨g1, g2, g3⟩
   ·exact absurd ⟨_, hmemC u y g2 o g1⟩ hn
   ·rw [hobN o hn] at ho
    have := (live_some g2).1
    rw [hr.dom o ho] at this
    simp at this
 ·intro o x hxo hax
  rcases hcase o x hxo hax with ⟨u, y, h5, h6, rfl⟩ | ⟨h5, h6, h7⟩
  ·rw [ren_alive] at hax
   rcases h.obs u y h6 hax with ⟨b, g1, g2⟩ | ⟨g1, g2⟩
   ·exact .inl ⟨b, hcal u o b h5 (by rw [h6]; simp) g1, g2.ren hcal'⟩
   ·subst g1
    cases hb : μ2 o with
    | none => exact .inr ⟨rfl, rfl⟩
    | some b =>
     exfalso
     rcases hlive o b (live_of hb (by rw [hxo]; simp [Ob.ren])) with ⟨u2, y2, k1, k2, k3⟩ | ⟨k1, k2, k3⟩
     ·have h8 := hbk o _ (hmemC u _ h6 o h5) _ (hmemC u2 y2 k2 o k1)
      rcases hnmo u o h5 with ⟨j, rfl⟩ | ⟨i, rfl⟩
      ·rcases (hnmp j o).1 h5 with ⟨q1, u', q2, rfl⟩ | ⟨q1, q2⟩
       ·rw [← hμ2] at hb
        simp only [postMu] at hb
        obtain ⟨j', hj'⟩ := place_of (List.mem_of_getElem? q2)
        have : j' = j := by
         obtain ⟨l1, e1⟩ := List.getElem?_eq_some_iff.1 q2
         obtain ⟨l2, e2⟩ := List.getElem?_eq_some_iff.1 (place_some hj')
         exact (List.getElem_inj p.nodup).1 (e2.trans e1.symm)
        subst this
        rw [hj'] at hb
        simp only at hb
        rw [if_pos (by simpa using q1), g2] at hb
        simp at hb
       ·obtain ⟨hj, rfl⟩ := List.getElem?_eq_some_iff.1 q2
        rw [hold2 _ (hidn _ (List.getElem_mem hj))] at hb
        rw [hfix j hj q1] at g2
        simp [parMu, hj, hb] at g2
      ·obtain ⟨d, q1, rfl⟩ := (hnms i o).1 h5
       rw [← hμ2] at hb
       simp only [postMu] at hb
       rw [conSt_ob] at h6
       have hi : i < news.length := (List.getElem?_eq_some_iff.1 h6).1
       rw [if_pos ⟨q1, hi⟩, g2] at hb
       simp at hb
     ·rcases hnmo u o h5 with ⟨j, rfl⟩ | ⟨i, rfl⟩
      ·rcases (hnmp j o).1 h5 with ⟨q1, u', q2, rfl⟩ | ⟨q1, q2⟩
       ·have := (live_some k2).1
        rw [hr.dom _ (hfr j q1 u' q2)] at this
        simp at this
       ·exact k1 (List.mem_of_getElem? q2)
      ·obtain ⟨d, q1, rfl⟩ := (hnms i o).1 h5
       rw [conSt_ob] at h6
       have := (live_some k2).1
       rw [hr.dom _ (hfs d q1 i (List.getElem?_eq_some_iff.1 h6).1)] at this
       simp at this
  ·rcases hr.obs o x h6 hax with ⟨b, g1, g2⟩ | ⟨g1, g2⟩
   ·have h9 : live st μ o = some b := live_of g1 (by rw [h6]; intro e; injection e with e; rw [e] at hax; simp [Ob.alive] at hax)
    have hkp := hkeep o b h7 h9
    exact .inl ⟨b, hmono _ _ g1, g2.keep (hx.frm b hkp (hpfl _ hkp)) hx.le hmono⟩
   ·exact .inr ⟨g1, by rw [hold2 o (by rw [h6]; simp)]; exact g2⟩
 ·intro o o' b h1 h2
  rcases hlive o b h1 with ⟨u, y, g1, g2, g3⟩ | ⟨g1, g2, g3⟩ <;> rcases hlive o' b h2 with ⟨u', y', k1, k2, k3⟩ | ⟨k1, k2, k3⟩
  ·have := h.inj _ _ _ g3 k3
   subst this
   rw [g1] at k1
   injection k1
  ·exact absurd ((hF'F b).2 k3) (h.objF _ _ g3)
  ·exact absurd ((hF'F b).2 g3) (h.objF _ _ k3)
  ·exact hr.inj _ _ _ g2 k2
 ·intro o b hb k
  rcases hlive o b hb with ⟨u, y, g1, g2, g3⟩ | ⟨g1, g2, g3⟩
  ·exact h.objH _ _ g3 k
  ·rw [hx.frH b g3 (hpfl _ g3)]
   exact hr.objH _ _ g2 k
 ·intro o b hb hF
  rcases hlive o b hb with ⟨u, y, g1, g2, g3⟩ | ⟨g1, g2, g3⟩
  ·exact h.objF _ _ g3 ((hF'F b).2 (hFF b hF))
  ·exact hr.objF _ _ g2 hF
 ·intro ℓ sz xs b off n c hl
  rcases hat _ _ _ _ _ _ _ hl with ⟨ℓ', hl', _⟩ | ⟨hl', hkp⟩
  ·obtain ⟨g1, g2, g3, g4⟩ := h.own _ _ _ _ _ _ _ hl'
   refine ⟨g1, g2, fun o ho => ?_, fun hF => g4 ((hF'F b).2 (hFF b hF))⟩
   rcases hlive o b ho with ⟨u, y, k1, k2, k3⟩ | ⟨k1, k2, k3⟩
   ·exact g3 _ k3
   ·exact g4 ((hF'F b).2 k3)
  ·obtain ⟨⟨vs, ty, g1, g1'⟩, g2, g3, g4⟩ := hr1.own _ _ _ _ _ _ _ hl'
   rw [hL1] at g3
   refine ⟨⟨vs, ty, by rw [hx.frm b hkp (hpfl _ hkp)]; exact g1, g1'⟩, fun k hk => by rw [hx.frH b hkp (hpfl _ hkp)]; exact g2 k hk, fun o ho => ?_, g4⟩
   rcases hlive o b ho with ⟨u, y, k1, k2, k3⟩ | ⟨k1, k2, k3⟩
   ·exact h.objF _ _ k3 ((hF'F b).2 hkp)
   ·exact g3 _ k2
 ·rintro ℓ ℓ' b ⟨sz1, xs1, off1, n1, c1, h1⟩ ⟨sz2, xs2, off2, n2, c2, h2⟩
  rcases hat _ _ _ _ _ _ _ h1 with ⟨q1, a1, a2⟩ | ⟨a1, k1⟩ <;> rcases hat _ _ _ _ _ _ _ h2 with ⟨q2, b1, b2⟩ | ⟨b1, k2⟩
  ·have := h.ownInj _ _ _ ⟨_, _, _, _, _, a1⟩ ⟨_, _, _, _, _, b1⟩
   subst this
   rcases a2 with ⟨d, e1, e2, e3⟩ | ⟨u, o, k, e1, e2, e3⟩ <;> rcases b2 with ⟨d', e1', e2', e3'⟩ | ⟨u', o', k', e1', e2', e3'⟩
   ·rw [e2, e2']
    rw [e1] at e1'
    injection e1' with e1'
    rw [e1']
   ·rw [e3] at e3'; simp at e3'
   ·rw [e3] at e3'; simp at e3'
   ·rw [e3] at e3'
    simp at e3'
    obtain ⟨rfl, rfl⟩ := e3'
    rw [e1] at e1'
    injection e1' with e1'
    rw [e2, e2', e1']
  ·exact absurd ((hF'F b).2 k2) (h.own _ _ _ _ _ _ _ a1).nofr
  ·exact absurd ((hF'F b).2 k1) (h.own _ _ _ _ _ _ _ b1).nofr
  ·exact hr1.ownInj _ _ _ ⟨_, _, _, _, _, a1⟩ ⟨_, _, _, _, _, b1⟩
 ·intro j hj
  have hparN : μ2 (.par j) = μ (.par j) := by rw [← hμ2]; rfl
  rw [hparN]
  by_cases hm : ∃ y, (Oid.par j, y) ∈ backO ⟨pre, ids, mv, dst⟩ objs' news
  ·refine hr.par j ?_
   obtain ⟨y, hy⟩ := hm
   rw [mem_backO] at hy
   simp only [hnm] at hy
   rcases hy with ⟨j', hj', h1, rfl⟩ | ⟨j', y0, h0, h1, rfl⟩ | ⟨i, y0, h0, h1, rfl⟩
   ·exact hidn _ (List.mem_of_getElem? h1)
   ·rcases (hnmp j' _).1 h1 with ⟨_, u, _, e⟩ | ⟨_, h3⟩
    ·simp at e
    ·exact hidn _ (List.mem_of_getElem? h3)
   ·obtain ⟨d, _, e⟩ := (hnms i _).1 h1
    simp at e
  ·rw [hobN _ hm] at hj
   exact hr.par j hj
end
end Go.Ax
set_option linter.unusedVariables false
set_option linter.constructorNameAsVariable false
set_option linter.unusedSimpArgs false
namespace Go.Ax
attribute [local simp] look_cons
section
variable {P : Program} {T : Nat → Option TI} {M : Mode} {H H' : Heap} {μ μ' : Oid → Option Nat} {F : Fr} {st st' : St} {tm tm' : Nat → Value} {w w' : World} {ρ : Operand → Value}

theorem good_op (hT : TabOk P T) (hr : Rel H μ F st tm w) (hρ : Env ρ tm) {o : Oper} {l : List Wr}
  (h : (opS T M o).run st = some (.ws l)) : Good P H μ F tm w o.dst (st.app l) (execOp ρ o) := by
 cases ho : o.op with
 | move x => exact good_move hT hr hρ ho h
 | assign x => exact good_assign hT hr hρ ho h
 | pick c a b => exact good_pick hr hρ ho h
 | alloc e => exact good_alloc hT hr hρ ho h
 | box e x => exact good_box hT hr hρ ho h
 | build t ps => exact good_build hT hr hρ ho h
 | buildSlice t n ps => exact good_buildSlice hT hr hρ ho h
 | load t a => exact good_load hT hr hρ ho h
 | store t a x => exact good_store hT hr hρ ho h
 | nilCheck x => exact good_nilCheck hr hρ ho h
 | binOp op t x y t' => exact good_binOp hT hr hρ ho h
 | unOp op t x => exact good_unOp hr hρ ho h
 | convert src dst x => exact good_convert hT hr hρ ho h
 | makeSlice t l c => exact good_makeSlice hT hr hρ ho h
 | makeMap t r => cases r with
  | none => exact good_makeMap hr ho h
  | some r => simp [opS, ho, Rd.run] at h
 | lookup t x k ok => exact good_lookup hT hr hρ ho h
 | mapUpdate t m k v => exact good_mapPut hT hr hρ (.inl ho) (by simpa [opS, ho] using h)
 | insert t m k v => exact good_mapPut hT hr hρ (.inr ho) (by simpa [opS, ho] using h)
 | mapEntry t m k => exact good_mapEntry hT hr hρ ho h
 | entryStore t m s v => exact good_entryStore hr hρ ho h
 | slice t x lo hi mx =>
  cases mx with
  | none => exact good_slice hT hr hρ ho h
  | some m => simp [opS, ho, Rd.run] at h
 | fieldAddr s x f => exact good_fieldAddr hT hr hρ ho h
 | indexAddr t x i => exact good_indexAddr hT hr hρ ho h
 | index t x i => exact good_index hT hr hρ ho h
 | extract x i => exact good_extract hr hρ ho h
 | call c =>
  obtain ⟨callee, args, at'⟩ := c
  cases callee with
  | builtin b =>
   cases b with
   | len => exact good_len hT hr hρ ho h
   | append => exact good_append hT hr hρ ho h
   | clear => exact good_clear hT hr hρ ho h
   | min => exact good_min hr hρ ho h
   | max => exact good_max hr hρ ho h
   | _ => simp [opS, ho, Rd.run] at h
  | invoke r m => simp [opS, ho, Rd.run] at h
  | value f => simp [opS, ho, Rd.run] at h
 | _ => simp [opS, ho, Rd.run] at h

theorem getObs_run {ids : List Oid} {objs : List Ob} (h : (getObs ids).run st = some objs) : objs.length = ids.length ∧ ∀ j (hj : j < ids.length) (hj' : j < objs.length), st.ob ids[j] = some objs[j] ∧ objs[j].alive = true := by
 induction ids generalizing objs with
 | nil => simp [getObs, Rd.run] at h; subst h; simp
 | cons o ids ih =>
  simp only [getObs, Rd.run] at h
  split at h
  ·simp [Rd.run] at h
  ·simp [Rd.run] at h
  ·rename_i c hnd hc
   replace h := rd_bind _ _ _ h
   obtain ⟨l, hl, h⟩ := h
   have := rd_pure h
   subst this
   obtain ⟨h1, h2⟩ := ih hl
   refine ⟨by simp [h1], fun j hj hj' => ?_⟩
   cases j with
   | zero =>
    simp only [List.getElem_cons_zero]
    refine ⟨hc, ?_⟩
    cases c with
    | dead => exact (hnd rfl).elim
    | _ => rfl
   | succ j => exact h2 j (by simpa using hj) (by simpa using hj')

theorem RepC.toS {xs : List V} {us : List Value} (h : RepC H μ xs us) : RepArgs H μ xs us :=
 ⟨h.length, fun j hj hj' => .two _ _ (.one _ _ (h.get j hj hj').2.2)⟩
theorem RepArgs.append {a b us vs} (h : RepArgs H μ a us) (h' : RepArgs H μ b vs) : RepArgs H μ (a ++ b) (us ++ vs) := by
 refine ⟨by simp [h.len, h'.len], fun j hj hj' => ?_⟩
 have hl := h.len
 by_cases e : j < a.length
 ·rw [List.getElem_append_left e, List.getElem_append_left (hl ▸ e)]
  exact h.get _ _ _
 ·rw [List.getElem_append_right (by omega), List.getElem_append_right (by omega)]
  simp only [hl]
  exact h'.get _ _ _
theorem dedup_mem : ∀ (l acc : List Oid) (o : Oid), o ∈ dedup acc l → o ∈ acc ∨ o ∈ l := by
 intro l
 induction l with
 | nil => intro acc o h; exact .inl h
 | cons u l ih =>
  intro acc o h
  simp only [dedup] at h
  split at h
  ·rcases ih _ _ h with h | h
   ·exact .inl h
   ·exact .inr (by simp [h])
  ·rcases ih _ _ h with h | h
   ·rcases List.mem_append.1 h with h | h
    ·exact .inl h
    ·simp at h; subst h; exact .inr (by simp)
   ·exact .inr (by simp [h])
theorem mvOf_lt {ids : List Oid} {args : List V} {objs : List Ob} {j : Nat} (h : j ∈ mvOf args (objs.map (Ob.ren (toPar ids)))) : j < ids.length := by
 simp only [mvOf, List.mem_filterMap] at h
 obtain ⟨o, h1, h2⟩ := h
 have h3 : o = .par j := by
  split at h2
  ·split at h2
   ·simp at h2
   ·simp at h2; subst h2; rfl
  ·simp at h2
 subst h3
 rcases dedup_mem _ _ _ h1 with h | h
 ·simp at h
 ·simp only [List.mem_flatMap, List.mem_map] at h
  obtain ⟨x, ⟨y, _, rfl⟩, hx⟩ := h
  cases y with
  | cells row l =>
   cases row with
   | true => simp [Ob.ren, Ob.slRefs] at hx
   | false =>
    simp only [Ob.ren, Ob.slRefs, List.mem_flatMap, List.mem_map] at hx
    obtain ⟨z, ⟨q, _, rfl⟩, hz⟩ := hx
    cases q with
    | sl sz o n =>
     simp only [ren1] at hz
     cases ht : toPar ids o with
     | none => rw [ht] at hz; simp [slRefs1] at hz
     | some u =>
      rw [ht] at hz
      simp only [slRefs1, List.mem_singleton] at hz
      subst hz
      obtain ⟨j', h4, h5⟩ := toPar_some ht
      injection h4 with h4
      subst h4
      exact (List.getElem?_eq_some_iff.1 h5).1
    | ref o off => simp only [ren1] at hz; cases ht : toPar ids o <;> rw [ht] at hz <;> simp [slRefs1] at hz
    | mp o => simp only [ren1] at hz; cases ht : toPar ids o <;> rw [ht] at hz <;> simp [slRefs1] at hz
    | _ => simp [ren1, slRefs1] at hz
  | map => simp [Ob.ren, Ob.slRefs] at hx
  | dead => simp [Ob.ren, Ob.slRefs] at hx

/-- A call: what stands ahead of it, and what its contract leaves. -/
def CallStep (P : Program) (H : Heap) (μ : Oid → Option Nat) (F : Fr) (st : St) (tm : Nat → Value) (w : World) (dst : Option Nat) (args : List V) (objs : List Ob) (nw : Nat) (way : Way) (us : List Value) : Prop :=
 args.length = us.length ∧ ∃ (Fc : Fr) (μc : Oid → Option Nat), Fc.B = F.B ∧ Rel H μc Fc (conSt args objs []) (argTm us) w ∧
  ∀ (r : V) (objs' news : List Ob) (v : Value) (H' : Heap) (μ' : Oid → Option Nat) (F' : Fr) (w' : World), objs'.length = objs.length → news.length ≤ nw → F'.F = Fc.F → F'.B = F.B →
   (∀ j, j < objs.length → j ∉ mvOf args objs → μ' (.par j) = μc (.par j)) → Rel H' μ' F' (conSt [r] objs' news) (upd noTm 0 v) w' → Ext Fc H w H' w' →
   ∃ μ2, Rel H' μ2 F (st.app (back way r objs' news)) (after dst tm v) w' ∧ Ext F H w H' w'

theorem callO_run (hr : Rel H μ F st tm w) {f g : FuncId} {vs : List V} {us : List Value} (hvs : RepArgs H μ vs us) {gv : Option (Nat × Nat)} {nw nw' : Nat} {dst : Option Nat} {args objs way}
  (hgv : ∀ j t, gv = some (j, t) → ∃ ti, vs[j]? = some (fixT ti (st.tm t)) ∧ us[j]? = some (tm t))
  (h : (callO gv nw f vs dst).run st = some (.call g args objs nw' way)) :
  g = f ∧ CallStep P H μ F st tm w dst args objs nw' way us := by
 unfold callO at h
 replace h := rd_bind _ _ _ h
 obtain ⟨o0, _, h⟩ := h
 dsimp only at h
 replace h := rd_bind _ _ _ h
 obtain ⟨o1, _, h⟩ := h
 replace h := rd_bind _ _ _ h
 obtain ⟨objs0, h0, h⟩ := h
 replace h := rd_bind _ _ _ h
 obtain ⟨_, hf, h⟩ := h
 have := rd_pure h
 simp only [Res.call.injEq] at this
 obtain ⟨rfl, rfl, rfl, rfl, rfl⟩ := this
 obtain ⟨h1, h2⟩ := getObs_run h0
 generalize hids : dedup (dedup (dedup [] (vs.flatMap refsV)) (o0.flatMap Ob.refs)) (o1.flatMap Ob.refs) = ids at *
 have hnd : ids.Nodup := by
  rw [← hids]
  exact dedup_nodup _ _ (dedup_nodup _ _ (dedup_nodup _ _ List.nodup_nil))
 have p : Pass st ids objs0 := ⟨hnd, h1, h2⟩
 generalize hmv : mvOf ((weakBut gv vs).map (renV (toPar ids))) (objs0.map (Ob.ren (toPar ids))) = mv at *
 have hfr := fresh_run hf
 refine ⟨rfl, by rw [List.length_map, weakBut_len, hvs.len], passF F.B μ st tm w ids (gv.map (·.2)), parMu ids μ, rfl, ?_, ?_⟩
 ·refine p.pre hr hvs fun j t hg sz xs b off n c e1 e2 => ?_
  obtain ⟨ti, k1, k2⟩ := hgv j t hg
  rw [e1] at k1
  rw [e2] at k2
  injection k1 with k1
  injection k2 with k2
  refine ⟨?_, k2.symm⟩
  by_cases hn : st.tm t = .nils
  ·have := hr.env t
   rw [hn] at this
   rw [this.nils] at k2
   simp at k2
  ·have : fixT ti (st.tm t) = st.tm t := by
    unfold fixT
    split
    ·rename_i e; exact absurd e hn
    ·rfl
   rw [← this]; exact k1.symm
 ·intro r objs' news v H' μ' F' w' hl hnw hFF hFB hfix hrel hx
  have hpre : ∃ hr1 : Rel H μ F (st.app (preOf gv vs)) tm w, (∀ o, (st.app (preOf gv vs)).ob o = st.ob o) ∧ (∀ t, gv.map (·.2) = some t → ∀ b, Holds μ st tm w (.t t) b → ∀ ℓ, ¬ Holds μ (st.app (preOf gv vs)) tm w ℓ b) ∧
    ∀ ℓ b, Holds μ (st.app (preOf gv vs)) tm w ℓ b → Holds μ st tm w ℓ b := by
   cases gv with
   | none => exact ⟨hr, fun _ => rfl, by simp, fun _ _ h => h⟩
   | some q =>
    obtain ⟨j, t⟩ := q
    obtain ⟨ti, k1, k2⟩ := hgv j t rfl
    simp only [preOf, St.app]
    have hv : vs.getD j .any = fixT ti (st.tm t) := by rw [List.getD_eq_getElem?_getD, k1]; rfl
    rw [hv]
    have hno : ∀ sz xs, (fixT ti (st.tm t)).weak ≠ .own sz xs := by
     intro sz xs e
     have := weak_not_own (fixT ti (st.tm t))
     rw [e] at this
     simp [V.isOwn] at this
    have hput := hr.put (t := t) (x := (fixT ti (st.tm t)).weak) (v := tm t) (fixT_rep' (hr.env t)).weak (fun sz xs b off n c e => absurd e (hno sz xs))
    have hup : upd tm t (tm t) = tm := by
     funext a
     by_cases e : a = t
     ·subst e; simp [upd]
     ·simp [upd, e]
    rw [hup] at hput
    have hat : ∀ ℓ b, Holds μ (st.put t (fixT ti (st.tm t)).weak) tm w ℓ b → ℓ ≠ .t t ∧ Holds μ st tm w ℓ b := by
     rintro ℓ b ⟨sz, xs, off, n, c, hl⟩
     cases ℓ with
     | t m =>
      obtain ⟨g1, g2⟩ := hl
      rw [St.tm_put] at g1
      split at g1
      ·exact absurd g1 (hno _ _)
      ·rename_i hne
       exact ⟨by simp; exact fun e => hne e.symm, sz, xs, off, n, c, g1, g2⟩
     | o u k => exact ⟨by simp, sz, xs, off, n, c, hl⟩
    refine ⟨hput, fun _ => rfl, fun t' ht b hb ℓ hl => ?_, fun ℓ b hl => (hat ℓ b hl).2⟩
    simp at ht
    subst ht
    obtain ⟨a1, a2⟩ := hat ℓ b hl
    exact a1 (hr.ownInj _ _ _ a2 hb)
  obtain ⟨hr1, q1, q2, q3⟩ := hpre
  refine ⟨postMu ids mv dst news.length μ μ', ?_⟩
  refine p.post hr hr1 q1 q2 q3 (fun j hj => ?_) (fun j hj o ho => hfr _ (by simp only [List.mem_append, List.mem_filterMap]; exact .inl ⟨j, hj, by rw [ho]; rfl⟩)) (fun d hd i hi => hfr _ ?_) (by simpa [h1] using hl)
   (fun j hj hjm => hfix j (by simpa [h1] using hj) (by rw [hmv]; exact hjm)) hFF hFB hrel hx
  ·rw [← hmv] at hj
   exact mvOf_lt hj
  ·subst hd
   simp only [List.mem_append, List.mem_map, List.mem_range]
   exact .inr ⟨i, by omega, rfl⟩

theorem ren_back1 {ids : List Oid} {dst : Option Nat} {v : V} (h : ∀ o ∈ refs1 v, (place o ids).isSome = true) : ren1 (ofPar ids [] dst) (ren1 (toPar ids) v) = v := by
 have key : ∀ o, (place o ids).isSome = true → ∃ u, toPar ids o = some u ∧ ofPar ids [] dst u = some o := by
  intro o ho
  obtain ⟨j, hj⟩ := Option.isSome_iff_exists.1 ho
  have ht : toPar ids o = some (.par j) := by simp [toPar, hj]
  obtain ⟨j', h4, h5⟩ := toPar_some ht
  injection h4 with h4
  subst h4
  exact ⟨_, ht, by simpa [ofPar] using h5⟩
 cases v with
 | ref o off => obtain ⟨u, h1, h2⟩ := key o (h o (by simp [refs1])); simp [ren1, h1, h2]
 | sl sz o n => obtain ⟨u, h1, h2⟩ := key o (h o (by simp [refs1])); simp [ren1, h1, h2]
 | mp o => obtain ⟨u, h1, h2⟩ := key o (h o (by simp [refs1])); simp [ren1, h1, h2]
 | _ => rfl
theorem ren_backO {ids : List Oid} {dst : Option Nat} {x : Ob} (h : ∀ o ∈ x.refs, (place o ids).isSome = true) : (x.ren (toPar ids)).ren (ofPar ids [] dst) = x := by
 cases x with
 | cells row l =>
  cases row with
  | true => rfl
  | false =>
   simp only [Ob.ren, List.map_map]
   congr 1
   conv => rhs; rw [← List.map_id l]
   refine List.map_congr_left fun v hv => ?_
   exact ren_back1 fun o ho => h o (by simp only [Ob.refs, List.mem_flatMap]; exact ⟨v, hv, ho⟩)
 | map => rfl
 | dead => rfl
/-- The same for a call that leaves all as it is. -/
def CallStepP (P : Program) (H : Heap) (μ : Oid → Option Nat) (F : Fr) (st : St) (tm : Nat → Value) (w : World) (dst : Option Nat) (args : List V) (objs : List Ob) (way : Way) (us : List Value) : Prop :=
 args.length = us.length ∧ ∃ (Fc : Fr) (μc : Oid → Option Nat), Fc.B = F.B ∧ Rel H μc Fc (conSt args objs []) (argTm us) w ∧
  ∀ (r : V) (v : Value) (H' : Heap) (μ' : Oid → Option Nat) (F' : Fr) (w' : World), F'.F = Fc.F → F'.B = F.B →
   (∀ j, j < objs.length → μ' (.par j) = μc (.par j)) → Rel H' μ' F' (conSt [r] objs []) (upd noTm 0 v) w' → Ext Fc H w H' w' →
   ∃ μ2, Rel H' μ2 F (st.app (back way r [] [])) (after dst tm v) w' ∧ Ext F H w H' w'

theorem callP_run (hr : Rel H μ F st tm w) {f g : FuncId} {vs : List V} {us : List Value} (hvs : RepArgs H μ vs us) {nw' : Nat} {dst : Option Nat} {args objs way}
  (h : (callP f vs dst).run st = some (.call g args objs nw' way)) :
  g = f + 1000000 ∧ CallStepP P H μ F st tm w dst args objs way us := by
 unfold callP at h
 replace h := rd_bind _ _ _ h
 obtain ⟨o0, _, h⟩ := h
 dsimp only at h
 replace h := rd_bind _ _ _ h
 obtain ⟨o1, _, h⟩ := h
 replace h := rd_bind _ _ _ h
 obtain ⟨objs0, h0, h⟩ := h
 split at h
 ·rename_i hall
  have := rd_pure h
  simp only [Res.call.injEq] at this
  obtain ⟨rfl, rfl, rfl, rfl, rfl⟩ := this
  obtain ⟨h1, h2⟩ := getObs_run h0
  generalize hids : dedup (dedup (dedup [] (vs.flatMap refsV)) (o0.flatMap Ob.refs)) (o1.flatMap Ob.refs) = ids at *
  have hnd : ids.Nodup := by
   rw [← hids]
   exact dedup_nodup _ _ (dedup_nodup _ _ (dedup_nodup _ _ List.nodup_nil))
  have p : Pass st ids objs0 := ⟨hnd, h1, h2⟩
  refine ⟨rfl, by rw [List.length_map, weakBut_len, hvs.len], passF F.B μ st tm w ids none, parMu ids μ, rfl, ?_, ?_⟩
  ·exact p.pre (gv := none) hr hvs fun j t hg => by cases hg
  ·intro r v H' μ' F' w' hFF hFB hfix hrel hx
   refine ⟨postMu ids [] dst 0 μ μ', ?_⟩
   obtain ⟨k1, k2⟩ := p.post (objs' := objs0.map (Ob.ren (toPar ids))) (news := []) (mv := []) (dst := dst) (pre := []) (gt := none) (r := r) (v := v) hr hr (fun _ => rfl) (by simp) (fun _ _ h => h) (by simp) (by simp) (by simp)
    (by simpa using h1) (fun j hj _ => hfix j (by simpa [h1] using hj)) hFF hFB hrel hx
   refine ⟨?_, k2⟩
   simp only [back, List.nil_append, St.app_append] at k1 ⊢
   have hL : ∀ o y, (o, y) ∈ backO ⟨[], ids, [], dst⟩ (objs0.map (Ob.ren (toPar ids))) [] → st.ob o = some y := by
    intro o y hy
    simp only [backO, List.filterMap_nil, List.nil_append, List.append_nil, List.mem_filterMap, List.zipIdx_nil] at hy
    obtain ⟨⟨z, j⟩, hz, hy⟩ := hy
    have hz := List.mem_zipIdx' hz
    obtain ⟨hj, hz⟩ := hz
    simp only [List.getElem_map] at hz
    simp only [List.length_map] at hj
    have hj' : j < ids.length := h1 ▸ hj
    simp only [ofPar, List.contains_nil, Bool.false_eq_true, if_false, List.getElem?_eq_getElem hj', Option.map_some, Option.some.injEq, Prod.mk.injEq] at hy
    obtain ⟨rfl, rfl⟩ := hy
    rw [(h2 j hj' hj).1, hz]
    congr 1
    symm
    refine ren_backO fun o ho => ?_
    simp only [List.all_eq_true, List.mem_flatMap] at hall
    exact hall o ⟨_, List.getElem_mem hj, ho⟩
   have hob : ∀ o, (st.app ((backO ⟨[], ids, [], dst⟩ (objs0.map (Ob.ren (toPar ids))) []).map fun x => Wr.o x.1 x.2)).ob o = st.ob o := by
    intro o
    by_cases hm : ∃ y, (o, y) ∈ backO ⟨[], ids, [], dst⟩ (objs0.map (Ob.ren (toPar ids))) []
    ·obtain ⟨y, hy⟩ := hm
     rw [app_ob_mem _ _ ⟨y, hy⟩ fun y' hy' => by have := hL _ _ hy'; rw [hL _ _ hy] at this; injection this with this; exact this.symm, hL _ _ hy]
    ·exact app_ob_not _ _ hm
   have htm := app_tm_o (backO ⟨[], ids, [], dst⟩ (objs0.map (Ob.ren (toPar ids))) []) st
   refine k1.congr (fun t => ?_) (fun o => ?_)
   ·cases dst with
    | none => simp only [out, St.app]; exact (htm t).symm
    | some d => simp only [out, St.app, St.tm_put]; split; rfl; exact (htm t).symm
   ·cases dst with
    | none => simp only [out, St.app]; exact (hob o).symm
    | some d => simp only [out, St.app, St.ob_put]; exact (hob o).symm
 ·simp [Rd.run] at h
/-- What a call does, by the contract that is asked for. -/
def CallG (P : Program) (H : Heap) (μ : Oid → Option Nat) (F : Fr) (st : St) (tm : Nat → Value) (w : World) (dst : Option Nat) (f : FuncId) (args : List V) (objs : List Ob) (nw : Nat) (way : Way) (g : FuncId) (us : List Value) : Prop :=
 ∀ (r : V) (objs' news : List Ob), COk P F.B f args objs r objs' news → news.length ≤ nw → (callFunc g us.toArray).run P w = .ok (.enter g us.toArray) w ∧
  Calls P g us.toArray w fun e w' => ∃ v H' μ2, e = .returned v ∧ Rel H' μ2 F (st.app (back way r objs' news)) (after dst tm v) w' ∧ Ext F H w H' w'
theorem callS_run (hr : Rel H μ F st tm w) {f g : FuncId} {vs : List V} {us : List Value} (hvs : RepArgs H μ vs us) {gv : Option (Nat × Nat)} {nw nw' : Nat} {dst : Option Nat} {args objs way}
  (hgv : ∀ j t, gv = some (j, t) → ∃ ti, vs[j]? = some (fixT ti (st.tm t)) ∧ us[j]? = some (tm t))
  (h : (callS gv nw f vs dst).run st = some (.call g args objs nw' way)) : CallG P H μ F st tm w dst g args objs nw' way f us := by
 unfold callS at h
 split at h
 ·obtain ⟨rfl, c1, Fc, μc, c2, c3, c4⟩ := callP_run (P := P) hr hvs h
  intro r objs' news hc hnw
  rw [COk.ge (Nat.le_add_left _ _), Nat.add_sub_cancel] at hc
  obtain ⟨rfl, rfl, hc⟩ := hc
  refine ⟨hc.enter _ _, Calls.mono (hc.calls H Fc w μc us c2 c1 c3) ?_⟩
  rintro e w1 ⟨v, H1, μ1, F1, rfl, h7, h8, h9, h10, h11⟩
  obtain ⟨μ2, k1, k2⟩ := c4 r v H1 μ1 F1 w1 h7 (h8.trans c2) (fun j hj => h9 j hj (by simp)) h10 h11
  exact ⟨v, H1, μ2, rfl, k1, k2⟩
 ·split at h
  ·rename_i hlt
   obtain ⟨rfl, c1, Fc, μc, c2, c3, c4⟩ := callO_run (P := P) hr hvs hgv h
   intro r objs' news hc hnw
   rw [COk.lt hlt] at hc
   refine ⟨hc.enter _ _, Calls.mono (hc.calls H Fc w μc us c2 c1 c3) ?_⟩
   rintro e w1 ⟨v, H1, μ1, F1, rfl, h7, h8, h9, h10, h11⟩
   obtain ⟨μ2, k1, k2⟩ := c4 r objs' news v H1 μ1 F1 w1 hc.len hnw h7 (h8.trans c2) h9 h10 h11
   exact ⟨v, H1, μ2, rfl, k1, k2⟩
  ·simp [Rd.run] at h

theorem RepS.clo_inv {g : FuncId} {first caps : List V} {v : Value} (h : RepS H μ (.clo g first caps) v) :
  ∃ u1 u2 : List Value, v = .func (.func g) u1.toArray u2.toArray ∧ RepC H μ first u1 ∧ RepC H μ caps u2 := by
 cases h with
 | two _ _ h => cases h with
  | clo _ _ _ us vs h h' => exact ⟨us, vs, rfl, h, h'⟩
  | one _ _ h => cases h with | data _ _ h => cases h

/-- Every operation: what it writes, or the call that it makes. -/
theorem opF_run (hT : TabOk P T) (hr : Rel H μ F st tm w) (hρ : Env ρ tm) {o : Oper} {r : Res} (h : (opF T M o).run st = some r) :
  (∃ l, r = .ws l ∧ Good P H μ F tm w o.dst (st.app l) (execOp ρ o)) ∨
  ∃ f args objs nw way g us, r = .call f args objs nw way ∧ CallG P H μ F st tm w o.dst f args objs nw way g us ∧ (execOp ρ o).run P w = (callFunc g us.toArray).run P w := by
 have hform : ∀ (gv : Option (Nat × Nat)) (nw : Nat) (f : FuncId) (vs : List V) (dst : Option Nat), (callS gv nw f vs dst).run st = some r → ∃ g args objs nw' way, r = .call g args objs nw' way := by
  intro gv nw f vs dst h
  unfold callS at h
  split at h
  ·unfold callP at h
   replace h := rd_bind _ _ _ h
   obtain ⟨_, _, h⟩ := h
   dsimp only at h
   replace h := rd_bind _ _ _ h
   obtain ⟨_, _, h⟩ := h
   replace h := rd_bind _ _ _ h
   obtain ⟨_, _, h⟩ := h
   split at h
   ·exact ⟨_, _, _, _, _, rd_pure h⟩
   ·simp [Rd.run] at h
  ·split at h
   ·unfold callO at h
    replace h := rd_bind _ _ _ h
    obtain ⟨_, _, h⟩ := h
    dsimp only at h
    replace h := rd_bind _ _ _ h
    obtain ⟨_, _, h⟩ := h
    replace h := rd_bind _ _ _ h
    obtain ⟨_, _, h⟩ := h
    replace h := rd_bind _ _ _ h
    obtain ⟨_, _, h⟩ := h
    exact ⟨_, _, _, _, _, rd_pure h⟩
   ·simp [Rd.run] at h
 unfold opF at h
 split at h
 ·rename_i fo as_ at' ho
  right
  replace h := rd_bind _ _ _ h
  obtain ⟨vs, hvs, h⟩ := h
  obtain ⟨e1, e2⟩ := evs_rep hr hρ hvs
  dsimp only at h
  split at h
  ·rename_i hlen
   have hargs : RepArgs H μ (vs.zipWith (fun v t => fixT (T t) v) at'.toList) (as_.toList.map ρ) := by
    refine ⟨by rw [hlen]; simp, fun j hj hj' => ?_⟩
    simp only [List.getElem_zipWith, List.getElem_map]
    have hjv : j < vs.length := by simp at hj; omega
    exact fixT_rep' (e2 j hjv (by simpa using hj')).1
   have hgv : ∀ (f : FuncId) (j t : Nat), gvOf M f as_.toList = some (j, t) → ∃ ti, (vs.zipWith (fun v t => fixT (T t) v) at'.toList)[j]? = some (fixT ti (st.tm t)) ∧ (as_.toList.map ρ)[j]? = some (tm t) := by
    intro f j t hg
    unfold gvOf at hg
    split at hg
    ·split at hg
     ·rename_i i _ _ t' ht'
      simp at hg
      obtain ⟨rfl, rfl⟩ := hg
      obtain ⟨hlt, hx⟩ := List.getElem?_eq_some_iff.1 ht'
      have hjl : i < (vs.zipWith (fun v t => fixT (T t) v) at'.toList).length := by rw [hlen]; simpa using hlt
      have hjv : i < vs.length := by simp at hjl; omega
      have hev := (e2 i hjv (by simpa using hlt)).2
      rw [hx] at hev
      simp [ev, Rd.run] at hev
      refine ⟨T (at'.toList[i]'(by simp at hjl ⊢; omega)), ?_, ?_⟩
      ·rw [List.getElem?_eq_getElem hjl, List.getElem_zipWith, hev]
      ·rw [List.getElem?_map, ht', Option.map_some, hρ.tmp]
     ·simp at hg
    ·simp at hg
   split at h
   ·rename_i g
    obtain ⟨gg, args, objs, nw', way, rfl⟩ := hform _ _ _ _ _ h
    have h3 := callS_run (P := P) hr hargs (hgv g) h
    refine ⟨gg, args, objs, nw', way, g, _, rfl, h3, ?_⟩
    have hrf := hρ.func g
    simp only [execOp, ho, resolve, Sem.run_bind, Deferred.ofValue, hrf, Sem.run_pure, Result.andThen_ok, invoke]
    congr 2
    apply Array.ext'
    simp
   ·replace h := rd_bind _ _ _ h
    obtain ⟨fv, hfv, h⟩ := h
    have hrf := ev_rep hr hρ hfv
    split at h
    ·rename_i g
     obtain ⟨gg, args, objs, nw', way, rfl⟩ := hform _ _ _ _ _ h
     have h3 := callS_run (P := P) hr hargs (by simp) h
     refine ⟨gg, args, objs, nw', way, g, _, rfl, h3, ?_⟩
     simp only [execOp, ho, resolve, Sem.run_bind, Deferred.ofValue, hrf.fn, Sem.run_pure, Result.andThen_ok, invoke]
     congr 2
     apply Array.ext'
     simp
    ·rename_i g first caps
     obtain ⟨u1, u2, c1, c2, c3⟩ := hrf.clo_inv
     obtain ⟨gg, args, objs, nw', way, rfl⟩ := hform _ _ _ _ _ h
     have h3 := callS_run (P := P) hr ((c2.toS.append hargs).append c3.toS) (by simp) h
     refine ⟨gg, args, objs, nw', way, g, _, rfl, h3, ?_⟩
     simp only [execOp, ho, resolve, Sem.run_bind, Deferred.ofValue, c1, Sem.run_pure, Result.andThen_ok, invoke]
     congr 2
     apply Array.ext'
     simp
    ·simp [Rd.run] at h
  ·simp [Rd.run] at h
 ·left
  replace h := rd_bind _ _ _ h
  obtain ⟨l, hl, h⟩ := h
  cases l with
  | ws l => exact ⟨l, rd_pure h, good_op hT hr hρ hl⟩
end
end Go.Ax
set_option linter.unusedVariables false
set_option linter.unusedSimpArgs false
namespace Go.Ax
attribute [local simp] look_cons

def tmOf (a : Act) (t : Nat) : Value := a.tmps.getD t undef
/-- What is known of an activation beside what its temporaries stand for: its deferred calls, and temporaries that stay as they are. -/
structure Pin where
 ds : List Deferred
 ks : List Nat
 fx : Nat → Value
def okD (n : Nat) (D : Pin) (d : Nat) : Prop := d < n ∧ D.ks.contains d = false
structure AtS (H : Heap) (μ : Oid → Option Nat) (F : Fr) (st : St) (a : Act) (w : World) (n : Nat) (D : Pin) : Prop where
 rel : Rel H μ F st (tmOf a) w
 size : a.tmps.size = n
 defers : a.defers = D.ds
 fix : ∀ t, D.ks.contains t = true → a.tmps[t]? = some (D.fx t)

section
variable {P : Program} {T : Nat → Option TI} {M : Mode} {H H' : Heap} {μ μ' : Oid → Option Nat} {F : Fr} {st st' : St} {w w' : World} {a : Act} {n : Nat} {D : Pin}

theorem env_of (a : Act) : Env a.eval (tmOf a) := ⟨fun t => rfl, fun v => rfl, fun f => rfl⟩
theorem tmOf_put (a : Act) (dst : Option Nat) (v : Value) (hd : ∀ d, dst = some d → d < a.tmps.size) : ∀ t, tmOf (a.put dst v) t = after dst (tmOf a) v t := by
 intro t
 cases dst with
 | none => rfl
 | some d =>
  have := hd d rfl
  simp only [tmOf, Act.put, after, upd]
  by_cases e : t = d
  ·subst e; simp [this]
  ·simp [e, Array.getD_eq_getD_getElem?, Array.getElem?_setIfInBounds, Ne.symm e]
theorem AtS.put {H' μ' st' w'} (h : AtS H μ F st a w n D) {dst : Option Nat} {v : Value} (hd : ∀ d, dst = some d → okD n D d) (hr : Rel H' μ' F st' (after dst (tmOf a) v) w') :
  AtS H' μ' F st' (a.put dst v) w' n D := by
 refine ⟨hr.tmCongr (tmOf_put a dst v (by rw [h.size]; exact fun d hdd => (hd d hdd).1)), ?_, ?_, fun t ht => ?_⟩
 ·cases dst <;> simp [Act.put, h.size]
 ·cases dst <;> simp [Act.put, h.defers]
 ·cases dst with
  | none => exact h.fix t ht
  | some d =>
   have := (hd d rfl).2
   have hne : d ≠ t := by rintro rfl; rw [ht] at this; cases this
   simp only [Act.put, Array.getElem?_setIfInBounds, if_neg hne]
   exact h.fix t ht

theorem _root_.Go.Ax.RepS.tup0 {v : Value} (h : RepS H μ (.tup []) v) : v = .tuple #[] := by
 cases h with
 | two _ _ h => cases h with
  | one _ _ h => cases h with
   | data _ _ h => cases h
 | tup _ _ h => cases h; rfl
theorem wanted_run (h : AtS H μ F st a w n D) {ops : List Oper} {o : Oper} {b : Option Bool} (hw : (wanted ops o).run st = some b) (hb : b ≠ none) : some (Region.wanted o (yielded ops.toArray a.tmps)) = b := by
 unfold wanted at hw
 split at hw
 ·rename_i hg
  simp [Rd.run] at hw
  subst hw
  simp [Region.wanted, hg]
 ·rename_i j want hg
  split at hw
  ·rename_i t ht
   simp only [Rd.run] at hw
   split at hw
   ·rename_i x hx
    simp [Rd.run] at hw
    subst hw
    have hv := (hx ▸ h.rel.env t).bool
    have htm : a.tmps[t]? = some (.bool x) := by
     simp only [tmOf, Array.getD_eq_getD_getElem?] at hv
     cases hq : a.tmps[t]? with
     | none => rw [hq] at hv; simp [undef] at hv
     | some u => rw [hq] at hv; simp at hv; rw [hv]
    have ht' : (ops.toArray[j]?).bind (·.dst) = some t := by simpa using ht
    have hy : yielded ops.toArray a.tmps j = some x := by
     unfold yielded
     rw [ht']
     simp [htm]
    simp [Region.wanted, hg, hy]
   ·rename_i hx
    simp [Rd.run] at hw
    subst hw
    have hv : tmOf a t = .tuple #[] := RepS.tup0 (hx ▸ h.rel.env t)
    have ht' : (ops.toArray[j]?).bind (·.dst) = some t := by simpa using ht
    have hy : yielded ops.toArray a.tmps j = none := by
     unfold yielded
     rw [ht']
     simp only [tmOf, Array.getD_eq_getD_getElem?] at hv
     cases hq : a.tmps[t]? with
     | none => simp [hq]
     | some u => rw [hq] at hv; simp at hv; simp [hq, hv]
    simp [Region.wanted, hg, hy]
   ·simp [Rd.run] at hw; exact absurd hw.symm hb
  ·simp [Rd.run] at hw; exact absurd hw.symm hb

theorem runOps_sound (hT : TabOk P T) {ops : List Oper} {K : Exit → Act → World → Prop} : ∀ (l : List Oper) {H μ st a w} {Q : St → Prop}, (∀ o ∈ l, ∀ d, o.dst = some d → okD n D d) →
  runOps (COk P F.B) T M ops l st Q → AtS H μ F st a w n D →
  (∀ st' a' w' H' μ', Q st' → AtS H' μ' F st' a' w' n D → Ext F H w H' w' → K .normal a' w') → wpList P ops.toArray K l a w := by
 intro l
 induction l with
 | nil =>
  intro H μ st a w Q _ hrun hat hK
  exact hK st a w H μ hrun hat (Ext.refl _ _ _)
 | cons o rest ih =>
  intro H μ st a w Q hd hrun hat hK
  have hd0 : ∀ d, o.dst = some d → okD n D d := hd o (by simp)
  have hdr : ∀ o ∈ rest, ∀ d, o.dst = some d → okD n D d := fun o' ho => hd o' (by simp [ho])
  simp only [runOps] at hrun
  simp only [wpList]
  split at hrun
  ·rename_i hw
   have hwant := wanted_run hat hw (by simp)
   simp at hwant
   rw [hwant, if_pos rfl]
   left
   split at hrun
   ·rename_i lw hop
    rcases opF_run hT hat.rel (env_of a) hop with ⟨l', e, hgood⟩ | ⟨_, _, _, _, _, _, _, e, _⟩
    ·simp at e
     subst e
     obtain ⟨H1, μ1, w1, u, v, h1, h2, h3, h4⟩ := hgood
     simp only [Oper.wp, h1]
     have hnext : wpList P ops.toArray K rest (a.put o.dst v) w1 := ih hdr hrun (hat.put hd0 h3) (fun st' a' w' H' μ' hq hat' hx => hK st' a' w' H' μ' hq hat' (h4.trans hx))
     rcases h2 with rfl | ⟨rfl, rfl⟩
     ·exact hnext
     ·exact hnext
    ·simp at e
   ·rename_i f args objs nw way hop
    rcases opF_run hT hat.rel (env_of a) hop with ⟨l', e, _⟩ | ⟨f', args', objs', nw', way', g', us, e, c1, h6⟩
    ·simp at e
    ·simp only [Res.call.injEq] at e
     obtain ⟨rfl, rfl, rfl, rfl, rfl⟩ := e
     obtain ⟨r, objs1, news, hc, hnw, hrun⟩ := hrun
     obtain ⟨c2, c3⟩ := c1 _ _ _ hc hnw
     simp only [Oper.wp, h6, c2, Oper.upon_enter]
     refine Calls.mono c3 ?_
     rintro e w1 ⟨v, H1, μ2, rfl, k1, k2⟩
     exact ih hdr hrun (hat.put hd0 k1) (fun st' a' w' H' μ' hq hat' hx => hK st' a' w' H' μ' hq hat' (k2.trans hx))
   ·exact hrun.elim
  ·rename_i hw
   have hwant := wanted_run hat hw (by simp)
   simp at hwant
   rw [hwant, if_neg (by simp)]
   have hrel : Rel H μ F (st.app (out o.dst (.tup []))) (after o.dst (tmOf a) undef) w := out_rel' hat.rel (.tup _ _ .nil) rfl
   exact ih hdr hrun (hat.put hd0 hrel) hK
  ·exact hrun.elim

theorem look_map (l : List Nat) (f : Nat → V) (t : Nat) : look t (l.map fun u => (u, f u)) = if t ∈ l then f t else .any := by
 induction l with
 | nil => rfl
 | cons u l ih =>
  simp only [List.map_cons, look, ih]
  by_cases e : u = t
  ·subst e; simp
  ·simp [e, Ne.symm e]
theorem keep_mem {l : List Oid} {o : Oid} : (place o l).isSome = true ↔ o ∈ l := by
 constructor
 ·intro h
  obtain ⟨j, hj⟩ := Option.isSome_iff_exists.1 h
  exact List.mem_of_getElem? (place_some hj)
 ·intro h
  obtain ⟨j, hj⟩ := place_of h
  simp [hj]
theorem root_root (o : Oid) : o.root.root = o.root := by
 induction o with
 | alt o ih => exact ih
 | _ => rfl
theorem root_goal (h : Hint) (o : Oid) : (goal h o).root = o.root := by
 unfold goal
 split <;> rfl
theorem root_cur (st : St) : ∀ (n : Nat) (o : Oid), (cur st n o).root = o.root := by
 intro n
 induction n with
 | zero => intro o; rfl
 | succ n ih =>
  intro o
  simp only [cur]
  split
  ·rw [ih]; rfl
  ·rfl
theorem root_curH (h : Hint) (st : St) (o : Oid) : (curH h st o).root = o.root := by
 unfold curH
 split
 ·split
  ·exact root_cur _ _ _
  ·rfl
 ·exact root_cur _ _ _
theorem restrict_ob (h : Hint) (st : St) (t : Oid) : (restrict h st).ob t = if t.root ∈ h.liveO ∧ goal h t.root = t then (st.ob (curH h st t.root)).map (Ob.ren (keep h st)) else none := by
 simp only [restrict, St.ob]
 have key : ∀ l : List Oid, lookO t (l.filterMap (obR h st)) = if t.root ∈ l ∧ goal h t.root = t then (lookO (curH h st t.root) st.obs).map (Ob.ren (keep h st)) else none := by
  intro l
  induction l with
  | nil => simp [lookO]
  | cons r l ih =>
   rw [List.filterMap_cons]
   by_cases hr : r.root = r ∧ goal h r = t
   ·obtain ⟨h1, h2⟩ := hr
    have h3 : t.root = r := by rw [← h2, root_goal, h1]
    simp only [obR, h1, if_true, St.ob]
    cases hx : lookO (curH h st r) st.obs with
    | none =>
     simp only [Option.map_none]
     rw [ih, h3, hx]
     simp
    | some x =>
     simp only [Option.map_some, lookO, h2, if_true]
     rw [if_pos ⟨by rw [h3]; simp, by rw [h3]; exact h2⟩, h3, hx]
     rfl
   ·have hne : ¬ (r = t.root ∧ goal h t.root = t) := by
     rintro ⟨rfl, h2⟩
     exact hr ⟨root_root t, h2⟩
    have hiff : (t.root ∈ r :: l ∧ goal h t.root = t) ↔ (t.root ∈ l ∧ goal h t.root = t) := by
     constructor
     ·rintro ⟨h1, h2⟩
      rcases List.mem_cons.1 h1 with h1 | h1
      ·exact absurd ⟨h1.symm, h2⟩ hne
      ·exact ⟨h1, h2⟩
     ·rintro ⟨h1, h2⟩
      exact ⟨List.mem_cons_of_mem _ h1, h2⟩
    simp only [hiff]
    cases hob : obR h st r with
    | none => exact ih
    | some p =>
     simp only [lookO]
     rw [if_neg, ih]
     rintro rfl
     unfold obR at hob
     split at hob
     ·rename_i h1
      rw [Option.map_eq_some_iff] at hob
      obtain ⟨x, _, h2⟩ := hob
      exact hr ⟨h1, by rw [← h2]⟩
     ·simp at hob
 exact key h.liveO
/-- What nobody asks for any more is forgotten. -/
theorem restrict_rel {tm} (h : Rel H μ F st tm w) (hi : Hint) : ∃ μ', Rel H μ' F (restrict hi st) tm w := by
 generalize hμ' : (fun t : Oid => if t.root ∈ hi.liveO ∧ goal hi t.root = t then μ (curH hi st t.root) else none) = μ'
 refine ⟨μ', ?_⟩
 have hμt : ∀ t, μ' t = if t.root ∈ hi.liveO ∧ goal hi t.root = t then μ (curH hi st t.root) else none := fun t => by rw [← hμ']
 have hkp : ∀ o u, keep hi st o = some u → o.root ∈ hi.liveO ∧ curH hi st o.root = o ∧ u = goal hi o.root := by
  intro o u h1
  unfold keep at h1
  split at h1
  ·rename_i hk
   split at h1
   ·rename_i hc
    injection h1 with h1
    exact ⟨keep_mem.1 hk, hc, h1.symm⟩
   ·simp at h1
  ·simp at h1
 have hf : ∀ o u b, keep hi st o = some u → μ o = some b → μ' u = some b := by
  intro o u b h1 h2
  obtain ⟨g1, g2, rfl⟩ := hkp o u h1
  rw [hμt, root_goal, root_root, if_pos ⟨g1, rfl⟩, g2]
  exact h2
 have htm : ∀ t, (restrict hi st).tm t = if t ∈ hi.live then renV (keep hi st) (st.tm t) else .any := fun t => look_map _ _ _
 have hob := restrict_ob hi st
 have hsub : ∀ o b, μ' o = some b → (o.root ∈ hi.liveO ∧ goal hi o.root = o) ∧ μ (curH hi st o.root) = some b := by
  intro o b hb
  rw [hμt] at hb
  split at hb
  ·rename_i hc; exact ⟨hc, hb⟩
  ·simp at hb
 have hlv : ∀ o b, live (restrict hi st) μ' o = some b → (o.root ∈ hi.liveO ∧ goal hi o.root = o) ∧ live st μ (curH hi st o.root) = some b := by
  intro o b hb
  obtain ⟨h1, h2⟩ := live_some hb
  obtain ⟨h3, h4⟩ := hsub o b h1
  refine ⟨h3, live_of h4 fun e => h2 ?_⟩
  rw [hob, if_pos h3, e]
  rfl
 have hat : ∀ ℓ sz xs b off n c, atL μ' (restrict hi st) tm w ℓ (.own sz xs) (.slice (some ⟨b, off, none⟩) n c) →
   (∃ t, ℓ = .t t ∧ atL μ st tm w (.t t) (.own sz xs) (.slice (some ⟨b, off, none⟩) n c)) ∨ ∃ o k, ℓ = .o o k ∧ goal hi o.root = o ∧ atL μ st tm w (.o (curH hi st o.root) k) (.own sz xs) (.slice (some ⟨b, off, none⟩) n c) := by
  intro ℓ sz xs b off n c hl
  cases ℓ with
  | t m =>
   obtain ⟨h1, h2⟩ := hl
   rw [htm] at h1
   split at h1
   ·rw [renV_own] at h1
    exact .inl ⟨m, rfl, h1, h2⟩
   ·simp at h1
  | o o k =>
   obtain ⟨row, cs, b', h1, h2, h3, h4⟩ := hl
   rw [hob] at h1
   split at h1
   ·rename_i hc
    rw [Option.map_eq_some_iff] at h1
    obtain ⟨x, h5, h6⟩ := h1
    obtain ⟨cs0, e1, e2⟩ := ren_cells h6
    exact .inr ⟨o, k, rfl, hc.2, row, cs0, b', by rw [h5, e1], (hsub _ _ h2).2, (e2 k sz xs).1 h3, h4⟩
   ·simp at h1
 refine ⟨fun t => ?_, h.heap, h.size, fun o ho => ?_, fun o x hx hax => ?_, fun o o' b h1 h2 => ?_, fun o b hb => h.objH _ b (hlv o b hb).2, fun o b hb => h.objF _ b (hlv o b hb).2, h.Flt, ?_, ?_, fun j hj => ?_, h.base⟩
 ·rw [htm]
  split
  ·exact (h.env t).ren hf
  ·exact .two _ _ (.one _ _ (.any _))
 ·rw [hob] at ho
  rw [hμt]
  split at ho
  ·rename_i hc
   rw [if_pos hc]
   rw [Option.map_eq_none_iff] at ho
   exact h.dom _ ho
  ·rename_i hc; rw [if_neg hc]
 ·rw [hob] at hx
  split at hx
  ·rename_i hc
   rw [Option.map_eq_some_iff] at hx
   obtain ⟨y, h1, rfl⟩ := hx
   rw [ren_alive] at hax
   rw [hμt, if_pos hc]
   rcases h.obs _ y h1 hax with ⟨b, h2, h3⟩ | ⟨h2, h3⟩
   ·exact .inl ⟨b, h2, h3.ren hf⟩
   ·subst h2
    exact .inr ⟨rfl, h3⟩
  ·simp at hx
 ·obtain ⟨⟨_, g1⟩, g2⟩ := hlv o b h1
  obtain ⟨⟨_, g3⟩, g4⟩ := hlv o' b h2
  have := congrArg Oid.root (h.inj _ _ _ g2 g4)
  rw [root_curH, root_curH, root_root, root_root] at this
  rw [← g1, ← g3, this]
 ·intro ℓ sz xs b off n c hl
  have hmk : ∀ e t, OwnAt H (live st μ) F w b e t → OwnAt H (live (restrict hi st) μ') F w b e t := fun e t ⟨g1, g2, g3, g4⟩ => ⟨g1, g2, fun o ho => g3 _ (hlv o b ho).2, g4⟩
  rcases hat _ _ _ _ _ _ _ hl with ⟨t, _, hl2⟩ | ⟨o, k, _, _, hl2⟩
  ·exact hmk _ _ (h.own _ _ _ _ _ _ _ hl2)
  ·exact hmk _ _ (h.own _ _ _ _ _ _ _ hl2)
 ·rintro ℓ ℓ' b ⟨sz1, xs1, off1, n1, c1, h1⟩ ⟨sz2, xs2, off2, n2, c2, h2⟩
  rcases hat _ _ _ _ _ _ _ h1 with ⟨t, rfl, h3⟩ | ⟨o, k, rfl, e, h3⟩ <;> rcases hat _ _ _ _ _ _ _ h2 with ⟨t', rfl, h4⟩ | ⟨o', k', rfl, e', h4⟩
  ·exact h.ownInj _ _ _ ⟨_, _, _, _, _, h3⟩ ⟨_, _, _, _, _, h4⟩
  ·have := h.ownInj _ _ _ ⟨_, _, _, _, _, h3⟩ ⟨_, _, _, _, _, h4⟩
   simp at this
  ·have := h.ownInj _ _ _ ⟨_, _, _, _, _, h3⟩ ⟨_, _, _, _, _, h4⟩
   simp at this
  ·have := h.ownInj _ _ _ ⟨_, _, _, _, _, h3⟩ ⟨_, _, _, _, _, h4⟩
   simp only [Loc.o.injEq] at this
   have h5 := congrArg Oid.root this.1
   rw [root_curH, root_curH, root_root, root_root] at h5
   rw [← e, ← e', h5, this.2]
 ·rw [hob] at hj
  split at hj
  ·rename_i hc
   rw [hμt, if_pos hc]
   have hr : (Oid.par j).root = .par j := rfl
   rw [hr] at hc hj ⊢
   have hnm : (place (.par j) hi.mvd).isSome = false := by
    cases hq : (place (.par j) hi.mvd).isSome with
    | false => rfl
    | true =>
     have := hc.2
     simp [goal, hq] at this
   have hcur : curH hi st (.par j) = .par j := by simp [curH, hnm]
   rw [hcur] at hj ⊢
   exact h.par j (fun e => by rw [e] at hj; simp at hj)
  ·exact absurd rfl hj
end
end Go.Ax
