/- A part of the proof of a law of this seat: no condition. -/
import Derived.Test.YtblmmaecklgbhaaAxSound
import Derived.Orders
set_option linter.unusedVariables false
set_option linter.unusedSimpArgs false
namespace Go.Ax
attribute [local simp] look_cons

/-- Two states that nobody can tell apart. -/
def Alike (a b : St) : Prop := (∀ t, a.tm t = b.tm t) ∧ ∀ o, a.ob o = b.ob o
def agree (l : List Wh) (a b : St) : Prop := (∀ t, Wh.t t ∈ l → a.tm t = b.tm t) ∧ ∀ o, Wh.o o ∈ l → a.ob o = b.ob o
theorem Alike.refl (a : St) : Alike a a := ⟨fun _ => rfl, fun _ => rfl⟩
theorem Alike.symm {a b : St} (h : Alike a b) : Alike b a := ⟨fun t => (h.1 t).symm, fun o => (h.2 o).symm⟩
theorem Alike.trans {a b c : St} (h : Alike a b) (h' : Alike b c) : Alike a c := ⟨fun t => (h.1 t).trans (h'.1 t), fun o => (h.2 o).trans (h'.2 o)⟩
theorem Alike.agree {a b : St} (h : Alike a b) (l : List Wh) : agree l a b := ⟨fun t _ => h.1 t, fun o _ => h.2 o⟩

section
variable {α : Type} {st st' st1 st2 : St}
theorem run_agree (x : Rd α) (h : agree (x.reads st) st st') : x.run st' = x.run st ∧ x.reads st' = x.reads st := by
  induction x with
  | ret a => exact ⟨rfl, rfl⟩
  | fail => exact ⟨rfl, rfl⟩
  | tm t k ih =>
    have ht : st.tm t = st'.tm t := h.1 t (by simp [Rd.reads])
    have := ih (st.tm t) ⟨fun u hu => h.1 u (by simp [Rd.reads, hu]), fun o ho => h.2 o (by simp [Rd.reads, ho])⟩
    simp only [Rd.run, Rd.reads, ← ht]
    exact ⟨this.1, by rw [this.2]⟩
  | ob o k ih =>
    have ht : st.ob o = st'.ob o := h.2 o (by simp [Rd.reads])
    have := ih (st.ob o) ⟨fun u hu => h.1 u (by simp [Rd.reads, hu]), fun o ho => h.2 o (by simp [Rd.reads, ho])⟩
    simp only [Rd.run, Rd.reads, ← ht]
    exact ⟨this.1, by rw [this.2]⟩
theorem app_tm_ne (l : List Wr) : ∀ (st : St) (t : Nat), Wh.t t ∉ l.map Wr.wh → (st.app l).tm t = st.tm t := by
  induction l with
  | nil => intro st t _; rfl
  | cons x l ih =>
    intro st t h
    simp at h
    cases x with
    | t u v =>
      simp only [St.app]
      rw [ih _ _ (by simpa using h.2), St.tm_put]
      have : u ≠ t := fun e => h.1 (by simp [Wr.wh, e])
      simp [this]
    | o u c =>
      simp only [St.app]
      rw [ih _ _ (by simpa using h.2)]
      rfl
theorem app_ob_ne (l : List Wr) : ∀ (st : St) (o : Oid), Wh.o o ∉ l.map Wr.wh → (st.app l).ob o = st.ob o := by
  induction l with
  | nil => intro st o _; rfl
  | cons x l ih =>
    intro st o h
    simp at h
    cases x with
    | t u v =>
      simp only [St.app]
      rw [ih _ _ (by simpa using h.2)]
      rfl
    | o u c =>
      simp only [St.app]
      rw [ih _ _ (by simpa using h.2), St.ob_putO]
      have : u ≠ o := fun e => h.1 (by simp [Wr.wh, e])
      simp [this]
/-- Writes onto states that are alike here stay alike here. -/
theorem app_tm_same (l : List Wr) : ∀ (a b : St) (t : Nat), (Wh.t t ∈ l.map Wr.wh ∨ a.tm t = b.tm t) → (a.app l).tm t = (b.app l).tm t := by
  induction l with
  | nil => intro a b t h; simpa [St.app] using h
  | cons x l ih =>
    intro a b t h
    rw [List.map_cons, List.mem_cons] at h
    cases x with
    | t u v =>
      simp only [St.app]
      refine ih _ _ _ ?_
      by_cases e : u = t
      · right; simp [St.tm_put, e]
      · rcases h with (h | h) | h
        · simp only [Wr.wh, Wh.t.injEq] at h; exact absurd h.symm e
        · left; exact h
        · right; simp [St.tm_put, e, h]
    | o u c =>
      simp only [St.app]
      refine ih _ _ _ ?_
      rcases h with (h | h) | h
      · simp [Wr.wh] at h
      · left; exact h
      · right; exact h
theorem app_ob_same (l : List Wr) : ∀ (a b : St) (o : Oid), (Wh.o o ∈ l.map Wr.wh ∨ a.ob o = b.ob o) → (a.app l).ob o = (b.app l).ob o := by
  induction l with
  | nil => intro a b o h; simpa [St.app] using h
  | cons x l ih =>
    intro a b o h
    rw [List.map_cons, List.mem_cons] at h
    cases x with
    | t u v =>
      simp only [St.app]
      refine ih _ _ _ ?_
      rcases h with (h | h) | h
      · simp [Wr.wh] at h
      · left; exact h
      · right; exact h
    | o u c =>
      simp only [St.app]
      refine ih _ _ _ ?_
      by_cases e : u = o
      · right; simp [St.ob_putO, e]
      · rcases h with (h | h) | h
        · simp only [Wr.wh, Wh.o.injEq] at h; exact absurd h.symm e
        · left; exact h
        · right; simp [St.ob_putO, e, h]
theorem Alike.app {a b : St} (h : Alike a b) (l : List Wr) : Alike (a.app l) (b.app l) :=
  ⟨fun t => app_tm_same l a b t (.inr (h.1 t)), fun o => app_ob_same l a b o (.inr (h.2 o))⟩
theorem meets_false {a b : List Wh} (h : meets a b = false) : ∀ x ∈ a, x ∉ b := by
  intro x hx hb
  simp only [meets, List.any_eq_false] at h
  have := h x hx
  simp at this
  exact this hb
theorem app_agree {l : List Wr} {r : List Wh} (h : ∀ x ∈ l.map Wr.wh, x ∉ r) (st : St) : agree r (st.app l) st :=
  ⟨fun t ht => app_tm_ne l st t (fun hx => h _ hx ht), fun o ho => app_ob_ne l st o (fun hx => h _ hx ho)⟩
theorem app_comm {l m : List Wr} (h : ∀ x ∈ l.map Wr.wh, x ∉ m.map Wr.wh) (st : St) : Alike ((st.app l).app m) ((st.app m).app l) := by
  constructor
  · intro t
    by_cases h1 : Wh.t t ∈ m.map Wr.wh
    · rw [app_tm_ne l (st.app m) t (fun hx => h _ hx h1)]
      exact app_tm_same m _ _ t (.inl h1)
    · rw [app_tm_ne m _ t h1]
      exact app_tm_same l _ _ t (.inr (app_tm_ne m st t h1).symm)
  · intro o
    by_cases h1 : Wh.o o ∈ m.map Wr.wh
    · rw [app_ob_ne l (st.app m) o (fun hx => h _ hx h1)]
      exact app_ob_same m _ _ o (.inl h1)
    · rw [app_ob_ne m _ o h1]
      exact app_ob_same l _ _ o (.inr (app_ob_ne m st o h1).symm)
end

/-- One operation: what it writes. -/
def stepW (C : Orc) (T : Nat → Option TI) (M : Mode) (ops : List Oper) (o : Oper) (st : St) (ws : List Wr) : Prop :=
  match (wanted ops o).run st with
  | some (some true) => match (opF T M o).run st with
    | some (.ws l) => ws = l
    | some (.call f args objs nw w) => ∃ r objs' news, C f args objs r objs' news ∧ news.length ≤ nw ∧ ws = back w r objs' news
    | none => False
  | some (some false) => ws = out o.dst (.tup [])
  | _ => False
def stepR (T : Nat → Option TI) (M : Mode) (ops : List Oper) (o : Oper) (st : St) : List Wh :=
  match (wanted ops o).run st with
  | some (some true) => (wanted ops o).reads st ++ (opF T M o).reads st
  | _ => (wanted ops o).reads st

section
variable {C : Orc} {T : Nat → Option TI} {M : Mode} {ops : List Oper}
theorem step_agree {o : Oper} {st st' : St} (h : agree (stepR T M ops o st) st st') (ws : List Wr) :
    (stepW C T M ops o st' ws ↔ stepW C T M ops o st ws) ∧ stepR T M ops o st' = stepR T M ops o st := by
  have h1 : agree ((wanted ops o).reads st) st st' := by
    unfold stepR at h
    split at h
    · exact ⟨fun t ht => h.1 t (by simp [ht]), fun u hu => h.2 u (by simp [hu])⟩
    · exact h
  obtain ⟨a1, a2⟩ := run_agree _ h1
  unfold stepW stepR
  rw [a1, a2]
  split
  · rename_i hw
    have h2 : agree ((opF T M o).reads st) st st' := by
      unfold stepR at h
      rw [hw] at h
      exact ⟨fun t ht => h.1 t (by simp [ht]), fun u hu => h.2 u (by simp [hu])⟩
    obtain ⟨b1, b2⟩ := run_agree _ h2
    rw [b1, b2]
    exact ⟨Iff.rfl, rfl⟩
  · rename_i hw
    rw [hw]
    exact ⟨Iff.rfl, rfl⟩
  · rename_i h0 h1'
    refine ⟨Iff.rfl, ?_⟩
    split
    · rename_i hw; exact absurd hw (by simpa using h0)
    · rfl

/-- Operations by their places; R tells what each writes and where it looks. -/
def RunL (C : Orc) (T : Nat → Option TI) (M : Mode) (ops : List Oper) (R : Nat → List Wr × List Wh) : List Nat → St → St → Prop
  | [], st, st' => Alike st st'
  | i :: L, st, st' => ∃ o, ops[i]? = some o ∧ stepW C T M ops o st (R i).1 ∧ stepR T M ops o st = (R i).2 ∧ RunL C T M ops R L (st.app (R i).1) st'

variable {R : Nat → List Wr × List Wh}
theorem RunL.congr : ∀ (L : List Nat) {a b st' : St}, Alike a b → RunL C T M ops R L a st' → RunL C T M ops R L b st' := by
  intro L
  induction L with
  | nil => intro a b st' h hr; exact h.symm.trans hr
  | cons i L ih =>
    rintro a b st' h ⟨o, h1, h2, h3, h4⟩
    obtain ⟨g1, g2⟩ := step_agree (C := C) (T := T) (M := M) (ops := ops) (o := o) (h.agree _) (R i).1
    exact ⟨o, h1, g1.2 h2, g2.trans h3, ih (h.app _) h4⟩
def foot (R : Nat → List Wr × List Wh) (i : Nat) : Foot := ⟨(R i).2, (R i).1.map Wr.wh⟩
theorem RunL.swap {i j : Nat} {L : List Nat} {st st' : St} (hn : (foot R i).clash (foot R j) = false) (h : RunL C T M ops R (i :: j :: L) st st') : RunL C T M ops R (j :: i :: L) st st' := by
  obtain ⟨o, h1, h2, h3, o', k1, k2, k3, k4⟩ := h
  simp only [Foot.clash, foot, Bool.or_eq_false_iff] at hn
  obtain ⟨⟨n1, n2⟩, n3⟩ := hn
  have m1 := meets_false n1
  have m2 := meets_false n2
  have m3 := meets_false n3
  -- j at st
  have aj : agree (stepR T M ops o' (st.app (R i).1)) (st.app (R i).1) st := by rw [k3]; exact app_agree m1 st
  obtain ⟨g1, g2⟩ := step_agree (C := C) (T := T) (M := M) (ops := ops) (o := o') aj (R j).1
  -- i behind j
  have ai : agree (stepR T M ops o st) st (st.app (R j).1) := by
    rw [h3]
    have := app_agree (l := (R j).1) (r := (R i).2) m3 st
    exact ⟨fun t ht => (this.1 t ht).symm, fun u hu => (this.2 u hu).symm⟩
  obtain ⟨f1, f2⟩ := step_agree (C := C) (T := T) (M := M) (ops := ops) (o := o) ai (R i).1
  exact ⟨o', k1, g1.2 k2, g2.trans k3, o, h1, f1.2 h2, f2.trans h3, RunL.congr L (app_comm m2 st) k4⟩
theorem RunL.front {i : Nat} : ∀ (C1 : List Nat) {C2 : List Nat} {st st' : St}, (∀ c ∈ C1, (foot R c).clash (foot R i) = false) → RunL C T M ops R (C1 ++ i :: C2) st st' → RunL C T M ops R (i :: (C1 ++ C2)) st st' := by
  intro C1
  induction C1 with
  | nil => intro C2 st st' _ h; exact h
  | cons c C1 ih =>
    intro C2 st st' hn h
    obtain ⟨o, h1, h2, h3, h4⟩ := h
    exact RunL.swap (hn c (by simp)) ⟨o, h1, h2, h3, ih (fun d hd => hn d (by simp [hd])) h4⟩
end

section
variable {P : Program} {T : Nat → Option TI} {M : Mode} {F : Fr} {n : Nat} {D : List Deferred}

theorem step_sound (hT : TabOk P T) {ops : List Oper} {Q : Exit → Act → World → Prop} {K : Act → World → Prop} {H μ st a w} {i : Nat} {o : Oper} (ho : ops[i]? = some o) {ws : List Wr}
    (hd : ∀ d, o.dst = some d → d < n) (hs : stepW (CallOk P F.B) T M ops o st ws) (hat : AtS H μ F st a w n D)
    (hK : ∀ a' w' H' μ', AtS H' μ' F (st.app ws) a' w' n D → Ext F H w H' w' → K a' w') : wpOp P ops.toArray Q i K a w := by
  unfold wpOp
  have ho' : ops.toArray[i]? = some o := by simpa using ho
  rw [ho']
  unfold stepW at hs
  dsimp only
  split at hs
  · rename_i hw
    have hwant := wanted_run hat hw (by simp)
    simp at hwant
    rw [hwant, if_pos rfl]
    left
    split at hs
    · rename_i lw hop
      subst hs
      rcases opF_run hT hat.rel (env_of a) hop with ⟨l', e, hgood⟩ | ⟨_, _, _, _, _, _, e, _⟩
      · simp at e
        subst e
        obtain ⟨H1, μ1, w1, u, v, h1, h2, h3, h4⟩ := hgood
        simp only [Oper.wp, h1]
        have hnext : K (a.put o.dst v) w1 := hK _ _ _ _ (hat.put hd h3) h4
        rcases h2 with rfl | ⟨rfl, rfl⟩
        · exact hnext
        · exact hnext
      · simp at e
    · rename_i f args objs nw way hop
      rcases opF_run hT hat.rel (env_of a) hop with ⟨l', e, _⟩ | ⟨f', args', objs', nw', way', us, e, ⟨c1, Fc, μc, c2, c3, c4⟩, h6⟩
      · simp at e
      · simp only [Res.call.injEq] at e
        obtain ⟨rfl, rfl, rfl, rfl, rfl⟩ := e
        obtain ⟨r, objs1, news, hc, hnw, rfl⟩ := hs
        simp only [Oper.wp, h6, hc.enter, Oper.upon_enter]
        refine Calls.mono (hc.calls H Fc w μc us c2 c1 c3) ?_
        rintro e w1 ⟨v, H1, μ1, F1, rfl, h7, h8, h9, h10, h11⟩
        obtain ⟨μ2, k1, k2⟩ := c4 r objs1 news v H1 μ1 F1 w1 hc.len hnw h7 (h8.trans c2) h9 h10 h11
        exact hK _ _ _ _ (hat.put hd k1) k2
    · exact hs.elim
  · rename_i hw
    have hwant := wanted_run hat hw (by simp)
    simp at hwant
    rw [hwant, if_neg (by simp)]
    subst hs
    have hrel : Rel H μ F (st.app (out o.dst (.tup []))) (after o.dst (tmOf a) undef) w := out_rel' hat.rel (.tup _ _ .nil) rfl
    exact hK _ _ _ _ (hat.put hd hrel) (Ext.refl _ _ _)
  · exact hs.elim

/-- The canonical run. -/
theorem runD_run {C : Orc} {ops : List Oper} {Q : List Foot → St → Prop} : ∀ (l : List Oper) (k : Nat) (st : St) (fs : List Foot), l = ops.drop k → k + l.length = ops.length → runD C T M ops l st fs Q →
    ∃ (recs : List (List Wr × List Wh)) (st' : St), recs.length = l.length ∧ Q (fs ++ recs.map fun r => ⟨r.2, r.1.map Wr.wh⟩) st' ∧
      ∀ R : Nat → List Wr × List Wh, (∀ j (hj : j < recs.length), R (k + j) = recs[j]) → RunL C T M ops R (List.range' k l.length) st st' := by
  intro l
  induction l with
  | nil => intro k st fs _ _ h; exact ⟨[], st, rfl, by simpa [runD] using h, fun R _ => Alike.refl _⟩
  | cons o rest ih =>
    intro k st fs hl hk h
    have hk1 : k < ops.length := by simp at hk; omega
    have ho : ops[k]? = some o := by
      have := congrArg List.head? hl
      rw [List.head?_drop] at this
      simpa using this.symm
    have hrest : rest = ops.drop (k + 1) := by
      have := congrArg List.tail hl
      simpa using this
    have hk2 : (k + 1) + rest.length = ops.length := by simp at hk; omega
    have key : ∀ (ws : List Wr), stepW C T M ops o st ws → runD C T M ops rest (st.app ws) (fs ++ [⟨stepR T M ops o st, ws.map Wr.wh⟩]) Q →
        ∃ (recs : List (List Wr × List Wh)) (st' : St), recs.length = (o :: rest).length ∧ Q (fs ++ recs.map fun r => ⟨r.2, r.1.map Wr.wh⟩) st' ∧
          ∀ R : Nat → List Wr × List Wh, (∀ j (hj : j < recs.length), R (k + j) = recs[j]) → RunL C T M ops R (List.range' k (o :: rest).length) st st' := by
      intro ws hs hr
      obtain ⟨recs, st', e1, e2, e3⟩ := ih (k + 1) (st.app ws) _ hrest hk2 hr
      refine ⟨(ws, stepR T M ops o st) :: recs, st', by simp [e1], by simpa using e2, fun R hR => ?_⟩
      have h0 := hR 0 (by simp)
      simp at h0
      refine ⟨o, ho, by rw [h0]; exact hs, by rw [h0], ?_⟩
      rw [h0]
      exact e3 R (fun j hj => by
        have := hR (j + 1) (by simpa using hj)
        simp at this
        rw [show k + 1 + j = k + (j + 1) from by omega]
        exact this)
    simp only [runD] at h
    split at h
    · rename_i hw
      have hR : stepR T M ops o st = (wanted ops o).reads st ++ (opF T M o).reads st := by unfold stepR; rw [hw]
      split at h
      · rename_i lw hop
        refine key lw ?_ (by rw [hR]; exact h)
        unfold stepW
        rw [hw]
        simp only [hop]
      · rename_i f args objs nw way hop
        obtain ⟨r, objs', news, hc, hnw, h⟩ := h
        refine key (back way r objs' news) ?_ (by rw [hR]; exact h)
        unfold stepW
        rw [hw]
        simp only [hop]
        exact ⟨r, objs', news, hc, hnw, rfl⟩
      · exact h.elim
    · rename_i hw
      have hR : stepR T M ops o st = (wanted ops o).reads st := by unfold stepR; rw [hw]
      refine key (out o.dst (.tup [])) ?_ (by rw [hR]; exact h)
      unfold stepW
      rw [hw]
    · exact h.elim

/-- Whatever order is drawn, the end is alike. -/
theorem draw_sound (hT : TabOk P T) {ops : List Oper} (hd : ∀ o ∈ ops, ∀ d, o.dst = some d → d < n) {K : Exit → Act → World → Prop} {R : Nat → List Wr × List Wh} {fs : List Foot}
    (hok : orderOk ops fs = true) (hfs : ∀ i, i < ops.length → fs.getD i ⟨[], []⟩ = foot R i) {st' : St} {H0 : Heap} {w0 : World}
    (hK : ∀ stE a' w' H' μ', Alike stE st' → AtS H' μ' F stE a' w' n D → Ext F H0 w0 H' w' → K .normal a' w') :
    ∀ (fuel : Nat) (listed : Array Bool) (C : List Nat) (st : St) (a : Act) (w : World) (H : Heap) (μ : Oid → Option Nat), listed.size = ops.length →
      C = (List.range ops.length).filter (fun j => !listed.getD j true) → C.length = fuel → RunL (CallOk P F.B) T M ops R C st st' → AtS H μ F st a w n D → Ext F H0 w0 H w →
      (∀ j, j < ops.length → listed.getD j true = true → ∀ c ∈ (clos ops).getD j [], listed.getD c true = true) →
      wpAny P .any ops.toArray K fuel listed a w := by
  have hok' : ∀ i (hi : i < ops.length), (∀ e ∈ binding ops[i], e < i) ∧ (∀ c ∈ (clos ops).getD i [], ∃ e ∈ binding ops[i], c = e ∨ c ∈ (clos ops).getD e []) ∧
      ∀ c, c < i → (foot R c).clash (foot R i) = true → c ∈ (clos ops).getD i [] := by
    intro i hi
    simp only [orderOk, Bool.and_eq_true] at hok
    have := List.all_eq_true.1 hok.2 (ops[i], i) (by rw [List.mem_zipIdx_iff_getElem?]; simp [hi])
    simp only [Bool.and_eq_true, List.all_eq_true, decide_eq_true_eq, List.any_eq_true, Bool.or_eq_true, beq_iff_eq, Bool.not_eq_true', List.mem_range, List.contains_iff_mem] at this
    obtain ⟨⟨h1, h2⟩, h3⟩ := this
    refine ⟨h1, h2, fun c hc hcl => ?_⟩
    rcases h3 c hc with h | h
    · rw [hfs c (by omega), hfs i hi, hcl] at h
      simp at h
    · exact h
  intro fuel
  induction fuel with
  | zero =>
    intro listed C st a w H μ hls hC hlen hrun hat hx hcl
    have hC0 : C = [] := List.eq_nil_of_length_eq_zero hlen
    subst hC0
    refine ⟨?_, hK st a w H μ hrun hat hx⟩
    have : ∀ j, j < ops.length → listed.getD j true = true := by
      intro j hj
      have := List.filter_eq_nil_iff.1 hC.symm j (by simpa using hj)
      simpa using this
    refine List.filter_eq_nil_iff.2 fun j hj => ?_
    simp at hj
    simp [this j hj]
  | succ fuel ih =>
    intro listed C st a w H μ hls hC hlen hrun hat hx hcl
    have hmem : ∀ j, j ∈ C ↔ j < ops.length ∧ listed.getD j true = false := by
      intro j
      rw [hC]
      simp
    have hready : ∀ i, i ∈ Region.ready .any ops.toArray listed ↔ ∃ hi : i < ops.length, listed.getD i true = false ∧ ∀ e ∈ binding ops[i], listed.getD e false = true := by
      intro i
      simp only [Region.ready, List.mem_filter, List.mem_range, List.size_toArray, Bool.and_eq_true, Bool.not_eq_true']
      constructor
      · rintro ⟨hi, h1, h2⟩
        refine ⟨hi, h1, fun e he => ?_⟩
        simp only [binding, List.mem_map, List.mem_filter] at he
        obtain ⟨ed, ⟨he1, he2⟩, rfl⟩ := he
        simp only [List.getElem?_toArray, List.getElem?_eq_getElem hi, Option.map_some, Option.getD_some] at h2
        have := Array.all_eq_true_iff_forall_mem.1 h2 ed (by simpa using he1)
        simpa [he2] using this
      · rintro ⟨hi, h1, h2⟩
        refine ⟨hi, h1, ?_⟩
        simp only [List.getElem?_toArray, List.getElem?_eq_getElem hi, Option.map_some, Option.getD_some]
        refine Array.all_eq_true_iff_forall_mem.2 fun ed he => ?_
        by_cases hb : Region.binds .any ed = true
        · have := h2 ed.on (by simp only [binding, List.mem_map, List.mem_filter]; exact ⟨ed, ⟨by simpa using he, hb⟩, rfl⟩)
          simp [this]
        · simp [hb]
    refine ⟨fun hnil => ?_, fun i hi => ?_⟩
    · -- the least that is left is ready
      exfalso
      cases hc : C with
      | nil => rw [hc] at hlen; simp at hlen
      | cons c0 C' =>
        have hc0 : c0 ∈ C := by rw [hc]; simp
        obtain ⟨hlt, hun⟩ := (hmem c0).1 hc0
        have hmin : ∀ j, j < c0 → listed.getD j false = true := by
          intro j hj
          have hjlt : j < ops.length := by omega
          have hsorted : C.Pairwise (· < ·) := by rw [hC]; exact List.Pairwise.filter _ List.pairwise_lt_range
          by_cases hl : listed.getD j true = true
          · rw [Array.getD_eq_getD_getElem?, Array.getElem?_eq_getElem (by omega)] at hl ⊢
            exact hl
          · exfalso
            have hjm : j ∈ C := (hmem j).2 ⟨hjlt, by simpa using hl⟩
            rw [hc] at hjm hsorted
            rcases List.mem_cons.1 hjm with rfl | hjm
            · omega
            · have := (List.pairwise_cons.1 hsorted).1 j hjm
              omega
        have : c0 ∈ Region.ready .any ops.toArray listed := (hready c0).2 ⟨hlt, hun, fun e he => hmin e ((hok' c0 hlt).1 e he)⟩
        rw [hnil] at this
        simp at this
    · obtain ⟨hlt, hun, hall⟩ := (hready i).1 hi
      have him : i ∈ C := (hmem i).2 ⟨hlt, hun⟩
      obtain ⟨C1, C2, hsplit⟩ := List.append_of_mem him
      have hsorted : C.Pairwise (· < ·) := by rw [hC]; exact List.Pairwise.filter _ List.pairwise_lt_range
      have hC1 : ∀ c ∈ C1, c < i ∧ listed.getD c true = false := by
        intro c hc
        rw [hsplit] at hsorted
        exact ⟨(List.pairwise_append.1 hsorted).2.2 c hc i (by simp), ((hmem c).1 (by rw [hsplit]; simp [hc])).2⟩
      have hlt' : ∀ e : Nat, listed.getD e false = true → listed.getD e true = true := by
        intro e he
        rw [Array.getD_eq_getD_getElem?] at he ⊢
        cases hq : listed[e]? with
        | none => rfl
        | some q => rw [hq] at he; exact he
      have hlist : ∀ c ∈ (clos ops).getD i [], listed.getD c true = true := by
        intro c hc
        obtain ⟨e, he, h⟩ := (hok' i hlt).2.1 c hc
        have hle := hlt' e (hall e he)
        rcases h with rfl | h
        · exact hle
        · have : e < ops.length := by have := (hok' i hlt).1 e he; omega
          exact hcl e this hle c h
      have hno : ∀ c ∈ C1, (foot R c).clash (foot R i) = false := by
        intro c hc
        obtain ⟨h1, h2⟩ := hC1 c hc
        cases hq : (foot R c).clash (foot R i) with
        | false => rfl
        | true =>
          have := hlist c ((hok' i hlt).2.2 c h1 hq)
          rw [h2] at this
          simp at this
      rw [hsplit] at hrun
      obtain ⟨o, g1, g2, g3, g4⟩ := RunL.front C1 hno hrun
      have hoe : o = ops[i] := by rw [List.getElem?_eq_getElem hlt] at g1; injection g1 with g1; exact g1.symm
      refine step_sound hT g1 (hd o (by rw [hoe]; exact List.getElem_mem hlt)) g2 hat fun a' w' H' μ' hat' hx' => ?_
      have hset : ∀ j, (listed.setIfInBounds i true).getD j true = if j = i then true else listed.getD j true := by
        intro j
        simp only [Array.getD_eq_getD_getElem?, Array.getElem?_setIfInBounds]
        by_cases e : i = j
        · subst e; simp [show i < listed.size by omega]
        · simp [e, Ne.symm e]
      refine ih (listed.setIfInBounds i true) (C1 ++ C2) (st.app (R i).1) a' w' H' μ' (by simpa using hls) ?_ ?_ g4 hat' (hx.trans hx') ?_
      · have hnd : C.Nodup := hsorted.imp (fun h => Nat.ne_of_lt h)
        have h1 : (List.range ops.length).filter (fun j => !(listed.setIfInBounds i true).getD j true) = C.filter (fun j => decide (j ≠ i)) := by
          rw [hC, List.filter_filter]
          refine List.filter_congr fun j hj => ?_
          rw [hset]
          by_cases e : j = i <;> simp [e]
        rw [h1, hsplit, List.filter_append, List.filter_cons]
        simp only [ne_eq, not_true_eq_false, decide_false, Bool.false_eq_true, if_false]
        rw [hsplit] at hnd
        have hni := List.nodup_append.1 hnd
        rw [List.filter_eq_self.2, List.filter_eq_self.2]
        · intro c hc
          have := (List.nodup_cons.1 hni.2.1).1
          simp
          rintro rfl
          exact this hc
        · intro c hc
          have := hni.2.2 c hc i (by simp)
          simpa using this
      · rw [hsplit] at hlen
        simp at hlen ⊢
        omega
      · intro j hj hl c hc
        rw [hset] at hl ⊢
        by_cases e : j = i
        · subst e
          split
          · rfl
          · exact hlist c hc
        · rw [if_neg e] at hl
          have := hcl j hj hl c hc
          split
          · rfl
          · exact this
end
end Go.Ax
