/- A part of the proof of a law of this seat: no condition. -/
import Derived.Test.YtblmmaecklgbhaaAxRun
import Derived.Tactics
set_option linter.unusedVariables false
set_option linter.unusedSimpArgs false
namespace Go.Ax
attribute [local simp] look_cons

def tmOf (a : Act) (t : Nat) : Value := a.tmps.getD t undef
structure AtS (H : Heap) (μ : Oid → Option Nat) (F : Fr) (st : St) (a : Act) (w : World) (n : Nat) (D : List Deferred) : Prop where
  rel : Rel H μ F st (tmOf a) w
  size : a.tmps.size = n
  defers : a.defers = D

section
variable {P : Program} {T : Nat → Option TI} {M : Mode} {H H' : Heap} {μ μ' : Oid → Option Nat} {F : Fr} {st st' : St} {w w' : World} {a : Act} {n : Nat} {D : List Deferred}

theorem env_of (a : Act) : Env a.eval (tmOf a) := ⟨fun t => rfl, fun v => rfl, fun f => rfl⟩
theorem tmOf_put (a : Act) (dst : Option Nat) (v : Value) (hd : ∀ d, dst = some d → d < a.tmps.size) : ∀ t, tmOf (a.put dst v) t = after dst (tmOf a) v t := by
  intro t
  cases dst with
  | none => rfl
  | some d =>
    have := hd d rfl
    simp only [tmOf, Act.put, after, upd]
    by_cases e : t = d
    · subst e; simp [this]
    · simp [e, Array.getD_eq_getD_getElem?, Array.getElem?_setIfInBounds, Ne.symm e]
theorem AtS.put {H' μ' st' w'} (h : AtS H μ F st a w n D) {dst : Option Nat} {v : Value} (hd : ∀ d, dst = some d → d < n) (hr : Rel H' μ' F st' (after dst (tmOf a) v) w') :
    AtS H' μ' F st' (a.put dst v) w' n D := by
  refine ⟨hr.tmCongr (tmOf_put a dst v (by rw [h.size]; exact hd)), ?_, ?_⟩
  · cases dst <;> simp [Act.put, h.size]
  · cases dst <;> simp [Act.put, h.defers]

theorem _root_.Go.Ax.RepS.tup0 {v : Value} (h : RepS H μ (.tup []) v) : v = .tuple #[] := by
  cases h with
  | two _ _ h => cases h with
    | one _ _ h => cases h with
      | data _ _ h => cases h
  | tup _ _ h => cases h; rfl
theorem wanted_run (h : AtS H μ F st a w n D) {ops : List Oper} {o : Oper} {b : Option Bool} (hw : (wanted ops o).run st = some b) (hb : b ≠ none) : some (Region.wanted o (yielded ops.toArray a.tmps)) = b := by
  unfold wanted at hw
  split at hw
  · rename_i hg
    simp [Rd.run] at hw
    subst hw
    simp [Region.wanted, hg]
  · rename_i j want hg
    split at hw
    · rename_i t ht
      simp only [Rd.run] at hw
      split at hw
      · rename_i x hx
        simp [Rd.run] at hw
        subst hw
        have hv := (hx ▸ h.rel.env t).bool
        have htm : a.tmps[t]? = some (.bool x) := by
          simp only [tmOf, Array.getD_eq_getD_getElem?] at hv
          cases hq : a.tmps[t]? with
          | none => rw [hq] at hv; simp [undef] at hv
          | some u => rw [hq] at hv; simp at hv; rw [hv]
        have ht' : (ops.toArray[j]?).bind (·.dst) = some t := by simpa using ht
        have hy : yielded ops.toArray a.tmps j = some x := by
          unfold yielded
          rw [ht']
          simp [htm]
        simp [Region.wanted, hg, hy]
      · rename_i hx
        simp [Rd.run] at hw
        subst hw
        have hv : tmOf a t = .tuple #[] := RepS.tup0 (hx ▸ h.rel.env t)
        have ht' : (ops.toArray[j]?).bind (·.dst) = some t := by simpa using ht
        have hy : yielded ops.toArray a.tmps j = none := by
          unfold yielded
          rw [ht']
          simp only [tmOf, Array.getD_eq_getD_getElem?] at hv
          cases hq : a.tmps[t]? with
          | none => simp [hq]
          | some u => rw [hq] at hv; simp at hv; simp [hq, hv]
        simp [Region.wanted, hg, hy]
      · simp [Rd.run] at hw; exact absurd hw.symm hb
    · simp [Rd.run] at hw; exact absurd hw.symm hb

theorem runOps_sound (hT : TabOk P T) {ops : List Oper} {K : Exit → Act → World → Prop} : ∀ (l : List Oper) {H μ st a w} {Q : St → Prop}, (∀ o ∈ l, ∀ d, o.dst = some d → d < n) →
    runOps (CallOk P F.B) T M ops l st Q → AtS H μ F st a w n D →
    (∀ st' a' w' H' μ', Q st' → AtS H' μ' F st' a' w' n D → Ext F H w H' w' → K .normal a' w') → wpList P ops.toArray K l a w := by
  intro l
  induction l with
  | nil =>
    intro H μ st a w Q _ hrun hat hK
    exact hK st a w H μ hrun hat (Ext.refl _ _ _)
  | cons o rest ih =>
    intro H μ st a w Q hd hrun hat hK
    have hd0 : ∀ d, o.dst = some d → d < n := hd o (by simp)
    have hdr : ∀ o ∈ rest, ∀ d, o.dst = some d → d < n := fun o' ho => hd o' (by simp [ho])
    simp only [runOps] at hrun
    simp only [wpList]
    split at hrun
    · rename_i hw
      have hwant := wanted_run hat hw (by simp)
      simp at hwant
      rw [hwant, if_pos rfl]
      left
      split at hrun
      · rename_i lw hop
        rcases opF_run hT hat.rel (env_of a) hop with ⟨l', e, hgood⟩ | ⟨_, _, _, _, _, _, e, _⟩
        · simp at e
          subst e
          obtain ⟨H1, μ1, w1, u, v, h1, h2, h3, h4⟩ := hgood
          simp only [Oper.wp, h1]
          have hnext : wpList P ops.toArray K rest (a.put o.dst v) w1 := ih hdr hrun (hat.put hd0 h3) (fun st' a' w' H' μ' hq hat' hx => hK st' a' w' H' μ' hq hat' (h4.trans hx))
          rcases h2 with rfl | ⟨rfl, rfl⟩
          · exact hnext
          · exact hnext
        · simp at e
      · rename_i f args objs nw way hop
        rcases opF_run hT hat.rel (env_of a) hop with ⟨l', e, _⟩ | ⟨f', args', objs', nw', way', us, e, ⟨c1, Fc, μc, c2, c3, c4⟩, h6⟩
        · simp at e
        · simp only [Res.call.injEq] at e
          obtain ⟨rfl, rfl, rfl, rfl, rfl⟩ := e
          obtain ⟨r, objs1, news, hc, hnw, hrun⟩ := hrun
          simp only [Oper.wp, h6, hc.enter, Oper.upon_enter]
          refine Calls.mono (hc.calls H Fc w μc us c2 c1 c3) ?_
          rintro e w1 ⟨v, H1, μ1, F1, rfl, h7, h8, h9, h10, h11⟩
          obtain ⟨μ2, k1, k2⟩ := c4 r objs1 news v H1 μ1 F1 w1 hc.len hnw h7 (h8.trans c2) h9 h10 h11
          exact ih hdr hrun (hat.put hd0 k1) (fun st' a' w' H' μ' hq hat' hx => hK st' a' w' H' μ' hq hat' (k2.trans hx))
      · exact hrun.elim
    · rename_i hw
      have hwant := wanted_run hat hw (by simp)
      simp at hwant
      rw [hwant, if_neg (by simp)]
      have hrel : Rel H μ F (st.app (out o.dst (.tup []))) (after o.dst (tmOf a) undef) w := out_rel' hat.rel (.tup _ _ .nil) rfl
      exact ih hdr hrun (hat.put hd0 hrel) hK
    · exact hrun.elim

theorem look_map (l : List Nat) (f : Nat → V) (t : Nat) : look t (l.map fun u => (u, f u)) = if t ∈ l then f t else .any := by
  induction l with
  | nil => rfl
  | cons u l ih =>
    simp only [List.map_cons, look, ih]
    by_cases e : u = t
    · subst e; simp
    · simp [e, Ne.symm e]
theorem keep_mem {l : List Oid} {o : Oid} : (place o l).isSome = true ↔ o ∈ l := by
  constructor
  · intro h
    obtain ⟨j, hj⟩ := Option.isSome_iff_exists.1 h
    exact List.mem_of_getElem? (place_some hj)
  · intro h
    obtain ⟨j, hj⟩ := place_of h
    simp [hj]
theorem root_root (o : Oid) : o.root.root = o.root := by
  induction o with
  | alt o ih => exact ih
  | _ => rfl
theorem root_goal (h : Hint) (o : Oid) : (goal h o).root = o.root := by
  unfold goal
  split <;> rfl
theorem root_cur (st : St) : ∀ (n : Nat) (o : Oid), (cur st n o).root = o.root := by
  intro n
  induction n with
  | zero => intro o; rfl
  | succ n ih =>
    intro o
    simp only [cur]
    split
    · rw [ih]; rfl
    · rfl
theorem root_curH (h : Hint) (st : St) (o : Oid) : (curH h st o).root = o.root := by
  unfold curH
  split
  · split
    · exact root_cur _ _ _
    · rfl
  · exact root_cur _ _ _
theorem restrict_ob (h : Hint) (st : St) (t : Oid) : (restrict h st).ob t = if t.root ∈ h.liveO ∧ goal h t.root = t then (st.ob (curH h st t.root)).map (Ob.ren (keep h st)) else none := by
  simp only [restrict, St.ob]
  have key : ∀ l : List Oid, lookO t (l.filterMap (obR h st)) = if t.root ∈ l ∧ goal h t.root = t then (lookO (curH h st t.root) st.obs).map (Ob.ren (keep h st)) else none := by
    intro l
    induction l with
    | nil => simp [lookO]
    | cons r l ih =>
      rw [List.filterMap_cons]
      by_cases hr : r.root = r ∧ goal h r = t
      · obtain ⟨h1, h2⟩ := hr
        have h3 : t.root = r := by rw [← h2, root_goal, h1]
        simp only [obR, h1, if_true, St.ob]
        cases hx : lookO (curH h st r) st.obs with
        | none =>
          simp only [Option.map_none]
          rw [ih, h3, hx]
          simp
        | some x =>
          simp only [Option.map_some, lookO, h2, if_true]
          rw [if_pos ⟨by rw [h3]; simp, by rw [h3]; exact h2⟩, h3, hx]
          rfl
      · have hne : ¬ (r = t.root ∧ goal h t.root = t) := by
          rintro ⟨rfl, h2⟩
          exact hr ⟨root_root t, h2⟩
        have hiff : (t.root ∈ r :: l ∧ goal h t.root = t) ↔ (t.root ∈ l ∧ goal h t.root = t) := by
          constructor
          · rintro ⟨h1, h2⟩
            rcases List.mem_cons.1 h1 with h1 | h1
            · exact absurd ⟨h1.symm, h2⟩ hne
            · exact ⟨h1, h2⟩
          · rintro ⟨h1, h2⟩
            exact ⟨List.mem_cons_of_mem _ h1, h2⟩
        simp only [hiff]
        cases hob : obR h st r with
        | none => exact ih
        | some p =>
          simp only [lookO]
          rw [if_neg, ih]
          rintro rfl
          unfold obR at hob
          split at hob
          · rename_i h1
            rw [Option.map_eq_some_iff] at hob
            obtain ⟨x, _, h2⟩ := hob
            exact hr ⟨h1, by rw [← h2]⟩
          · simp at hob
  exact key h.liveO
/-- What nobody asks for any more is forgotten. -/
theorem restrict_rel {tm} (h : Rel H μ F st tm w) (hi : Hint) : ∃ μ', Rel H μ' F (restrict hi st) tm w := by
  generalize hμ' : (fun t : Oid => if t.root ∈ hi.liveO ∧ goal hi t.root = t then μ (curH hi st t.root) else none) = μ'
  refine ⟨μ', ?_⟩
  have hμt : ∀ t, μ' t = if t.root ∈ hi.liveO ∧ goal hi t.root = t then μ (curH hi st t.root) else none := fun t => by rw [← hμ']
  have hkp : ∀ o u, keep hi st o = some u → o.root ∈ hi.liveO ∧ curH hi st o.root = o ∧ u = goal hi o.root := by
    intro o u h1
    unfold keep at h1
    split at h1
    · rename_i hk
      split at h1
      · rename_i hc
        injection h1 with h1
        exact ⟨keep_mem.1 hk, hc, h1.symm⟩
      · simp at h1
    · simp at h1
  have hf : ∀ o u b, keep hi st o = some u → μ o = some b → μ' u = some b := by
    intro o u b h1 h2
    obtain ⟨g1, g2, rfl⟩ := hkp o u h1
    rw [hμt, root_goal, root_root, if_pos ⟨g1, rfl⟩, g2]
    exact h2
  have htm : ∀ t, (restrict hi st).tm t = if t ∈ hi.live then renV (keep hi st) (st.tm t) else .any := fun t => look_map _ _ _
  have hob := restrict_ob hi st
  have hsub : ∀ o b, μ' o = some b → (o.root ∈ hi.liveO ∧ goal hi o.root = o) ∧ μ (curH hi st o.root) = some b := by
    intro o b hb
    rw [hμt] at hb
    split at hb
    · rename_i hc; exact ⟨hc, hb⟩
    · simp at hb
  have hlv : ∀ o b, live (restrict hi st) μ' o = some b → (o.root ∈ hi.liveO ∧ goal hi o.root = o) ∧ live st μ (curH hi st o.root) = some b := by
    intro o b hb
    obtain ⟨h1, h2⟩ := live_some hb
    obtain ⟨h3, h4⟩ := hsub o b h1
    refine ⟨h3, live_of h4 fun e => h2 ?_⟩
    rw [hob, if_pos h3, e]
    rfl
  have hat : ∀ ℓ sz xs b off n c, atL μ' (restrict hi st) tm w ℓ (.own sz xs) (.slice (some ⟨b, off, none⟩) n c) →
      (∃ t, ℓ = .t t ∧ atL μ st tm w (.t t) (.own sz xs) (.slice (some ⟨b, off, none⟩) n c)) ∨ ∃ o k, ℓ = .o o k ∧ goal hi o.root = o ∧ atL μ st tm w (.o (curH hi st o.root) k) (.own sz xs) (.slice (some ⟨b, off, none⟩) n c) := by
    intro ℓ sz xs b off n c hl
    cases ℓ with
    | t m =>
      obtain ⟨h1, h2⟩ := hl
      rw [htm] at h1
      split at h1
      · rw [renV_own] at h1
        exact .inl ⟨m, rfl, h1, h2⟩
      · simp at h1
    | o o k =>
      obtain ⟨row, cs, b', h1, h2, h3, h4⟩ := hl
      rw [hob] at h1
      split at h1
      · rename_i hc
        rw [Option.map_eq_some_iff] at h1
        obtain ⟨x, h5, h6⟩ := h1
        obtain ⟨cs0, e1, e2⟩ := ren_cells h6
        exact .inr ⟨o, k, rfl, hc.2, row, cs0, b', by rw [h5, e1], (hsub _ _ h2).2, (e2 k sz xs).1 h3, h4⟩
      · simp at h1
  refine ⟨fun t => ?_, h.heap, h.size, fun o ho => ?_, fun o x hx hax => ?_, fun o o' b h1 h2 => ?_, fun o b hb => h.objH _ b (hlv o b hb).2, fun o b hb => h.objF _ b (hlv o b hb).2, h.Flt, ?_, ?_, fun j hj => ?_, h.base⟩
  · rw [htm]
    split
    · exact (h.env t).ren hf
    · exact .two _ _ (.one _ _ (.any _))
  · rw [hob] at ho
    rw [hμt]
    split at ho
    · rename_i hc
      rw [if_pos hc]
      rw [Option.map_eq_none_iff] at ho
      exact h.dom _ ho
    · rename_i hc; rw [if_neg hc]
  · rw [hob] at hx
    split at hx
    · rename_i hc
      rw [Option.map_eq_some_iff] at hx
      obtain ⟨y, h1, rfl⟩ := hx
      rw [ren_alive] at hax
      rw [hμt, if_pos hc]
      rcases h.obs _ y h1 hax with ⟨b, h2, h3⟩ | ⟨h2, h3⟩
      · exact .inl ⟨b, h2, h3.ren hf⟩
      · subst h2
        exact .inr ⟨rfl, h3⟩
    · simp at hx
  · obtain ⟨⟨_, g1⟩, g2⟩ := hlv o b h1
    obtain ⟨⟨_, g3⟩, g4⟩ := hlv o' b h2
    have := congrArg Oid.root (h.inj _ _ _ g2 g4)
    rw [root_curH, root_curH, root_root, root_root] at this
    rw [← g1, ← g3, this]
  · intro ℓ sz xs b off n c hl
    have hmk : ∀ e t, OwnAt H (live st μ) F w b e t → OwnAt H (live (restrict hi st) μ') F w b e t := fun e t ⟨g1, g2, g3, g4⟩ => ⟨g1, g2, fun o ho => g3 _ (hlv o b ho).2, g4⟩
    rcases hat _ _ _ _ _ _ _ hl with ⟨t, _, hl2⟩ | ⟨o, k, _, _, hl2⟩
    · exact hmk _ _ (h.own _ _ _ _ _ _ _ hl2)
    · exact hmk _ _ (h.own _ _ _ _ _ _ _ hl2)
  · rintro ℓ ℓ' b ⟨sz1, xs1, off1, n1, c1, h1⟩ ⟨sz2, xs2, off2, n2, c2, h2⟩
    rcases hat _ _ _ _ _ _ _ h1 with ⟨t, rfl, h3⟩ | ⟨o, k, rfl, e, h3⟩ <;> rcases hat _ _ _ _ _ _ _ h2 with ⟨t', rfl, h4⟩ | ⟨o', k', rfl, e', h4⟩
    · exact h.ownInj _ _ _ ⟨_, _, _, _, _, h3⟩ ⟨_, _, _, _, _, h4⟩
    · have := h.ownInj _ _ _ ⟨_, _, _, _, _, h3⟩ ⟨_, _, _, _, _, h4⟩
      simp at this
    · have := h.ownInj _ _ _ ⟨_, _, _, _, _, h3⟩ ⟨_, _, _, _, _, h4⟩
      simp at this
    · have := h.ownInj _ _ _ ⟨_, _, _, _, _, h3⟩ ⟨_, _, _, _, _, h4⟩
      simp only [Loc.o.injEq] at this
      have h5 := congrArg Oid.root this.1
      rw [root_curH, root_curH, root_root, root_root] at h5
      rw [← e, ← e', h5, this.2]
  · rw [hob] at hj
    split at hj
    · rename_i hc
      rw [hμt, if_pos hc]
      have hr : (Oid.par j).root = .par j := rfl
      rw [hr] at hc hj ⊢
      have hnm : (place (.par j) hi.mvd).isSome = false := by
        cases hq : (place (.par j) hi.mvd).isSome with
        | false => rfl
        | true =>
          have := hc.2
          simp [goal, hq] at this
      have hcur : curH hi st (.par j) = .par j := by simp [curH, hnm]
      rw [hcur] at hj ⊢
      exact h.par j (fun e => by rw [e] at hj; simp at hj)
    · exact absurd rfl hj
end
end Go.Ax
