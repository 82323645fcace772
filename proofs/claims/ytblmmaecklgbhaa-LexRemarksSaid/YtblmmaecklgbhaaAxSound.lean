/- A part of the proof of a law of this seat: no condition. -/
import Derived.Test.YtblmmaecklgbhaaAxRun
import Derived.Tactics
set_option linter.unusedVariables false
set_option linter.unusedSimpArgs false
namespace Go.Ax
attribute [local simp] look_cons

def tmOf (a : Act) (t : Nat) : Value := a.tmps.getD t undef
structure AtS (H : Heap) (μ : Oid → Option Nat) (F : Fr) (st : St) (a : Act) (w : World) (n : Nat) (D : List Deferred) : Prop where
  rel : Rel H μ F st (tmOf a) w
  size : a.tmps.size = n
  defers : a.defers = D

section
variable {P : Program} {T : Nat → Option TI} {steal : Nat → Bool} {H H' : Heap} {μ μ' : Oid → Option Nat} {F : Fr} {st st' : St} {w w' : World} {a : Act} {n : Nat} {D : List Deferred}

theorem env_of (a : Act) : Env a.eval (tmOf a) := ⟨fun t => rfl, fun v => rfl, fun f => rfl⟩
theorem tmOf_put (a : Act) (dst : Option Nat) (v : Value) (hd : ∀ d, dst = some d → d < a.tmps.size) : ∀ t, tmOf (a.put dst v) t = after dst (tmOf a) v t := by
  intro t
  cases dst with
  | none => rfl
  | some d =>
    have := hd d rfl
    simp only [tmOf, Act.put, after, upd]
    by_cases e : t = d
    · subst e; simp [this]
    · simp [e, Array.getD_eq_getD_getElem?, Array.getElem?_setIfInBounds, Ne.symm e]
theorem AtS.put {H' μ' st' w'} (h : AtS H μ F st a w n D) {dst : Option Nat} {v : Value} (hd : ∀ d, dst = some d → d < n) (hr : Rel H' μ' F st' (after dst (tmOf a) v) w') :
    AtS H' μ' F st' (a.put dst v) w' n D := by
  refine ⟨hr.tmCongr (tmOf_put a dst v (by rw [h.size]; exact hd)), ?_, ?_⟩
  · cases dst <;> simp [Act.put, h.size]
  · cases dst <;> simp [Act.put, h.defers]

theorem _root_.Go.Ax.RepS.tup0 {v : Value} (h : RepS H μ (.tup []) v) : v = .tuple #[] := by
  cases h with
  | two _ _ h => cases h with
    | one _ _ h => cases h with
      | data _ _ h => cases h
  | tup _ _ h => cases h; rfl
theorem wanted_run (h : AtS H μ F st a w n D) {ops : List Oper} {o : Oper} {b : Option Bool} (hw : (wanted ops o).run st = some b) (hb : b ≠ none) : some (Region.wanted o (yielded ops.toArray a.tmps)) = b := by
  unfold wanted at hw
  split at hw
  · rename_i hg
    simp [Rd.run] at hw
    subst hw
    simp [Region.wanted, hg]
  · rename_i j want hg
    split at hw
    · rename_i t ht
      simp only [Rd.run] at hw
      split at hw
      · rename_i x hx
        simp [Rd.run] at hw
        subst hw
        have hv := (hx ▸ h.rel.env t).bool
        have htm : a.tmps[t]? = some (.bool x) := by
          simp only [tmOf, Array.getD_eq_getD_getElem?] at hv
          cases hq : a.tmps[t]? with
          | none => rw [hq] at hv; simp [undef] at hv
          | some u => rw [hq] at hv; simp at hv; rw [hv]
        have ht' : (ops.toArray[j]?).bind (·.dst) = some t := by simpa using ht
        have hy : yielded ops.toArray a.tmps j = some x := by
          unfold yielded
          rw [ht']
          simp [htm]
        simp [Region.wanted, hg, hy]
      · rename_i hx
        simp [Rd.run] at hw
        subst hw
        have hv : tmOf a t = .tuple #[] := RepS.tup0 (hx ▸ h.rel.env t)
        have ht' : (ops.toArray[j]?).bind (·.dst) = some t := by simpa using ht
        have hy : yielded ops.toArray a.tmps j = none := by
          unfold yielded
          rw [ht']
          simp only [tmOf, Array.getD_eq_getD_getElem?] at hv
          cases hq : a.tmps[t]? with
          | none => simp [hq]
          | some u => rw [hq] at hv; simp at hv; simp [hq, hv]
        simp [Region.wanted, hg, hy]
      · simp [Rd.run] at hw; exact absurd hw.symm hb
    · simp [Rd.run] at hw; exact absurd hw.symm hb

theorem runOps_sound (hT : TabOk P T) {ops : List Oper} {K : Exit → Act → World → Prop} : ∀ (l : List Oper) {H μ st a w} {Q : St → Prop}, (∀ o ∈ l, ∀ d, o.dst = some d → d < n) →
    runOps (CallOk P F.B) T steal ops l st Q → AtS H μ F st a w n D →
    (∀ st' a' w' H' μ', Q st' → AtS H' μ' F st' a' w' n D → Ext F H w H' w' → K .normal a' w') → wpList P ops.toArray K l a w := by
  intro l
  induction l with
  | nil =>
    intro H μ st a w Q _ hrun hat hK
    exact hK st a w H μ hrun hat (Ext.refl _ _ _)
  | cons o rest ih =>
    intro H μ st a w Q hd hrun hat hK
    have hd0 : ∀ d, o.dst = some d → d < n := hd o (by simp)
    have hdr : ∀ o ∈ rest, ∀ d, o.dst = some d → d < n := fun o' ho => hd o' (by simp [ho])
    simp only [runOps] at hrun
    simp only [wpList]
    split at hrun
    · rename_i hw
      have hwant := wanted_run hat hw (by simp)
      simp at hwant
      rw [hwant, if_pos rfl]
      left
      split at hrun
      · rename_i lw hop
        rcases opF_run hT hat.rel (env_of a) hop with ⟨l', e, hgood⟩ | ⟨_, _, _, _, _, _, _, e, _⟩
        · simp at e
          subst e
          obtain ⟨H1, μ1, w1, u, v, h1, h2, h3, h4⟩ := hgood
          simp only [Oper.wp, h1]
          have hnext : wpList P ops.toArray K rest (a.put o.dst v) w1 := ih hdr hrun (hat.put hd0 h3) (fun st' a' w' H' μ' hq hat' hx => hK st' a' w' H' μ' hq hat' (h4.trans hx))
          rcases h2 with rfl | ⟨rfl, rfl⟩
          · exact hnext
          · exact hnext
        · simp at e
      · rename_i f args ids objs dst hop
        rcases opF_run hT hat.rel (env_of a) hop with ⟨l', e, _⟩ | ⟨f', args', ids', objs', us, objs0, bs, e, h3, h4, h5, h6⟩
        · simp at e
        · simp only [Res.call.injEq] at e
          obtain ⟨rfl, rfl, rfl, rfl, rfl⟩ := e
          obtain ⟨r, objs1, hc, hrun⟩ := hrun
          have hpre := h4.pre hat.rel
          subst h3
          simp only [Oper.wp, h6, hc.enter, Oper.upon_enter]
          refine Calls.mono (hc.calls H (passF F.B μ st (tmOf a) w ids bs) w bs us rfl (by rw [h4.lenB]; simp [h4.lenO]) (fun _ _ h => h) hpre h5) ?_
          rintro e w1 ⟨v, H1, rfl, h7, h8⟩
          obtain ⟨h9, h10⟩ := h4.post (dst := o.dst) hat.rel (by rw [hc.len]; simp [h4.lenO]) h7 h8
          exact ih hdr hrun (hat.put hd0 h9) (fun st' a' w' H' μ' hq hat' hx => hK st' a' w' H' μ' hq hat' (h10.trans hx))
      · exact hrun.elim
    · rename_i hw
      have hwant := wanted_run hat hw (by simp)
      simp at hwant
      rw [hwant, if_neg (by simp)]
      have hrel : Rel H μ F (st.app (out o.dst (.tup []))) (after o.dst (tmOf a) undef) w := out_rel' hat.rel (.tup _ _ .nil) rfl
      exact ih hdr hrun (hat.put hd0 hrel) hK
    · exact hrun.elim

theorem look_map (l : List Nat) (f : Nat → V) (t : Nat) : look t (l.map fun u => (u, f u)) = if t ∈ l then f t else .any := by
  induction l with
  | nil => rfl
  | cons u l ih =>
    simp only [List.map_cons, look, ih]
    by_cases e : u = t
    · subst e; simp
    · simp [e, Ne.symm e]
theorem lookO_filterMap (l : List Oid) (f : Oid → Option Ob) (o : Oid) : lookO o (l.filterMap fun u => (f u).map fun x => (u, x)) = if o ∈ l then f o else none := by
  induction l with
  | nil => rfl
  | cons u l ih =>
    simp only [List.filterMap_cons]
    cases hf : f u with
    | none =>
      simp only [Option.map_none, ih]
      by_cases e : o = u
      · subst e; simp [hf]
      · simp [e]
    | some x =>
      simp only [Option.map_some, lookO, ih]
      by_cases e : u = o
      · subst e; simp [hf]
      · simp [e, Ne.symm e]
theorem keep_mem {l : List Oid} {o : Oid} : (place o l).isSome = true ↔ o ∈ l := by
  constructor
  · intro h
    obtain ⟨j, hj⟩ := Option.isSome_iff_exists.1 h
    exact List.mem_of_getElem? (place_some hj)
  · intro h
    obtain ⟨j, hj⟩ := place_of h
    simp [hj]
/-- What nobody asks for any more is forgotten. -/
theorem restrict_rel {tm} (h : Rel H μ F st tm w) (hi : Hint) : ∃ μ', Rel H μ' F (restrict hi st) tm w := by
  refine ⟨fun o => if o ∈ hi.liveO then μ o else none, ?_⟩
  have hf : ∀ o u b, keep hi.liveO o = some u → μ o = some b → (if u ∈ hi.liveO then μ u else none) = some b := by
    intro o u b h1 h2
    simp only [keep] at h1
    split at h1
    · rename_i hk
      injection h1 with h1
      subst h1
      rw [if_pos (keep_mem.1 hk)]
      exact h2
    · simp at h1
  have htm : ∀ t, (restrict hi st).tm t = if t ∈ hi.live then renV (keep hi.liveO) (st.tm t) else .any := fun t => look_map _ _ _
  have hob : ∀ o, (restrict hi st).ob o = if o ∈ hi.liveO then (st.ob o).map (Ob.ren (keep hi.liveO)) else none := by
    intro o
    have := lookO_filterMap hi.liveO (fun u => (st.ob u).map (Ob.ren (keep hi.liveO))) o
    simp only [Option.map_map, Function.comp_def] at this
    simpa [restrict, St.ob] using this
  have hsub : ∀ o b, (if o ∈ hi.liveO then μ o else none) = some b → μ o = some b := by
    intro o b hb
    split at hb
    · exact hb
    · simp at hb
  have hat : ∀ ℓ sz xs b off n c, atL (fun o => if o ∈ hi.liveO then μ o else none) (restrict hi st) tm w ℓ (.own sz xs) (.slice (some ⟨b, off, none⟩) n c) → atL μ st tm w ℓ (.own sz xs) (.slice (some ⟨b, off, none⟩) n c) := by
    intro ℓ sz xs b off n c hl
    cases ℓ with
    | t m =>
      obtain ⟨h1, h2⟩ := hl
      rw [htm] at h1
      split at h1
      · rw [renV_own] at h1
        exact ⟨h1, h2⟩
      · simp at h1
    | o o k =>
      obtain ⟨cs, b', h1, h2, h3, h4⟩ := hl
      rw [hob] at h1
      split at h1
      · cases hx : st.ob o with
        | none => rw [hx] at h1; simp at h1
        | some x =>
          cases x with
          | cells cs0 =>
            rw [hx] at h1
            simp [Ob.ren] at h1
            subst h1
            simp only [List.getElem?_map] at h3
            cases hk : cs0[k]? with
            | none => rw [hk] at h3; simp at h3
            | some y =>
              rw [hk] at h3
              simp at h3
              rw [ren1_own] at h3
              subst h3
              exact ⟨cs0, b', hx, hsub _ _ h2, hk, h4⟩
      · simp at h1
  refine ⟨fun t => ?_, h.heap, fun o ho => ?_, fun o x hx => ?_, fun o o' b h1 h2 => h.inj o o' b (hsub _ _ h1) (hsub _ _ h2), fun o b hb => h.objH o b (hsub _ _ hb), fun o b hb => h.objF o b (hsub _ _ hb), h.Flt, ?_, ?_, fun j b hb => h.par j b (hsub _ _ hb), h.base⟩
  · rw [htm]
    split
    · exact (h.env t).ren hf
    · exact .two _ _ (.one _ _ (.any _))
  · rw [hob] at ho
    split at ho
    · rename_i hm
      rw [if_pos hm]
      cases hx : st.ob o with
      | none => exact h.dom o hx
      | some x => rw [hx] at ho; simp at ho
    · rename_i hm; rw [if_neg hm]
  · rw [hob] at hx
    split at hx
    · rename_i hm
      rw [if_pos hm]
      cases hy : st.ob o with
      | none => rw [hy] at hx; simp at hx
      | some y =>
        rw [hy] at hx
        simp at hx
        subst hx
        obtain ⟨b, h1, h2⟩ := h.obs o y hy
        refine ⟨b, h1, ?_⟩
        cases y with
        | cells cs =>
          obtain ⟨vs, ty, g1, g2⟩ := h2
          exact ⟨vs, ty, g1, g2.ren hf⟩
    · simp at hx
  · intro ℓ sz xs b off n c hl
    obtain ⟨g1, g2, g3, g4⟩ := h.own _ _ _ _ _ _ _ (hat _ _ _ _ _ _ _ hl)
    exact ⟨g1, g2, fun o ho => g3 o (hsub _ _ ho), g4⟩
  · rintro ℓ ℓ' b ⟨sz1, xs1, off1, n1, c1, h1⟩ ⟨sz2, xs2, off2, n2, c2, h2⟩
    exact h.ownInj _ _ _ ⟨_, _, _, _, _, hat _ _ _ _ _ _ _ h1⟩ ⟨_, _, _, _, _, hat _ _ _ _ _ _ _ h2⟩
end
end Go.Ax
