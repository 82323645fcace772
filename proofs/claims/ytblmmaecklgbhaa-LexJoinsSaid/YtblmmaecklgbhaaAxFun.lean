/- A part of the proof of a law of this seat: no condition. -/
import Derived.Test.YtblmmaecklgbhaaAxDraw
import Derived.LoopN
set_option linter.unusedVariables false
set_option linter.unusedSimpArgs false
namespace Go.Ax
attribute [local simp] look_cons

def exitOf : X → Exit
  | .normal => .normal
  | .ret => .ret
  | .exit id => .exit id
def dstsOk (n : Nat) : Code → Bool
  | .region _ ops _ => ops.toList.all fun o => match o.dst with | some d => decide (d < n) | none => true
  | .seq a b => dstsOk n a && dstsOk n b
  | .cond _ a b => dstsOk n a && dstsOk n b
  | .block _ a => dstsOk n a
  | .loop a => dstsOk n a
  | _ => true

theorem cur_alike {a b : St} (h : Alike a b) : ∀ (n : Nat) (o : Oid), cur a n o = cur b n o := by
  intro n
  induction n with
  | zero => intro o; rfl
  | succ n ih =>
    intro o
    simp only [cur, h.2]
    split
    · exact ih _
    · rfl
theorem Alike.restrict {a b : St} (h : Alike a b) (hi : Hint) : restrict hi a = restrict hi b := by
  have h1 : ∀ o, curH hi a o = curH hi b o := by
    intro o
    unfold curH
    split
    · split
      · exact cur_alike h _ _
      · rfl
    · exact cur_alike h _ _
  have h2 : keep hi a = keep hi b := by
    funext o
    simp only [keep, h1]
  simp only [Go.Ax.restrict, St.mk.injEq]
  refine ⟨List.map_congr_left fun t _ => by rw [h.1 t, h2], ?_⟩
  congr 1
  funext o
  simp only [obR, h1, h2, h.2]

section
variable {P : Program} {F : Fr} {n : Nat} {D : List Deferred}

theorem awp_sound (c : Ctx) (hC : c.C = CallOk P F.B) (hT : TabOk P c.T) (hm : P.follows .mixedOrders = true) : ∀ (code : Code) {H μ st a w} {Q : X → St → Prop} {K : Exit → Act → World → Prop}, dstsOk n code = true →
    awp c code st Q → AtS H μ F st a w n D → (∀ e st' a' w' H' μ', Q e st' → AtS H' μ' F st' a' w' n D → Ext F H w H' w' → K (exitOf e) a' w') → code.wp P K a w := by
  intro code
  induction code with
  | skip => intro H μ st a w Q K _ h hat hK; exact wp_skip (hK .normal st a w H μ h hat (Ext.refl _ _ _))
  | ret => intro H μ st a w Q K _ h hat hK; exact wp_ret (hK .ret st a w H μ h hat (Ext.refl _ _ _))
  | exit id => intro H μ st a w Q K _ h hat hK; exact wp_exit (hK (.exit id) st a w H μ h hat (Ext.refl _ _ _))
  | seq x y ihx ihy =>
    intro H μ st a w Q K hd h hat hK
    simp [dstsOk] at hd
    refine wp_seq (ihx hd.1 h hat fun e st' a' w' H' μ' hq hat' hx => ?_)
    cases e with
    | normal => exact ihy hd.2 hq hat' fun e st'' a'' w'' H'' μ'' hq' hat'' hx' => hK e st'' a'' w'' H'' μ'' hq' hat'' (hx.trans hx')
    | ret => exact hK .ret st' a' w' H' μ' hq hat' hx
    | exit id => exact hK (.exit id) st' a' w' H' μ' hq hat' hx
  | cond x y z ihy ihz =>
    intro H μ st a w Q K hd h hat hK
    simp [dstsOk] at hd
    simp only [awp] at h
    split at h
    · rename_i t hv
      have hb := (ev_rep hat.rel (env_of a) hv).bool
      refine wp_cond hb ?_
      cases t
      · exact ihz hd.2 h hat hK
      · exact ihy hd.1 h hat hK
    · exact h.elim
  | block id x ih =>
    intro H μ st a w Q K hd h hat hK
    refine wp_block (ih hd h hat fun e st' a' w' H' μ' hq hat' hx => ?_)
    cases e with
    | normal => exact hK .normal st' a' w' H' μ' hq hat' hx
    | ret => exact hK .ret st' a' w' H' μ' hq hat' hx
    | exit i =>
      simp only [exitOf, Exit.inBlock]
      dsimp only at hq
      by_cases e : i = id
      · rw [if_pos e] at hq ⊢
        exact hK .normal st' a' w' H' μ' hq hat' hx
      · rw [if_neg e] at hq ⊢
        exact hK (.exit i) st' a' w' H' μ' hq hat' hx
  | loop x ih =>
    intro H μ st a w Q K hd h hat hK
    obtain ⟨k, h⟩ := h
    have key : ∀ (k : Nat) (H' : Heap) (μ') (st : St) (a : Act) (w' : World), iter (fun st Q => awp c x (restrict (c.hint (2 * (firstReg x).getD 0 + 1)) st) Q) Q k st → AtS H' μ' F st a w' n D → Ext F H w H' w' → Code.rounds P x K k a w' := by
      intro k
      induction k with
      | zero => intro H' μ' st a w' h; exact h.elim
      | succ k ihk =>
        intro H1 μ1 st a w1 h hat h0
        rw [rounds_succ]
        obtain ⟨μ2, hr⟩ := restrict_rel hat.rel (c.hint (2 * (firstReg x).getD 0 + 1))
        refine ih hd h ⟨hr, hat.size, hat.defers⟩ fun e st' a' w' H' μ' hq hat' hx => ?_
        cases e with
        | normal => exact ihk H' μ' st' a' w' hq hat' (h0.trans hx)
        | ret => exact hK .ret st' a' w' H' μ' hq hat' (h0.trans hx)
        | exit id => exact hK (.exit id) st' a' w' H' μ' hq hat' (h0.trans hx)
    exact wp_loop_rounds k (key k H μ st a w h hat (Ext.refl _ _ _))
  | region id ops draw =>
    intro H μ st a w Q K hd h hat hK
    have hd' : ∀ o ∈ ops.toList, ∀ d, o.dst = some d → d < n := by
      intro o ho d hod
      have := List.all_eq_true.1 hd o ho
      rw [hod] at this
      simpa using this
    cases draw with
    | false =>
      simp only [awp, hC] at h
      refine wp_region_list ?_
      have := runOps_sound (P := P) hT (ops := ops.toList) (K := K) ops.toList hd' h hat (fun st' a' w' H' μ' hq hat' hx => by
        obtain ⟨μ2, hr⟩ := restrict_rel hat'.rel (c.hint (2 * id))
        exact hK .normal _ a' w' H' μ2 hq ⟨hr, hat'.size, hat'.defers⟩ hx)
      simpa using this
    | true =>
      simp only [awp, hC] at h
      obtain ⟨recs, st', e1, ⟨e2, e3⟩, e4⟩ := runD_run (C := CallOk P F.B) ops.toList 0 st [] (by simp) (by simp) h
      have hrun := e4 (fun i => recs.getD i ([], [])) (fun j hj => by simp [List.getD_eq_getElem?_getD, List.getElem?_eq_getElem hj])
      refine wp_region_any hm ?_
      have hat' : AtS H μ F st a { w with drawn := w.drawn + 1 } n D := ⟨hat.rel.world rfl, hat.size, hat.defers⟩
      have := draw_sound (P := P) (F := F) (n := n) (D := D) hT (ops := ops.toList) hd' (K := K) (R := fun i => recs.getD i ([], [])) e2
        (fun i hi => by
          have hi' : i < recs.length := by rw [e1]; exact hi
          simp [foot, List.getD_eq_getElem?_getD, List.getElem?_eq_getElem hi']) (st' := st') (H0 := H) (w0 := { w with drawn := w.drawn + 1 })
        (fun stE a' w' H' μ' hal hatE hx => by
          obtain ⟨μ2, hr⟩ := restrict_rel hatE.rel (c.hint (2 * id))
          rw [hal.restrict] at hr
          exact hK .normal _ a' w' H' μ2 e3 ⟨hr, hatE.size, hatE.defers⟩ (Ext.trans (Ext.world (w := w) (w' := { w with drawn := w.drawn + 1 }) rfl ⟨rfl, rfl, rfl⟩) hx))
        ops.size (Array.replicate ops.size false) (List.range ops.size) st a { w with drawn := w.drawn + 1 } H μ (by simp) (by
          symm
          refine List.filter_eq_self.2 fun j hj => ?_
          simp at hj
          simp [Array.getD_eq_getD_getElem?, hj]) (by simp) (by simpa [List.range_eq_range'] using hrun) hat' (Ext.refl _ _ _)
        (fun j hj hl => by
          exfalso
          simp at hj
          simp [Array.getD_eq_getD_getElem?, hj] at hl)
      simpa using this
  | _ => intro H μ st a w Q K _ h; exact h.elim
end
end Go.Ax
