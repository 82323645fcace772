/- A part of the proof of a law of this seat: no condition. -/
import Derived.Test.YtblmmaecklgbhaaAcFn
import Derived.Below
set_option linter.unusedVariables false
set_option linter.unusedSimpArgs false
namespace Go.Ax
/-- A contract out of a law on calls of data that leave memory as it was. -/
theorem callOk_lib {P : Program} {B : Heap} {f : FuncId} {args : List V} {r : V} {vs : List Value} {u : Value}
    (henter : ∀ (as_ : Array Value) (w : World), (callFunc f as_).run P w = .ok (.enter f as_) w)
    (hargs : ∀ H us, RepArgs H (parMap []) args us → us = vs) (hr : ∀ H, RepS H (parMap []) r u) (hro : r.isOwn = false)
    (h : ∀ w : World, (∀ b o v, B b o = some v → w.cell? ⟨b, o, none⟩ = some v) → Calls P f vs.toArray w fun e w' => e = .returned u ∧ w'.heap = w.heap ∧ Io w w') : CallOk P B f args [] r [] := by
  refine ⟨henter, rfl, fun H F w bs us hFB hbs hG hr0 ha => ?_⟩
  obtain rfl : bs = [] := by cases bs with | nil => rfl | cons => simp at hbs
  obtain rfl := hargs _ _ ha
  refine (h w (fun b o v hb => hr0.heap _ _ _ (hr0.base _ _ _ (hFB ▸ hb)))).mono ?_
  rintro e w' ⟨rfl, hh, hio⟩
  refine ⟨u, H, rfl, ?_, Ext.world hh hio⟩
  exact (hr0.world hh).put (hr H) (fun sz xs _ _ _ _ e => by rw [e] at hro; simp [V.isOwn] at hro)
theorem repArgs1 {H μ a us} (h : RepArgs H μ [a] us) : ∃ x, us = [x] ∧ RepS H μ a x := by
  match us, h.len with
  | [x], _ => exact ⟨x, rfl, h.get 0 (by simp) (by simp)⟩
theorem repArgs2 {H μ a b us} (h : RepArgs H μ [a, b] us) : ∃ x y, us = [x, y] ∧ RepS H μ a x ∧ RepS H μ b y := by
  match us, h.len with
  | [x, y], _ => exact ⟨x, y, rfl, h.get 0 (by simp) (by simp), h.get 1 (by simp) (by simp)⟩

/-- A law's call, where its arguments are data that lead to no memory. -/
theorem below_of {P : Program} {B : Heap} {f : FuncId} {args : List V} {r : V} {vs : List Value} {u : Value} (h : CallOk P B f args [] r [])
    (hargs : ∀ H, RepArgs H (parMap []) args vs) (hr : ∀ H v, RepS H (parMap []) r v → v = u) (w : World) (hB : ∀ b o v, B b o = some v → w.cell? ⟨b, o, none⟩ = some v) :
    Calls P f vs.toArray w fun e w' => e = .returned u ∧ RowKit.Below w.heap.size w w' := by
  refine (h.calls B ⟨fun b => b < w.heap.size, fun _ _ => False, B⟩ w [] vs rfl rfl (fun _ _ h => h.elim) ?_ (hargs _)).mono ?_
  · refine ⟨fun t => .two _ _ (.one _ _ (.any _)), hB, ?_, ?_, ?_, ?_, ?_, fun b hb => hb, ?_, ?_, ?_, Le.refl _⟩
    · intro o _; cases o <;> rfl
    · intro o x hx; cases o <;> simp [St.ob, parObs, parObsFrom, lookO] at hx
    · intro o o' b hb; cases o <;> simp [parMap] at hb
    · intro o b hb; cases o <;> simp [parMap] at hb
    · intro o b hb; cases o <;> simp [parMap] at hb
    · intro ℓ sz xs b off n c hl
      cases ℓ with
      | t m => simp [atL, St.tm, look] at hl
      | o o j => obtain ⟨_, _, hl, _⟩ := hl; cases o <;> simp [St.ob, parObs, parObsFrom, lookO] at hl
    · rintro ℓ ℓ' b ⟨_, _, _, _, _, hl⟩
      cases ℓ with
      | t m => simp [atL, St.tm, look] at hl
      | o o j => obtain ⟨_, _, hl, _⟩ := hl; cases o <;> simp [St.ob, parObs, parObsFrom, lookO] at hl
    · intro j b hb; simp [parMap] at hb
  · rintro e w' ⟨v, H', rfl, hrel, hx⟩
    have := hrel.env 0
    simp [St.tm, look, upd] at this
    refine ⟨by rw [hr _ _ this], hx.io.1, hx.io.2.1, hx.io.2.2, hx.size, fun k hk => hx.frm k hk hk⟩
end Go.Ax
