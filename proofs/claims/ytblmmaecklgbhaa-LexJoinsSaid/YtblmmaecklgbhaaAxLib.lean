/- A part of the proof of a law of this seat: no condition. -/
import Derived.Test.YtblmmaecklgbhaaAcFn
import Derived.Below
set_option linter.unusedVariables false
set_option linter.unusedSimpArgs false
namespace Go.Ax
theorem repArgs_of {H : Heap} {μ : Oid → Option Nat} {F : Fr} {w : World} {args : List V} {objs news : List Ob} {vs : List Value} (hl : args.length = vs.length) (hr : Rel H μ F (conSt args objs news) (argTm vs) w) : RepArgs H μ args vs := by
  refine ⟨hl, fun j hj hj' => ?_⟩
  have := hr.env j
  rw [conSt_tm, List.getElem?_eq_getElem hj] at this
  simpa [argTm, hj'] using this
/-- A contract out of a law on calls of data that leave memory as it was. -/
theorem callOk_lib {P : Program} {B : Heap} {f : FuncId} {args : List V} {r : V} {vs : List Value} {u : Value}
    (henter : ∀ (as_ : Array Value) (w : World), (callFunc f as_).run P w = .ok (.enter f as_) w)
    (hargs : ∀ H μ us, RepArgs H μ args us → us = vs) (hr : ∀ H μ, RepS H μ r u) (hro : r.isOwn = false)
    (h : ∀ w : World, (∀ b o v, B b o = some v → w.cell? ⟨b, o, none⟩ = some v) → Calls P f vs.toArray w fun e w' => e = .returned u ∧ w'.heap = w.heap ∧ Io w w') : CallOk P B f args [] r [] [] := by
  refine ⟨henter, rfl, fun H F w μ us hFB hl hr0 => ?_⟩
  obtain rfl := hargs _ _ _ (repArgs_of hl hr0)
  refine (h w (fun b o v hb => hr0.heap _ _ _ (hr0.base.cell _ _ _ (hFB ▸ hb)))).mono ?_
  rintro e w' ⟨rfl, hh, hio⟩
  refine ⟨u, H, fun _ => none, F, rfl, rfl, rfl, by simp, ?_, Ext.world hh hio⟩
  have h0 := (hr0.world hh).rename (F' := F) (fun _ => none) (fun _ => none) (fun _ => none) (st' := ⟨[], []⟩) (tm' := noTm) rfl rfl (by simp) (by simp) (fun u => rfl) (by simp) (fun t => ⟨.any, noTm t, rfl, rfl, .two _ _ (.one _ _ (.any _)), by simp [V.isOwn]⟩) (by simp [St.ob, lookO])
  have h1 := h0.put (t := 0) (hr H _) (fun sz xs _ _ _ _ e => by rw [e] at hro; simp [V.isOwn] at hro)
  exact h1
theorem repArgs1 {H μ a us} (h : RepArgs H μ [a] us) : ∃ x, us = [x] ∧ RepS H μ a x := by
  match us, h.len with
  | [x], _ => exact ⟨x, rfl, h.get 0 (by simp) (by simp)⟩
theorem repArgs2 {H μ a b us} (h : RepArgs H μ [a, b] us) : ∃ x y, us = [x, y] ∧ RepS H μ a x ∧ RepS H μ b y := by
  match us, h.len with
  | [x, y], _ => exact ⟨x, y, rfl, h.get 0 (by simp) (by simp), h.get 1 (by simp) (by simp)⟩
/-- A law's call, where its arguments are data that lead to no memory. -/
theorem below_of {P : Program} {B : Heap} {f : FuncId} {args : List V} {r : V} {vs : List Value} {u : Value} (h : CallOk P B f args [] r [] [])
    (hargs : ∀ H μ, RepArgs H μ args vs) (hno : ∀ x ∈ args, x.isOwn = false) (hr : ∀ H μ v, RepS H μ r v → v = u) (w : World) (hB : ∀ b o v, B b o = some v → w.cell? ⟨b, o, none⟩ = some v) (hS : ∀ b, B.size b ≤ blkSize w b) :
    Calls P f vs.toArray w fun e w' => e = .returned u ∧ RowKit.Below w.heap.size w w' := by
  refine (h.calls B ⟨fun b => b < w.heap.size, fun _ => none, B⟩ w (fun _ => none) vs rfl (hargs B (fun _ => none)).len ?_).mono ?_
  · have hob : ∀ o, (conSt args [] []).ob o = none := by intro o; rw [conSt_ob]; cases o with | sub t j => cases t <;> simp | _ => simp
    have htm : ∀ t sz xs, (conSt args [] []).tm t ≠ .own sz xs := by
      intro t sz xs e
      rw [conSt_tm] at e
      cases hq : args[t]? with
      | none => rw [hq] at e; simp at e
      | some x => rw [hq] at e; simp at e; have := hno x (List.mem_of_getElem? hq); rw [e] at this; simp [V.isOwn] at this
    have hat : ∀ ℓ sz xs v, ¬ atL (fun _ => none) (conSt args [] []) (argTm vs) w ℓ (.own sz xs) v := by
      intro ℓ sz xs v hl
      cases ℓ with
      | t m => exact htm _ _ _ hl.1
      | o o j => obtain ⟨_, _, _, hl, _⟩ := hl; rw [hob] at hl; simp at hl
    have hlv : ∀ o b, live (conSt args [] []) (fun _ => none) o ≠ some b := by intro o b hb; have := (live_some hb).1; simp at this
    refine ⟨fun t => ?_, hB, hS, fun _ _ => rfl, fun o x hx => by rw [hob] at hx; simp at hx, fun o _ b hb => absurd hb (hlv o b), fun o b hb => absurd hb (hlv o b), fun o b hb => absurd hb (hlv o b), fun b hb => hb, fun ℓ sz xs b off n c hl => absurd hl (hat _ _ _ _),
      fun ℓ ℓ' b ⟨sz, xs, off, n, c, hl⟩ => absurd hl (hat _ _ _ _), fun j hj => absurd (hob _) hj, Le.refl _⟩
    rw [conSt_tm]
    cases hq : args[t]? with
    | none => exact .two _ _ (.one _ _ (.any _))
    | some x =>
      obtain ⟨hlt, rfl⟩ := List.getElem?_eq_some_iff.1 hq
      have hlt' : t < vs.length := by rw [← (hargs B (fun _ => none)).len]; exact hlt
      simpa [argTm, hlt'] using (hargs B (fun _ => none)).get t hlt hlt'
  · rintro e w' ⟨v, H', μ', F', rfl, _, _, _, hrel, hx⟩
    have := hrel.env 0
    rw [conSt_tm] at this
    simp [upd] at this
    refine ⟨by rw [hr _ _ _ this], hx.io.1, hx.io.2.1, hx.io.2.2, hx.size, fun k hk => hx.frm k hk hk⟩
end Go.Ax
