/- A part of the proof of a law of this seat: no condition. -/
import Derived.Test.YtcdoebbffjejeaaGreatDoorA8
import Derived.Below
set_option linter.unusedVariables false
set_option linter.unusedSimpArgs false
namespace Go.Ax
theorem repArgs_of {H : Heap} {μ : Oid → Option Nat} {F : Fr} {w : World} {args : List V} {objs news : List Ob} {vs : List Value} (hl : args.length = vs.length) (hr : Rel H μ F (conSt args objs news) (argTm vs) w) : RepArgs H μ args vs := by
  refine ⟨hl, fun j hj hj' => ?_⟩
  have := hr.env j
  rw [conSt_tm, List.getElem?_eq_getElem hj] at this
  simpa [argTm, hj'] using this
/-- A contract out of a law on calls of data that leave memory as it was. -/
theorem callOk_lib {P : Program} {B : Heap} {f : FuncId} {args : List V} {r : V} {vs : List Value} {u : Value}
    (henter : ∀ (as_ : Array Value) (w : World), (callFunc f as_).run P w = .ok (.enter f as_) w)
    (hargs : ∀ H μ us, RepArgs H μ args us → us = vs) (hr : ∀ H μ, RepS H μ r u) (hro : r.isOwn = false)
    (h : ∀ w : World, (∀ b o v, B b o = some v → w.cell? ⟨b, o, none⟩ = some v) → Calls P f vs.toArray w fun e w' => e = .returned u ∧ w'.heap = w.heap ∧ Io w w') : CallOk P B f args [] r [] [] := by
  refine CallM.of henter rfl fun H F w μ us hFB hl hr0 => ?_
  obtain rfl := hargs _ _ _ (repArgs_of hl hr0)
  refine (h w (fun b o v hb => hr0.heap _ _ _ (hr0.base.cell _ _ _ (hFB ▸ hb)))).mono ?_
  rintro e w' ⟨rfl, hh, hio⟩
  refine ⟨u, H, fun _ => none, F, rfl, rfl, rfl, by simp, ?_, Ext.world hh hio⟩
  have h0 := (hr0.world hh).rename (F' := F) (fun _ => none) (fun _ => none) (fun _ => none) (st' := ⟨[], []⟩) (tm' := noTm) rfl rfl (by simp) (by simp) (fun u => rfl) (by simp) (fun t => ⟨.any, noTm t, rfl, rfl, .two _ _ (.one _ _ (.any _)), by simp [V.isOwn]⟩) (by simp [St.ob, lookO])
  have h1 := h0.put (t := 0) (hr H _) (fun sz xs _ _ _ _ e => by rw [e] at hro; simp [V.isOwn] at hro)
  exact h1
theorem Rel.grow {H : Heap} {μ : Oid → Option Nat} {F : Fr} {st : St} {tm : Nat → Value} : ∀ (os : List Obj) {w w' : World}, Rel H μ F st tm w → w'.heap = w.heap ++ os.toArray → Rel H μ F st tm w'
  | [], w, w', h, hh => h.world (by simpa using hh)
  | o :: os, w, w', h, hh => by
    have h1 : Rel H μ F st tm { w with heap := w.heap.push o } := by
      refine h.push o rfl (Le.refl _) (fun _ _ _ => rfl) (fun k v hv => ?_) (fun _ _ => rfl) ?_
      · rw [h.noNew k] at hv; cases hv
      · have := h.size w.heap.size
        have e : blkSize w w.heap.size = 0 := by simp [blkSize]
        omega
    refine h1.grow os (w' := w') ?_
    rw [hh]
    simp
/-- A contract out of a law on calls of data that leave what there was as it was. -/
theorem callOk_grow {P : Program} {B : Heap} {f : FuncId} {args : List V} {r : V}
    (henter : ∀ (as_ : Array Value) (w : World), (callFunc f as_).run P w = .ok (.enter f as_) w) (hro : r.isOwn = false)
    (h : ∀ (H : Heap) (μ : Oid → Option Nat) (w : World) (us : List Value), RepArgs H μ args us → (∀ b o, B.blk b = some o → w.heap[b]? = some o) →
      Calls P f us.toArray w fun e w' => ∃ u, e = .returned u ∧ (∀ H' μ', RepS H' μ' r u) ∧ RowKit.Below w.heap.size w w') : CallOk P B f args [] r [] [] := by
  refine CallM.of henter rfl fun H F w μ us hFB hl hr0 => ?_
  refine (h H μ w us (repArgs_of hl hr0) (fun b o hb => (hr0.Flt.2 b o (by rw [hFB]; exact hb)).2)).mono ?_
  rintro e w' ⟨u, rfl, hu, hb⟩
  have hh : w'.heap = w.heap ++ (w'.heap.toList.drop w.heap.size).toArray := by
    apply Array.ext'
    simp only [Array.toList_append]
    rw [← List.take_append_drop w.heap.size w'.heap.toList]
    congr 1
    · apply List.ext_getElem?
      intro i
      rw [List.getElem?_take]
      split
      · rename_i hi
        have := hb.block i hi
        simpa [Array.getElem?_toList] using this
      · rename_i hi
        rw [List.getElem?_eq_none (by simpa using hi)]
    · simp
  have hr1 := hr0.grow _ hh
  refine ⟨u, H, fun _ => none, F, rfl, rfl, rfl, by simp, ?_, ⟨hb.os, hb.tape, hb.output⟩, Le.refl _, hb.size, fun b _ hlt => hb.block b hlt, fun _ _ _ _ => rfl⟩
  have h0 := hr1.rename (F' := F) (fun _ => none) (fun _ => none) (fun _ => none) (st' := ⟨[], []⟩) (tm' := noTm) rfl rfl (by simp) (by simp) (fun u => rfl) (by simp) (fun t => ⟨.any, noTm t, rfl, rfl, .two _ _ (.one _ _ (.any _)), by simp [V.isOwn]⟩) (by simp [St.ob, lookO])
  exact h0.put (t := 0) (hu H _) (fun sz xs _ _ _ _ e => by rw [e] at hro; simp [V.isOwn] at hro)
/-- What is answered, told less. -/
theorem CallOk.weakR {P : Program} {B : Heap} {f : FuncId} {args : List V} {objs : List Ob} {r : V} {objs' news : List Ob} (h : CallOk P B f args objs r objs' news) : CallOk P B f args objs r.weak objs' news := by
  refine ⟨h.enter, fun H F w μ vs hFB hl hr => (h.calls H F w μ vs hFB hl hr).mono ?_⟩
  rintro e w' ⟨_, _, _, ⟨⟨rfl, rfl, rfl⟩, hlen⟩, v, H', μ', F', h1, h2, h3, h4, h5, h6⟩
  refine ⟨_, _, _, ⟨⟨rfl, rfl, rfl⟩, hlen⟩, v, H', μ', F', h1, h2, h3, h4, ?_, h6⟩
  refine (h5.weakT 0).1.congr (fun t => ?_) (fun o => ?_)
  · rw [St.tm_put]
    by_cases e : t = 0
    · subst e; rw [if_pos rfl, conSt_tm, conSt_tm]; rfl
    · rw [if_neg (fun e' => e e'.symm), conSt_tm, conSt_tm, List.getElem?_eq_none (by simp; omega), List.getElem?_eq_none (by simp; omega)]
  · rw [St.ob_put, conSt_ob, conSt_ob]
theorem repArgs1 {H μ a us} (h : RepArgs H μ [a] us) : ∃ x, us = [x] ∧ RepS H μ a x := by
  match us, h.len with
  | [x], _ => exact ⟨x, rfl, h.get 0 (by simp) (by simp)⟩
theorem repArgs2 {H μ a b us} (h : RepArgs H μ [a, b] us) : ∃ x y, us = [x, y] ∧ RepS H μ a x ∧ RepS H μ b y := by
  match us, h.len with
  | [x, y], _ => exact ⟨x, y, rfl, h.get 0 (by simp) (by simp), h.get 1 (by simp) (by simp)⟩
/-- All that a world has, kept. -/
def worldH (w : World) : Heap := ⟨fun b o => w.cell? ⟨b, o, none⟩, fun b => blkSize w b, fun _ => none⟩
theorem blk_lt {w : World} {b : Nat} {o : Obj} (h : w.heap[b]? = some o) : b < w.heap.size := (Array.getElem?_eq_some_iff.1 h).1
/-- A law's call, where its arguments are data that lead to no memory. -/
theorem below_of {P : Program} (w : World) {B : Heap} {f : FuncId} {args : List V} {r : V} {vs : List Value} {u : Value} (h : CallOk P B f args [] r [] [])
    (hargs : RepArgs (worldH w) (fun _ => none) args vs) (hno : ∀ x ∈ args, x.isOwn = false) (hr : ∀ H μ v, RepS H μ r v → v = u) (hB : ∀ b o v, B b o = some v → w.cell? ⟨b, o, none⟩ = some v) (hS : ∀ b, B.size b ≤ blkSize w b) (hK : ∀ b o, B.blk b = some o → w.heap[b]? = some o) :
    Calls P f vs.toArray w fun e w' => e = .returned u ∧ RowKit.Below w.heap.size w w' := by
  refine (h.calls (worldH w) ⟨fun b => b < w.heap.size, fun _ => none, B⟩ w (fun _ => none) vs rfl hargs.len ?_).mono ?_
  · have hob : ∀ o, (conSt args [] []).ob o = none := by intro o; rw [conSt_ob]; cases o with | sub t j => cases t <;> simp | _ => simp
    have htm : ∀ t sz xs, (conSt args [] []).tm t ≠ .own sz xs := by
      intro t sz xs e
      rw [conSt_tm] at e
      cases hq : args[t]? with
      | none => rw [hq] at e; simp at e
      | some x => rw [hq] at e; simp at e; have := hno x (List.mem_of_getElem? hq); rw [e] at this; simp [V.isOwn] at this
    have hat : ∀ ℓ sz xs v, ¬ atL (fun _ => none) (conSt args [] []) (argTm vs) w ℓ (.own sz xs) v := by
      intro ℓ sz xs v hl
      cases ℓ with
      | t m => exact htm _ _ _ hl.1
      | o o j => obtain ⟨_, _, _, hl, _⟩ := hl; rw [hob] at hl; simp at hl
    have hlv : ∀ o b, live (conSt args [] []) (fun _ => none) o ≠ some b := by intro o b hb; have := (live_some hb).1; simp at this
    refine ⟨fun t => ?_, fun _ _ _ h => h, fun _ => Nat.le_refl _, fun _ _ => rfl, fun o x hx => by rw [hob] at hx; simp at hx, fun o _ b hb => absurd hb (hlv o b), fun o b hb => absurd hb (hlv o b), fun o b hb => absurd hb (hlv o b), ⟨fun b hb => hb, fun b o ho => ⟨blk_lt (hK b o ho), hK b o ho⟩⟩, fun ℓ sz xs b off n c hl => absurd hl (hat _ _ _ _),
      fun ℓ ℓ' b ⟨sz, xs, off, n, c, hl⟩ => absurd hl (hat _ _ _ _), fun j hj => absurd (hob _) hj, ⟨hB, hS⟩⟩
    rw [conSt_tm]
    cases hq : args[t]? with
    | none => exact .two _ _ (.one _ _ (.any _))
    | some x =>
      obtain ⟨hlt, rfl⟩ := List.getElem?_eq_some_iff.1 hq
      have hlt' : t < vs.length := by rw [← hargs.len]; exact hlt
      simpa [argTm, hlt'] using hargs.get t hlt hlt'
  · rintro e w' ⟨_, _, _, ⟨⟨rfl, rfl, rfl⟩, _⟩, v, H', μ', F', rfl, _, _, _, hrel, hx⟩
    have := hrel.env 0
    rw [conSt_tm] at this
    simp [upd] at this
    refine ⟨by rw [hr _ _ _ this], hx.io.1, hx.io.2.1, hx.io.2.2, hx.size, fun k hk => hx.frm k hk hk⟩
end Go.Ax
set_option linter.unusedVariables false
set_option linter.unusedSimpArgs false
namespace Go.Ax
/-! ### The calculus, carried out: for calls at given arguments -/
abbrev Calc := FuncId → List V → List Ob → Option (V × List Ob × List Ob)
/-- What comes of one operation. -/
def exO (C : Calc) (K : List Wr → Option St) : Option Res → Option St
  | some (.ws l) => K l
  | some (.call f args objs nw w) => match C f args objs with
    | some (v, os, ns) => if ns.length ≤ nw then K (back w v os ns) else none
    | none => none
  | some (.alts [l]) => K l
  | some (.alts _) => none
  | none => none
/-- .. where the order is drawn. -/
def exOB (C : Calc) (K : List Wr → Option St) : Option Res → Option St
  | some (.alts _) => none
  | x => exO C K x
def exR (C : Calc) (h : Hint) : List AO → St → Option St
  | [], st => some (restrict h st)
  | ⟨g, d, k⟩ :: r, st => match g with
    | none => exO C (fun l => exR C h r (st.app l)) ((evA d k).run st)
    | some (t, b) => match st.tm t with
      | .bool x => if x = b then exO C (fun l => exR C h r (st.app l)) ((evA d k).run st) else exR C h r (st.app (out d (.tup [])))
      | .tup [] => exR C h r (st.app (out d (.tup [])))
      | _ => none
def exB (C : Calc) (h : Hint) (n : Nat) (ps : List (Nat × Nat)) : List AO → St → List Foot → Option St
  | [], st, fs => if (fs.length = n ∧ (ps.all fun p => !((fs.getD p.1 ⟨[], []⟩).clash (fs.getD p.2 ⟨[], []⟩))) = true) then some (restrict h st) else none
  | ⟨g, d, k⟩ :: r, st, fs => match g with
    | none => exOB C (fun l => exB C h n ps r (st.app l) (fs ++ [⟨(evA d k).reads st, l.map Wr.wh⟩])) ((evA d k).run st)
    | some (t, b) => match st.tm t with
      | .bool x => if x = b then exOB C (fun l => exB C h n ps r (st.app l) (fs ++ [⟨.t t :: (evA d k).reads st, l.map Wr.wh⟩])) ((evA d k).run st)
        else exB C h n ps r (st.app (out d (.tup []))) (fs ++ [⟨[.t t], (out d (.tup [])).map Wr.wh⟩])
      | .tup [] => exB C h n ps r (st.app (out d (.tup []))) (fs ++ [⟨[.t t], (out d (.tup [])).map Wr.wh⟩])
      | _ => none
def exIter (body : St → Option (X × St)) : Nat → St → Option (X × St)
  | 0, _ => none
  | n + 1, st => match body st with
    | some (.normal, st') => exIter body n st'
    | r => r
def exC (C : Calc) (fuel : Nat) : AC → St → Option (X × St)
  | .skip, st => some (.normal, st)
  | .ret, st => some (.ret, st)
  | .exit id, st => some (.exit id, st)
  | .seq a b, st => match exC C fuel a st with
    | some (.normal, st') => exC C fuel b st'
    | r => r
  | .cond x a b, st => match x.val st with
    | .bool true => exC C fuel a st
    | .bool false => exC C fuel b st
    | _ => none
  | .block id a, st => match exC C fuel a st with
    | some (.exit i, st') => if i = id then some (.normal, st') else some (.exit i, st')
    | r => r
  | .loop h a, st => exIter (fun st => exC C fuel a (restrict h st)) fuel st
  | .reg h ops, st => (exR C h ops st).map fun s => (.normal, s)
  | .regD h ps ops, st => (exB C h ops.length ps ops st []).map fun s => (.normal, s)
section
variable {C : Calc} {O : Orc} (hC : ∀ f a o r o' n, C f a o = some (r, o', n) → O f a o (one r o' n))
include hC
theorem exO_A {h : Hint} {r : List AO} {st st' : St} {Q : St → Prop} {K : List Wr → Option St} (hK : ∀ l, K l = some st' → runA O h r (st.app l) Q) : ∀ (x : Option Res), exO C K x = some st' → resK O h r st Q x
  | some (.ws l), he => by
    simp only [exO] at he
    simp only [resK]
    exact hK l he
  | some (.call f args objs nw w), he => by
    simp only [exO] at he
    simp only [resK, CallA]
    split at he
    · rename_i v os ns hc
      split at he
      · rename_i hn
        exact callK (hC _ _ _ _ _ _ hc) hn (hK _ he)
      · cases he
    · cases he
  | some (.alts ls), he => by
    simp only [exO] at he
    simp only [resK]
    match ls, he with
    | [l], he =>
      intro l' hl'
      simp only [List.mem_cons, List.not_mem_nil, or_false] at hl'
      subst hl'
      exact hK _ he
  | none, he => by simp only [exO] at he; cases he
theorem exO_B {h : Hint} {n : Nat} {ps : List (Nat × Nat)} {r : List AO} {st st' : St} {fs : List Foot} {rs : List Wh} {Q : St → Prop} {K : List Wr → Option St} (hK : ∀ l, K l = some st' → runB O h n ps r (st.app l) (fs ++ [⟨rs, l.map Wr.wh⟩]) Q) : ∀ (x : Option Res), exOB C K x = some st' → resB O h n ps r st fs Q rs x
  | some (.ws l), he => by
    simp only [exOB, exO] at he
    simp only [resB]
    exact hK l he
  | some (.call f args objs nw w), he => by
    simp only [exOB, exO] at he
    simp only [resB, CallD]
    split at he
    · rename_i v os ns hc
      split at he
      · rename_i hn
        exact ⟨v, os, ns, hC _ _ _ _ _ _ hc, hn, hK _ he⟩
      · cases he
    · cases he
  | some (.alts ls), he => by simp only [exOB] at he; cases he
  | none, he => by simp only [exOB, exO] at he; cases he
theorem exR_sound {h : Hint} {Q : St → Prop} : ∀ (l : List AO) {st st' : St}, exR C h l st = some st' → Q st' → runA O h l st Q
  | [], st, st', he, hq => by simp only [exR, Option.some.injEq] at he; subst he; simp only [runA]; exact hq
  | ⟨none, d, k⟩ :: r, st, st', he, hq => by
    simp only [exR] at he
    simp only [runA]
    exact exO_A hC (fun l hl => exR_sound r hl hq) _ he
  | ⟨some (t, b), d, k⟩ :: r, st, st', he, hq => by
    simp only [exR] at he
    simp only [runA]
    split at he
    · rename_i x hx
      rw [hx]
      simp only [brV, br]
      by_cases hb : x = b
      · rw [if_pos hb] at he
        subst hb
        have := exO_A hC (Q := Q) (fun l hl => exR_sound r hl hq) _ he
        cases x
        · simp; exact this
        · simp; exact this
      · rw [if_neg hb] at he
        have := exR_sound r he hq
        cases x <;> cases b <;> simp at hb ⊢ <;> exact this
    · rename_i hx
      rw [hx]
      exact exR_sound r he hq
    · cases he
theorem exB_sound {h : Hint} {n : Nat} {ps : List (Nat × Nat)} {Q : St → Prop} : ∀ (l : List AO) {st st' : St} {fs : List Foot}, exB C h n ps l st fs = some st' → Q st' → runB O h n ps l st fs Q
  | [], st, st', fs, he, hq => by
    simp only [exB] at he
    split at he
    · rename_i hf
      simp only [Option.some.injEq] at he; subst he; simp only [runB]; exact ⟨hf, hq⟩
    · cases he
  | ⟨none, d, k⟩ :: r, st, st', fs, he, hq => by
    simp only [exB] at he
    simp only [runB]
    exact exO_B hC (fun l hl => exB_sound r hl hq) _ he
  | ⟨some (t, b), d, k⟩ :: r, st, st', fs, he, hq => by
    simp only [exB] at he
    simp only [runB]
    split at he
    · rename_i x hx
      rw [hx]
      simp only [brV, br]
      by_cases hb : x = b
      · rw [if_pos hb] at he
        subst hb
        have := exO_B hC (Q := Q) (fun l hl => exB_sound r hl hq) _ he
        cases x
        · simp; exact this
        · simp; exact this
      · rw [if_neg hb] at he
        have := exB_sound r he hq
        cases x <;> cases b <;> simp at hb ⊢ <;> exact this
    · rename_i hx
      rw [hx]
      exact exB_sound r he hq
    · cases he
theorem exC_sound {fuel : Nat} : ∀ (a : AC) {st st' : St} {e : X} {Q : X → St → Prop}, exC C fuel a st = some (e, st') → Q e st' → acwp O a st Q
  | .skip, st, st', e, Q, h, hq => by simp only [exC, Option.some.injEq, Prod.mk.injEq] at h; obtain ⟨rfl, rfl⟩ := h; exact hq
  | .ret, st, st', e, Q, h, hq => by simp only [exC, Option.some.injEq, Prod.mk.injEq] at h; obtain ⟨rfl, rfl⟩ := h; exact hq
  | .exit id, st, st', e, Q, h, hq => by simp only [exC, Option.some.injEq, Prod.mk.injEq] at h; obtain ⟨rfl, rfl⟩ := h; exact hq
  | .seq a b, st, st', e, Q, h, hq => by
    simp only [exC] at h
    simp only [acwp]
    split at h
    · rename_i s1 h1
      exact exC_sound a h1 (exC_sound b h hq)
    · rename_i hn
      cases e with
      | normal => exact absurd h (hn _)
      | ret => exact exC_sound a h hq
      | exit i => exact exC_sound a h hq
  | .cond x a b, st, st', e, Q, h, hq => by
    simp only [exC] at h
    simp only [acwp]
    split at h
    · rename_i hx
      rw [hx]
      refine ⟨fun _ => exC_sound a h hq, fun h => ?_⟩; cases h
    · rename_i hx
      rw [hx]
      refine ⟨fun h => ?_, fun _ => exC_sound b h hq⟩; cases h
    · cases h
  | .block id a, st, st', e, Q, h, hq => by
    simp only [exC] at h
    simp only [acwp]
    split at h
    · rename_i i s1 h1
      refine exC_sound a h1 ?_
      simp only [leaveA]
      split at h
      · rename_i hi
        simp only [Option.some.injEq, Prod.mk.injEq] at h; obtain ⟨rfl, rfl⟩ := h
        rw [if_pos hi]; exact hq
      · rename_i hi
        simp only [Option.some.injEq, Prod.mk.injEq] at h; obtain ⟨rfl, rfl⟩ := h
        rw [if_neg hi]; exact hq
    · rename_i hn
      refine exC_sound a h ?_
      cases e with
      | normal => exact hq
      | ret => exact hq
      | exit i => exact absurd h (hn _ _)
  | .loop hh a, st, st', e, Q, h, hq => by
    simp only [exC] at h
    simp only [acwp]
    refine ⟨fuel, ?_⟩
    have key : ∀ (n : Nat) (st : St), exIter (fun st => exC C fuel a (restrict hh st)) n st = some (e, st') → iter (fun st Q => acwp O a (restrict hh st) Q) Q n st := by
      intro n
      induction n with
      | zero => intro st h; simp only [exIter] at h; cases h
      | succ n ih =>
        intro st h
        simp only [exIter] at h
        simp only [iter]
        split at h
        · rename_i s1 h1
          exact exC_sound a h1 (ih s1 h)
        · rename_i hn
          refine exC_sound a h ?_
          cases e with
          | normal => exact absurd h (hn _)
          | ret => exact hq
          | exit i => exact hq
    exact key fuel st h
  | .reg hh ops, st, st', e, Q, h, hq => by
    simp only [exC, Option.map_eq_some_iff, Prod.mk.injEq] at h
    obtain ⟨s, h1, rfl, rfl⟩ := h
    simp only [acwp]
    exact exR_sound hC ops h1 hq
  | .regD hh ps ops, st, st', e, Q, h, hq => by
    simp only [exC, Option.map_eq_some_iff, Prod.mk.injEq] at h
    obtain ⟨s, h1, rfl, rfl⟩ := h
    simp only [acwp]
    exact exB_sound hC ops h1 hq
end
/-- What a call brings, read off the state at its end. -/
def endX (T : Nat → Option TI) (res : List ResultVar) (n : Nat) (mv : List Nat) (nwl : List Oid) (k : Nat) (x : X × St) : Option (V × List Ob × List Ob) :=
  match x.1 with
  | .exit _ => none
  | _ => match (resS T x.2 res).map (renV (outn n mv (nwl.take k))), parsD mv (outn n mv (nwl.take k)) x.2 0 n, newsOf (outn n mv (nwl.take k)) x.2 (nwl.take k) with
    | some r, some o, some ns => if ns.length = k ∧ o.length = n then some (r, o, ns) else none
    | _, _, _ => none
theorem endX_sound {T : Nat → Option TI} {res : List ResultVar} {n : Nat} {mv : List Nat} {nwl : List Oid} {k : Nat} {x : X × St} {r : V} {o ns : List Ob} (h : endX T res n mv nwl k x = some (r, o, ns)) : EndA T res n mv nwl r o ns x.1 x.2 ∧ o.length = n := by
  unfold endX at h
  have main : ∀ (hm : match x.1 with | .exit _ => False | _ => True), (match (resS T x.2 res).map (renV (outn n mv (nwl.take k))), parsD mv (outn n mv (nwl.take k)) x.2 0 n, newsOf (outn n mv (nwl.take k)) x.2 (nwl.take k) with
    | some r, some o, some ns => if ns.length = k ∧ o.length = n then some (r, o, ns) else none
    | _, _, _ => none) = some (r, o, ns) → EndA T res n mv nwl r o ns x.1 x.2 ∧ o.length = n := by
    intro hm h
    split at h
    · rename_i r' o' ns' h1 h2 h3
      split at h
      · rename_i hc
        simp only [Option.some.injEq, Prod.mk.injEq] at h
        obtain ⟨rfl, rfl, rfl⟩ := h
        obtain ⟨hk, ho⟩ := hc
        subst hk
        exact ⟨⟨hm, h1, h2, h3⟩, ho⟩
      · cases h
    · cases h
  split at h
  · cases h
  · rename_i hx
    refine main ?_ h
    split
    · rename_i i he; exact absurd he (hx i)
    · trivial
end Go.Ax
namespace Go.Ax
/-- A function's code, as it is carried out. -/
structure Ent (P : Program) (B : Heap) (T : Nat → Option TI) (f : FuncId) where
  ac : AC
  res : List ResultVar
  nwl : List Oid
  k : Nat
  n : Nat
  ok : ∀ {args : List V} {objs : List Ob} {S : Post}, acwp (COk P B) ac (initSt args objs) (EndP T res objs.length (mvOf args objs) nwl S) → args.length ≤ n → CallP P B f args objs S
/-- .. and one that leaves all as it is. -/
structure EntP (P : Program) (B : Heap) (T : Nat → Option TI) (f : FuncId) where
  ac : AC
  res : List ResultVar
  n : Nat
  ok : ∀ {args : List V} {objs : List Ob} {S : Post}, acwp (COk P B) ac (initM [] args objs) (EndP T res objs.length [] [] S) → args.length ≤ n → CallS P B [] f args objs S
section
variable {P : Program} {B : Heap} {T : Nat → Option TI}
def exF (base : Calc) (tab : (f : FuncId) → Option (Ent P B T f)) : Nat → Calc
  | 0 => base
  | m + 1 => fun f args objs => match tab f with
    | some e => if args.length ≤ e.n ∧ f < 1000000 then (match exC (exF base tab m) m e.ac (initSt args objs) with
      | some x => endX T e.res objs.length (mvOf args objs) e.nwl e.k x
      | none => none) else none
    | none => base f args objs
theorem exF_sound {base : Calc} {tab : (f : FuncId) → Option (Ent P B T f)} (hb : ∀ f a o r o' n, base f a o = some (r, o', n) → COk P B f a o (one r o' n)) :
    ∀ (m : Nat) (f : FuncId) (a : List V) (o : List Ob) (r : V) (o' n : List Ob), exF base tab m f a o = some (r, o', n) → COk P B f a o (one r o' n)
  | 0, f, a, o, r, o', n, h => hb _ _ _ _ _ _ h
  | m + 1, f, a, o, r, o', n, h => by
    simp only [exF] at h
    split at h
    · rename_i e he
      split at h
      · rename_i hc
        split at h
        · rename_i x hx
          obtain ⟨h1, h2⟩ := endX_sound h
          rw [COk.lt hc.2]
          exact e.ok (exC_sound (exF_sound hb m) e.ac hx (EndP.one h2 h1)) hc.1
        · cases h
      · cases h
    · exact hb _ _ _ _ _ _ h
end
end Go.Ax
set_option linter.unusedVariables false
set_option linter.unusedSimpArgs false
namespace Go.Ax
/-! ### a long run in parts -/
mutual
def V.same : V → V → Bool
  | .nils, .nils => true
  | .int k n, .int k' n' => decide (k = k') && decide (n = n')
  | .bool b, .bool c => b == c
  | .str s, .str t => decide (s = t)
  | .nilp, .nilp => true
  | .agg a, .agg b => V.sameL a b
  | .slice k a, .slice k' b => decide (k = k') && V.sameL a b
  | .own k a, .own k' b => decide (k = k') && V.sameL a b
  | .tup a, .tup b => V.sameL a b
  | .ref o k, .ref o' k' => decide (o = o') && decide (k = k')
  | _, _ => false
def V.sameL : List V → List V → Bool
  | [], [] => true
  | a :: r, b :: s => V.same a b && V.sameL r s
  | _, _ => false
end
mutual
theorem V.same_eq : ∀ (a b : V), V.same a b = true → a = b
  | a, b, h => by
    unfold V.same at h
    split at h
    · rfl
    · simp only [Bool.and_eq_true, decide_eq_true_eq] at h; rw [h.1, h.2]
    · rw [eq_of_beq h]
    · simp only [decide_eq_true_eq] at h; rw [h]
    · rfl
    · rw [V.sameL_eq _ _ h]
    · simp only [Bool.and_eq_true, decide_eq_true_eq] at h; rw [h.1, V.sameL_eq _ _ h.2]
    · simp only [Bool.and_eq_true, decide_eq_true_eq] at h; rw [h.1, V.sameL_eq _ _ h.2]
    · rw [V.sameL_eq _ _ h]
    · simp only [Bool.and_eq_true, decide_eq_true_eq] at h; rw [h.1, h.2]
    · cases h
theorem V.sameL_eq : ∀ (a b : List V), V.sameL a b = true → a = b
  | [], [], _ => rfl
  | a :: r, b :: s, h => by
    simp only [V.sameL, Bool.and_eq_true] at h
    rw [V.same_eq _ _ h.1, V.sameL_eq _ _ h.2]
  | [], _ :: _, h => by simp [V.sameL] at h
  | _ :: _, [], h => by simp [V.sameL] at h
end
def Ob.same : Ob → Ob → Bool
  | .cells b l, .cells c m => (b == c) && V.sameL l m
  | _, _ => false
def Ob.sameL : List Ob → List Ob → Bool
  | [], [] => true
  | a :: r, b :: s => Ob.same a b && Ob.sameL r s
  | _, _ => false
theorem Ob.same_eq : ∀ (a b : Ob), Ob.same a b = true → a = b
  | .cells b l, .cells c m, h => by
    simp only [Ob.same, Bool.and_eq_true] at h
    rw [eq_of_beq h.1, V.sameL_eq _ _ h.2]
  | .map .., _, h => by simp [Ob.same] at h
  | .iter .., _, h => by simp [Ob.same] at h
  | .dead, _, h => by simp [Ob.same] at h
  | .cells .., .map .., h => by simp [Ob.same] at h
  | .cells .., .iter .., h => by simp [Ob.same] at h
  | .cells .., .dead, h => by simp [Ob.same] at h
theorem Ob.sameL_eq : ∀ (a b : List Ob), Ob.sameL a b = true → a = b
  | [], [], _ => rfl
  | a :: r, b :: s, h => by
    simp only [Ob.sameL, Bool.and_eq_true] at h
    rw [Ob.same_eq _ _ h.1, Ob.sameL_eq _ _ h.2]
  | [], _ :: _, h => by simp [Ob.sameL] at h
  | _ :: _, [], h => by simp [Ob.sameL] at h
def CalcOk (P : Program) (B : Heap) (c : Calc) : Prop := ∀ f a o r o' n, c f a o = some (r, o', n) → COk P B f a o (one r o' n)
/-- What is known already. -/
def memo (f0 : FuncId) (a0 : List V) (o0 : List Ob) (x : V × List Ob × List Ob) (c : Calc) : Calc := fun f a o => if (decide (f = f0) && V.sameL a a0 && Ob.sameL o o0) = true then some x else c f a o
theorem memo_ok {P : Program} {B : Heap} {f0 : FuncId} {a0 : List V} {o0 : List Ob} {x : V × List Ob × List Ob} {c : Calc} (hc : CalcOk P B c) (h0 : COk P B f0 a0 o0 (one x.1 x.2.1 x.2.2)) : CalcOk P B (memo f0 a0 o0 x c) := by
  intro f a o r o' n h
  unfold memo at h
  split at h
  · rename_i hs
    simp only [Bool.and_eq_true, decide_eq_true_eq] at hs
    cases h
    rw [hs.1.1, V.sameL_eq _ _ hs.1.2, Ob.sameL_eq _ _ hs.2]
    exact h0
  · exact hc _ _ _ _ _ _ h
def less {α : FuncId → Type} (l : List FuncId) (t : (f : FuncId) → Option (α f)) (f : FuncId) : Option (α f) := bif l.contains f then none else t f
end Go.Ax
