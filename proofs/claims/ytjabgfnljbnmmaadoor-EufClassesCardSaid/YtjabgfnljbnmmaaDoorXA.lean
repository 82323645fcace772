/- A part of the proof of a law of this seat: no condition. -/
import Derived.Test.YtjabgfnljbnmmaaDoorA8
import Derived.RangeFuncIn
import Derived.RangeFuncRecord
import Derived.RangeFuncLeaves
import Derived.TacticsIn
import Derived.ControlIn
import Derived.CallsIn
import Derived.Test.YtjabgfnljbnmmaaDoorA9
set_option linter.unusedVariables false
set_option linter.unusedSimpArgs false
namespace Go.Ax
/-! ### pieces of a function's code; and code within a round -/
section
variable {P : Program} {F : Fr} {n : Nat} {D : Pin}
theorem piece_sound {T : Nat → Option TI} {opt : Opt} {hint : Nat → Hint} (hT : TabOk P T) (hm : P.follows .mixedOrders = true) {c : Code} {ac : AC} (hc : (if dstsZ D.ks n c then cCode T opt hint c else none) = some ac)
  {H μ st a w} {Q : X → St → Prop} {K : Exit → Act → World → Prop} (h : acwp (COk P F.B) ac st Q) (hat : AtS H μ F st a w n D)
  (hK : ∀ e st' a' w' H' μ', Q e st' → AtS H' μ' F st' a' w' n D → Ext F H w H' w' → K (exitOf e) a' w') : c.wp P K a w := by
 split at hc
 ·rename_i hd
  exact awp_sound ⟨COk P F.B, T, hint, opt⟩ rfl hT hm c hd (acwp_sound (Q := Q) c hc (fun e st h => h) h) hat hK
 ·cases hc
abbrev FR (r : Nat) : Fence := Fence.wide.inRound r
theorem fr_fn (r : Nat) (f : FuncId) : (FR r).fn f := trivial
theorem fr_depth (r : Nat) : ((FR r).depth.isSome = true) → False := fun h => by cases h
theorem callsIn_fr {r m : Nat} {f : FuncId} {args : Array Value} {w : World} {R : Ending → World → Prop} (h : Calls P f args w R) : CallsIn (FR r) m P f args w R := (callsIn_wide (n := m)).2 h
theorem rows_in {r m : Nat} {row : String} {args : Array Value} {w : World} {R : Value → World → Prop} (h : Rows P row args w R) : RowsIn (FR r) m P row args w R := by
 intro c cs hr
 obtain ⟨v, w', h1, h2⟩ := h c cs
 exact ⟨v, w', h1, stepsIn_wide.2 h2⟩
def noDefer (o : Oper) : Bool := match o.op with
 | .defer _ => false
 | _ => true
theorem noDefer_ne {o : Oper} (h : noDefer o = true) : ∀ c, o.op ≠ .defer c := by
 intro c e
 unfold noDefer at h
 rw [e] at h
 cases h
theorem wpList_in {r m : Nat} {ops : Array Oper} {K : Exit → Act → World → Prop} (hno : ∀ a w, ¬ K .outgrown a w) : ∀ (l : List Oper) {a w}, (∀ o ∈ l, noDefer o = true) → wpList P ops K l a w → wpListIn (FR r) m P ops K l a w := by
 intro l
 induction l with
 | nil => intro a w _ h; exact h
 | cons o rest ih =>
  intro a w hd h
  have hr : ∀ o ∈ rest, noDefer o = true := fun o' ho => hd o' (by simp [ho])
  simp only [wpList] at h
  simp only [wpListIn]
  split at h
  ·rename_i hw
   rw [if_pos hw]
   rcases h with h | ⟨_, ⟨a', w', h⟩⟩
   ·refine ⟨fun f _ => fr_fn r f, ?_⟩
    rw [Oper.semAt_eq _ _ _ (noDefer_ne (hd o (by simp)))]
    simp only [Oper.wp] at h
    generalize (execOp a.eval o).run P w = res at h ⊢
    cases res with
    | ok nx w' =>
     cases nx with
     | value v => exact ih hr h
     | skip => exact ih hr h
     | defer d => exact ih hr h
     | enter f args =>
      refine ⟨fun h => (fr_depth r h).elim, callsIn_fr (Calls.mono h fun e w'' he => ?_)⟩
      cases e with
      | returned v => exact ih hr he
      | panicked ch => exact he
      | outgrown => exact he
     | row row args =>
      obtain h := h
      refine ⟨fun h => (fr_depth r h).elim, rows_in ?_⟩
      intro c cs
      obtain ⟨v, w', h1, h2⟩ := h c cs
      exact ⟨v, w', ih hr h1, h2⟩
     | _ => exact h.elim
    | halt x w' =>
     cases x with
     | panic v => exact h
     | _ => exact h.elim
   ·exact absurd h (hno _ _)
  ·rename_i hw
   rw [if_neg hw]
   exact ⟨fun f _ => fr_fn r f, ih hr h⟩
def plainC : Code → Bool
 | .skip => true
 | .ret => true
 | .exit _ => true
 | .seq a b => plainC a && plainC b
 | .cond _ a b => plainC a && plainC b
 | .block _ a => plainC a
 | .region _ ops d => !d && ops.toList.all noDefer
 | _ => false
theorem awpIn_sound {r m : Nat} (c : Ctx) (hC : c.C = COk P F.B) (hT : TabOk P c.T) : ∀ (code : Code) {H μ st a w} {Q : X → St → Prop} {K : Exit → Act → World → Prop}, plainC code = true → dstsZ D.ks n code = true →
  awp c code st Q → AtS H μ F st a w n D → (∀ e st' a' w' H' μ', Q e st' → AtS H' μ' F st' a' w' n D → Ext F H w H' w' → K (exitOf e) a' w') → code.wpIn (FR r) m P K a w := by
 intro code
 induction code with
 | skip => intro H μ st a w Q K _ _ h hat hK; exact wpIn_skip (hK .normal st a w H μ h hat (Ext.refl _ _ _))
 | ret => intro H μ st a w Q K _ _ h hat hK; exact wpIn_ret (hK .ret st a w H μ h hat (Ext.refl _ _ _))
 | exit id => intro H μ st a w Q K _ _ h hat hK; exact wpIn_exit (hK (.exit id) st a w H μ h hat (Ext.refl _ _ _))
 | seq x y ihx ihy =>
  intro H μ st a w Q K hp hd h hat hK
  simp [dstsZ] at hd
  simp [plainC] at hp
  refine wpIn_seq (ihx hp.1 hd.1 h hat fun e st' a' w' H' μ' hq hat' hx => ?_)
  cases e with
  | normal => exact ihy hp.2 hd.2 hq hat' fun e st'' a'' w'' H'' μ'' hq' hat'' hx' => hK e st'' a'' w'' H'' μ'' hq' hat'' (hx.trans hx')
  | ret => exact hK .ret st' a' w' H' μ' hq hat' hx
  | exit id => exact hK (.exit id) st' a' w' H' μ' hq hat' hx
 | cond x y z ihy ihz =>
  intro H μ st a w Q K hp hd h hat hK
  simp [dstsZ] at hd
  simp [plainC] at hp
  simp only [awp] at h
  split at h
  ·rename_i t hv
   have hb := (ev_rep hat.rel (env_of a) hv).bool
   refine wpIn_cond hb ?_
   cases t
   ·exact ihz hp.2 hd.2 h hat hK
   ·exact ihy hp.1 hd.1 h hat hK
  ·exact h.elim
 | block id x ih =>
  intro H μ st a w Q K hp hd h hat hK
  refine wpIn_block (ih hp hd h hat fun e st' a' w' H' μ' hq hat' hx => ?_)
  cases e with
  | normal => exact hK .normal st' a' w' H' μ' hq hat' hx
  | ret => exact hK .ret st' a' w' H' μ' hq hat' hx
  | exit i =>
   simp only [exitOf, Exit.inBlock]
   dsimp only at hq
   by_cases e : i = id
   ·rw [if_pos e] at hq ⊢
    exact hK .normal st' a' w' H' μ' hq hat' hx
   ·rw [if_neg e] at hq ⊢
    exact hK (.exit i) st' a' w' H' μ' hq hat' hx
 | region id ops draw =>
  intro H μ st a w Q K hp hd h hat hK
  have hd' : ∀ o ∈ ops.toList, ∀ d, o.dst = some d → okD n D d := by
   intro o ho d hod
   have := List.all_eq_true.1 hd o ho
   rw [hod] at this
   simp only [Bool.and_eq_true, Bool.not_eq_true', decide_eq_true_eq] at this
   exact this
  simp only [plainC, Bool.and_eq_true, List.all_eq_true] at hp
  have hpo := hp.2
  cases draw with
  | false =>
   simp only [awp, hC] at h
   refine wpIn_mono (Q := fun e a w => e ≠ .outgrown ∧ K e a w) (wpIn_region_list ?_) (fun e a w h => h.2)
   have := runOps_sound (P := P) hT (ops := ops.toList) (K := fun e a w => e ≠ .outgrown ∧ K e a w) ops.toList hd' h hat (fun st' a' w' H' μ' hq hat' hx => by
    obtain ⟨μ2, hr⟩ := restrict_rel hat'.rel (c.hint (2 * id))
    exact ⟨by simp, hK .normal _ a' w' H' μ2 hq ⟨hr, hat'.size, hat'.defers, hat'.fix⟩ hx⟩)
   have := wpList_in (r := r) (m := m) (fun a w h => h.1 rfl) _ (fun o ho => hpo o ho) this
   simpa using this
  | true => simp at hp
 | _ => intro H μ st a w Q K hp; simp [plainC] at hp
theorem pieceIn_sound {r m : Nat} {T : Nat → Option TI} {opt : Opt} {hint : Nat → Hint} (hT : TabOk P T) {c : Code} {ac : AC} (hc : (if dstsZ D.ks n c && plainC c then cCode T opt hint c else none) = some ac)
  {H μ st a w} {Q : X → St → Prop} {K : Exit → Act → World → Prop} (h : acwp (COk P F.B) ac st Q) (hat : AtS H μ F st a w n D)
  (hK : ∀ e st' a' w' H' μ', Q e st' → AtS H' μ' F st' a' w' n D → Ext F H w H' w' → K (exitOf e) a' w') : c.wpIn (FR r) m P K a w := by
 split at hc
 ·rename_i hd
  simp at hd
  exact awpIn_sound ⟨COk P F.B, T, hint, opt⟩ rfl hT c hd.2 hd.1 (acwp_sound (Q := Q) c hc (fun e st h => h) h) hat hK
 ·cases hc
end
end Go.Ax
namespace Go.Ax
section
variable {H H' : Heap} {μ μ' : Oid → Option Nat} {F : Fr} {st st' : St} {tm : Nat → Value} {w w' : World}
def bare : Obj → Bool
 | .cells .. => false
 | .map .. => false
 | _ => true
theorem Rel.turn (h : Rel H μ F st tm w) {l : Nat} {o o' : Obj} (hl : w.heap[l]? = some o) (hb : bare o = true) (hb' : bare o' = true) (hF : ¬ F l) (hs : w'.heap.size = w.heap.size)
  (ho : ∀ b, b ≠ l → w'.heap[b]? = w.heap[b]?) (hl' : w'.heap[l]? = some o') : Rel H μ F st tm w' := by
 have hc : ∀ b k, w'.cell? ⟨b, k, none⟩ = w.cell? ⟨b, k, none⟩ := by
  intro b k
  by_cases e : b = l
  ·subst e
   have h1 : w.cell? ⟨b, k, none⟩ = none := by
    simp only [World.cell?, hl]
    cases o <;> first | rfl | simp [bare] at hb
   have h2 : w'.cell? ⟨b, k, none⟩ = none := by
    simp only [World.cell?, hl']
    cases o' <;> first | rfl | simp [bare] at hb'
   rw [h1, h2]
  ·exact cell?_eq (ho b e) k
 have hz : ∀ b, blkSize w' b = blkSize w b := by
  intro b
  by_cases e : b = l
  ·subst e
   simp only [blkSize, hl, hl']
   cases o <;> cases o' <;> first | rfl | simp [bare] at hb hb'
  ·exact blkSize_eq (ho b e)
 have ha : ∀ ℓ x v, atL μ st tm w' ℓ x v ↔ atL μ st tm w ℓ x v := by
  intro ℓ x v
  cases ℓ <;> simp [atL, hc]
 have hho : ∀ ℓ b, Holds μ st tm w' ℓ b ↔ Holds μ st tm w ℓ b := by simp [Holds, ha]
 refine ⟨h.env, fun b o v x => by rw [hc]; exact h.heap b o v x, fun b => by rw [hz]; exact h.size b, h.dom, ?_, h.inj, h.objH, h.objF,
  ⟨fun b hb => by rw [hs]; exact h.Flt.1 b hb, fun b x hx => ⟨(h.Flt.2 b x hx).1, by rw [ho b (fun e => hF (e ▸ (h.Flt.2 b x hx).1))]; exact (h.Flt.2 b x hx).2⟩⟩, ?_, fun ℓ ℓ' b x y => h.ownInj ℓ ℓ' b ((hho _ _).1 x) ((hho _ _).1 y), h.par, h.base⟩
 ·intro u x hx hax
  rcases h.obs u x hx hax with ⟨b, h1, h2⟩ | h1
  ·refine .inl ⟨b, h1, ?_⟩
   have hne : b ≠ l := by
    rintro rfl
    cases x with
    | cells row cs => obtain ⟨vs, ty, e, _⟩ := h2; rw [hl] at e; cases e; simp [bare] at hb
    | map base m => obtain ⟨es, e, _⟩ := h2; rw [hl] at e; cases e; simp [bare] at hb
    | dead => simp [Ob.alive] at hax
   exact h2.keep (ho b hne) (Le.refl _) (fun _ _ x => x)
  ·exact .inr h1
 ·intro ℓ sz xs b off n c hl2
  obtain ⟨⟨vs, ty, h1, h1'⟩, h2, h3, h4⟩ := h.own ℓ sz xs b off n c ((ha _ _ _).1 hl2)
  have hne : b ≠ l := by rintro rfl; rw [hl] at h1; cases h1; simp [bare] at hb
  exact ⟨⟨vs, ty, by rw [ho b hne]; exact h1, h1'⟩, h2, h3, h4⟩
theorem Rel.learn (h : Rel H μ F st tm w) {g : Nat} (hl : Le H H') (hne : ∀ b k, b ≠ g → H' b k = H b k) (hsz : ∀ b, H'.size b = H.size b)
  (hcell : ∀ k v, H' g k = some v → w.cell? ⟨g, k, none⟩ = some v) (hlive : ∀ o, live st μ o ≠ some g) (hown : ∀ ℓ, ¬ Holds μ st tm w ℓ g) : Rel H' μ F st tm w := by
 refine ⟨fun t => (h.env t).mono hl (fun _ _ x => x), fun b o v hv => ?_, fun b => by rw [hsz]; exact h.size b, h.dom, ?_, h.inj, ?_, h.objF, h.Flt, ?_, h.ownInj, h.par, h.base.trans hl⟩
 ·by_cases e : b = g
  ·subst e; exact hcell _ _ hv
  ·rw [hne b o e] at hv; exact h.heap b o v hv
 ·intro o x hx hax
  rcases h.obs o x hx hax with ⟨b, h1, h2⟩ | h1
  ·exact .inl ⟨b, h1, h2.keep rfl hl (fun _ _ x => x)⟩
  ·exact .inr h1
 ·intro o b hb k
  rw [hne b k (fun e => hlive o (e ▸ hb))]
  exact h.objH o b hb k
 ·intro ℓ sz xs b off n c hl2
  obtain ⟨h1, h2, h3, h4⟩ := h.own ℓ sz xs b off n c hl2
  exact ⟨h1, fun k k1 k2 => by rw [hne b k (fun e => hown ℓ ⟨sz, xs, off, n, c, e ▸ hl2⟩)]; exact h2 k k1 k2, h3, h4⟩
theorem sl_inv {sz : Nat} {o : Oid} {n : Nat} {v : Value} (h : RepS H μ (.sl sz o n) v) (hn : n ≠ 0) : ∃ b c, μ o = some b ∧ v = .slice (some ⟨b, 0, none⟩) n c ∧ n ≤ c := by
 cases h with
 | two _ _ h => cases h with | one _ _ h => cases h with
  | data _ _ h => cases h
  | sl0 => exact absurd rfl hn
  | sl _ _ b' _ c g1 g2 g3 => exact ⟨b', c, g1, rfl, g2⟩
theorem flat_ints (l : List Int) : (l.map fun k => V.int .i64 k).flatMap V.cells = l.map fun k => V.int .i64 k := by
 induction l with
 | nil => rfl
 | cons a r ih => simp only [List.map_cons, List.flatMap_cons, ih]; rfl
theorem rep_ints (l : List Int) : RepL H (l.map fun k => V.int .i64 k) (l.map fun k => Value.int .i64 k) := by
 induction l with
 | nil => exact .nil
 | cons a r ih => exact .cons _ _ _ _ rfl (.int _ _) ih
theorem Rel.freeze (h : Rel H μ F st tm w) {o : Oid} {t : Nat} {l : List Int} (ho : st.ob o = some (.cells true (l.map fun k => V.int .i64 k))) (ht : st.tm t = .sl 1 o l.length) (hne : l ≠ []) :
  ∃ H', Rel H' μ F ((st.putO o .dead).put t (.slice 1 (l.map fun k => V.int .i64 k))) tm w ∧ Ext F H w H' w := by
 obtain ⟨b, hb, hob⟩ : ∃ b, μ o = some b ∧ RepOb H μ w b (.cells true (l.map fun k => V.int .i64 k)) := by
  rcases h.obs o _ ho rfl with h1 | ⟨h1, _⟩
  ·exact h1
  ·exfalso; apply hne; injection h1 with _ h1; exact List.map_eq_nil_iff.1 h1
 have hlv : live st μ o = some b := live_of hb (by rw [ho]; simp)
 obtain ⟨hk, k1, k2, k3⟩ := h.kill (o := o) (by rw [ho]; simp)
 obtain ⟨vs, ty, e1, e2, _⟩ := hob
 have hlen : (l.map fun k => V.int .i64 k).length = l.length := List.length_map ..
 have hval : ∀ j (hj : j < l.length), vs[j]? = some (.int .i64 l[j]) := by
  intro j hj
  have e3 := e2
  rw [hlen] at e3
  have hl2 := e3.length
  rw [hlen] at hl2
  obtain ⟨_, _, h3⟩ := e3.get j (by rw [hlen]; exact hj) (by omega)
  simp only [List.getElem_map] at h3
  have h4 : (vs.toList.take l.length)[j]'(by omega) = .int .i64 l[j] := (RepS.two _ _ (.one _ _ h3)).int
  have h5 : (vs.toList.take l.length)[j]? = some (.int .i64 l[j]) := by rw [List.getElem?_eq_getElem (by omega), h4]
  rw [List.getElem?_take, if_pos hj] at h5
  simpa using h5
 have hnoF : ¬ F b := h.objF o b hlv
 have hnoH : ∀ k, H b k = none := h.objH o b hlv
 let H' : Heap := ⟨fun c k => if c = b then (if hk : k < l.length then some (.int .i64 l[k]) else none) else H c k, H.size, H.blk⟩
 have hle : Le H H' := ⟨fun c k u hu => by
  show (if c = b then _ else _) = _
  rw [if_neg (by rintro rfl; rw [hnoH] at hu; cases hu)]; exact hu, fun c => Nat.le_refl _⟩
 have hcell : ∀ k (hk : k < l.length), H' b k = some (.int .i64 l[k]) := fun k hk => by
  show (if b = b then _ else _) = _
  rw [if_pos rfl, dif_pos hk]
 have r1 : Rel H' μ F (st.putO o .dead) tm w := by
  refine hk.learn (g := b) hle (fun c k hc => if_neg hc) (fun c => rfl) (fun k v hv => ?_) (fun u => k2 b hlv u) (fun ℓ hh => ?_)
  ·have hv' : (if b = b then (if hk : k < l.length then some (Value.int .i64 l[k]) else none) else H b k) = some v := hv
   rw [if_pos rfl] at hv'
   split at hv'
   ·rename_i hk'
    rw [cell?_of e1, hval k hk']; exact hv'
   ·cases hv'
  ·obtain ⟨sz, xs, off, n, c, hat⟩ := k3 ℓ b hh
   exact (h.own ℓ sz xs b off n c hat).noobj o hlv
 refine ⟨H', ?_, ⟨Io.refl _, hle, Nat.le_refl _, fun _ _ _ => rfl, fun c hc hlt k => if_neg (by rintro rfl; exact hnoF hc)⟩⟩
 have hv := h.env t
 rw [ht] at hv
 obtain ⟨b', c, e4, e5, e6⟩ := sl_inv hv (fun e => hne (List.length_eq_zero_iff.1 e))
 rw [hb] at e4
 cases e4
 have := r1.put (t := t) (x := .slice 1 (l.map fun k => V.int .i64 k)) (v := tm t) (by
  rw [e5]
  have hrow : RepRow H' 1 b 0 (l.map fun k => V.int .i64 k) := by
   refine RepRow.of_flat (vs := l.map fun k => Value.int .i64 k) (fun x hx => ?_) ?_ (fun j hj => ?_)
   ·obtain ⟨k, _, rfl⟩ := List.mem_map.1 hx; rfl
   ·rw [flat_ints]; exact rep_ints l
   ·have hj' : j < l.length := by simpa using hj
    rw [Nat.zero_add, hcell j hj']
    simp
  have := RepD.slice (H := H') 1 _ b 0 c hrow (by rw [hlen]; exact e6)
  rw [hlen] at this
  exact .two _ _ (.one _ _ (.data _ _ this))) (fun sz xs b off n c e => by cases e)
 refine this.tmCongr fun u => ?_
 simp only [upd]
 split
 ·rename_i e; rw [e]
 ·rfl
end
end Go.Ax
namespace Go.Ax
attribute [local simp] look_cons
section
variable {P : Program} {T : Nat → Option TI}
theorem start_at {mv : List Nat} {args : List V} {objs : List Ob} {D : Pin} {m : Nat} {a : Act} {H : Heap} {F : Fr} {w : World} {μ : Oid → Option Nat} (hsz : a.tmps.size = m) (hdf : a.defers = D.ds) (hfix : ∀ t, D.ks.contains t = true → a.tmps[t]? = some (D.fx t))
  (hvs : args.length = a.tmps.toList.length) (hr : Rel H μ F (conSt args objs []) (argTm a.tmps.toList) w) :
  ∃ μ0, AtS H μ0 ⟨F.F, fun j => if j < objs.length then F.G j else none, F.B⟩ (initM mv args objs) a w m D ∧ ∀ j, j < objs.length → F.G j = μ (.par j) := by
 obtain ⟨μ0, hr0, hG⟩ := init_rel (m := 0) hvs hr
 exact ⟨μ0, ⟨hr0.tmCongr fun t => by simp [tmOf], hsz, hdf, hfix⟩, hG⟩
theorem fin_at {mv : List Nat} {fn : Func} (hT : TabOk P T) {objs : List Ob} {r : V} {objs' news : List Ob} {nwl : List Oid} {D : Pin} {m : Nat} (hlen : objs'.length = objs.length) (hnw : nwOk nwl = true)
  {H H' : Heap} {F : Fr} {w w' : World} {μ μ' : Oid → Option Nat} {st' : St} {a' : Act} (hG : ∀ j, j < objs.length → F.G j = μ (.par j))
  (hat' : AtS H' μ' ⟨F.F, fun j => if j < objs.length then F.G j else none, F.B⟩ st' a' w' m D) (hx : Ext ⟨F.F, fun j => if j < objs.length then F.G j else none, F.B⟩ H w H' w')
  (hres : (resS T st' fn.results.toList).map (renV (outn objs.length (mv) (nwl.take news.length))) = some r)
  (hpar : parsD (mv) (outn objs.length (mv) (nwl.take news.length)) st' 0 objs.length = some objs') (hnews : newsOf (outn objs.length (mv) (nwl.take news.length)) st' (nwl.take news.length) = some news) :
  ∃ u, (results fn a'.tmps).run P w' = .ok u w' ∧ ∃ v H' μ2 F', Ending.returned u = .returned v ∧ F'.F = F.F ∧ F'.B = F.B ∧ (∀ j, j < objs.length → j ∉ mv → μ2 (.par j) = μ (.par j)) ∧ Rel H' μ2 F' (conSt [r] objs' news) (upd noTm 0 v) w' ∧ Ext F H w H' w' := by
 generalize hnws : nwl.take news.length = nws at *
 obtain ⟨μ2, st2, hrel2, g2, g3, g4, g5, g6⟩ := hat'.rel.fill mv objs.length
 rw [← parsD_of g3 g4 g5 objs.length 0 (by omega)] at hpar
 replace hnews := newsOf_mono g3 hnews
 have hnw2 : nws.Nodup ∧ ∀ o ∈ nws, ∀ j, o.root ≠ .par j := by
  simp only [nwOk, Bool.and_eq_true, decide_eq_true_eq, List.all_eq_true] at hnw
  rw [← hnws]
  refine ⟨hnw.1.sublist (List.take_sublist _ _), fun o ho j e => ?_⟩
  have := hnw.2 o (List.mem_of_mem_take ho)
  rw [e] at this
  simp at this
 cases hr1' : resS T st' fn.results.toList with
 | none => rw [hr1'] at hres; simp at hres
 | some r0 =>
 have hr0' := resS_mono g2 g3 hr1'
 rw [hr1'] at hres
 simp at hres
 obtain ⟨u, h1, h2, h3⟩ := resS_run (P := P) hT hrel2 hr0'
 obtain ⟨p1, p2⟩ := parsOf_get _ _ hpar
 obtain ⟨n1, n2⟩ := newsOf_get _ hnews
 have hpost : ∃ v H' μ2 F', Ending.returned u = .returned v ∧ F'.F = F.F ∧ F'.B = F.B ∧ (∀ j, j < objs.length → j ∉ mv → μ2 (.par j) = μ (.par j)) ∧
   Rel H' μ2 F' (conSt [r] objs' news) (upd noTm 0 v) w' ∧ Ext F H w H' w' := by
  refine ⟨u, H', _, ⟨F.F, fun j => ((fun u => match u with | .par j => if j < objs.length then some (if mv.contains j then .alt (.par j) else .par j) else none | .sub 0 i => nws[i]? | _ => none : Oid → Option Oid) (.par j)).bind μ2, F.B⟩, rfl, rfl, rfl, ?_,
   hrel2.rename (F' := ⟨F.F, fun j => ((fun u => match u with | .par j => if j < objs.length then some (if mv.contains j then .alt (.par j) else .par j) else none | .sub 0 i => nws[i]? | _ => none : Oid → Option Oid) (.par j)).bind μ2, F.B⟩)
    (fun u => match u with | .par j => if j < objs.length then some (if mv.contains j then .alt (.par j) else .par j) else none | .sub 0 i => nws[i]? | _ => none) (outn objs.length mv nws)
    (fun t => if t = 0 ∧ r0.isOwn = true then some (Classical.epsilon fun s : Nat => st2.tm s = r0 ∧ tmOf a' s = u) else none) rfl rfl ?_ ?_ ?_ ?_ ?_ (fun _ _ => rfl), ⟨hx.io, hx.le, hx.size, hx.frm, hx.frH⟩⟩
  ·intro j hj hjm
   have hc : ¬ mv.contains j = true := by simpa using hjm
   obtain ⟨x, hx1, _⟩ := p2 j (by omega)
   rw [Nat.zero_add, if_neg hc] at hx1
   have hp := hrel2.par j (by rw [hx1]; simp)
   show ((if j < objs.length then some (if mv.contains j = true then Oid.alt (.par j) else Oid.par j) else none).bind μ2) = μ (.par j)
   rw [if_pos hj, if_neg hc, Option.bind_some, hp]
   show (if j < objs.length then F.G j else none) = _
   rw [if_pos hj, hG j hj]
  ·intro o u' b k1 k2
   unfold outn at k1
   split at k1
   ·rename_i j
    split at k1
    ·simp at k1
    ·rename_i hc
     split at k1
     ·rename_i hj
      injection k1 with k1
      subst k1
      simp only [if_pos hj, if_neg hc]
     ·simp at k1
   ·rename_i j
    split at k1
    ·rename_i hc
     split at k1
     ·rename_i hj
      injection k1 with k1
      subst k1
      simp only [if_pos hj, if_pos hc]
     ·simp at k1
    ·simp at k1
   ·cases hp : place o nws with
    | none => rw [hp] at k1; simp at k1
    | some i =>
     rw [hp] at k1
     simp at k1
     subst k1
     exact place_some hp
  ·have hpr : ∀ (u : Oid) o, (match u with | .par j => if j < objs.length then some (if mv.contains j = true then Oid.alt (.par j) else Oid.par j) else none | .sub 0 i => nws[i]? | _ => none : Option Oid) = some o →
     (∃ j, u = .par j ∧ o.root = .par j) ∨ ∃ i, u = .sub 0 i ∧ nws[i]? = some o := by
    intro u o hu
    split at hu
    ·rename_i j
     split at hu
     ·injection hu with hu
      left
      refine ⟨j, rfl, ?_⟩
      rw [← hu]
      split <;> rfl
     ·simp at hu
    ·rename_i i
     exact .inr ⟨i, rfl, hu⟩
    ·simp at hu
   intro u1 u2 o k1 k2
   rcases hpr _ _ k1 with ⟨j, rfl, k3⟩ | ⟨i, rfl, k3⟩ <;> rcases hpr _ _ k2 with ⟨j', rfl, k4⟩ | ⟨i', rfl, k4⟩
   ·rw [k3] at k4
    injection k4 with k4
    rw [k4]
   ·exact absurd k3 (hnw2.2 o (List.mem_of_getElem? k4) j)
   ·exact absurd k4 (hnw2.2 o (List.mem_of_getElem? k3) j')
   ·obtain ⟨l1, e1⟩ := List.getElem?_eq_some_iff.1 k3
    obtain ⟨l2, e2⟩ := List.getElem?_eq_some_iff.1 k4
    have := (List.getElem_inj hnw2.1).1 (e1.trans e2.symm)
    rw [this]
  ·intro u1
   rw [conSt_ob]
   cases u1 with
   | par j =>
    dsimp only
    by_cases hj : j < objs.length
    ·obtain ⟨x, hx1, hx2⟩ := p2 j (by omega)
     rw [Nat.zero_add] at hx1
     rw [if_pos hj]
     show _ = (st2.ob _).map _
     rw [hx1, List.getElem?_eq_getElem (by omega), hx2]
     rfl
    ·rw [if_neg hj, List.getElem?_eq_none (by omega)]
   | sub t i =>
    cases t with
    | zero =>
     show news[i]? = match (nws[i]? : Option Oid) with | some o => (st2.ob o).map (Ob.ren (outn objs.length mv nws)) | none => none
     by_cases hi : i < news.length
     ·obtain ⟨x, hx1, hx2⟩ := n2 i hi (by omega)
      rw [List.getElem?_eq_getElem (show i < nws.length by omega)]
      show _ = (st2.ob _).map _
      rw [hx1, List.getElem?_eq_getElem hi, hx2]
      rfl
     ·rw [List.getElem?_eq_none (by omega), List.getElem?_eq_none (by omega)]
    | succ t => rfl
   | _ => rfl
  ·intro t t' s k1 k2
   split at k1
   ·rename_i e1
    split at k2
    ·rename_i e2
     rw [e1.1, e2.1]
    ·simp at k2
   ·simp at k1
  ·intro t
   by_cases ht : t = 0
   ·subst ht
    refine ⟨r0, u, ?_, by simp [upd], h2, fun ho => ?_⟩
    ·rw [conSt_tm]
     simp [hres]
    ·have := Classical.epsilon_spec (h3 ho)
     exact ⟨_, by rw [if_pos ⟨rfl, ho⟩], this.1, this.2⟩
   ·refine ⟨.any, noTm t, ?_, by simp [upd, ht], .two _ _ (.one _ _ (.any _)), by simp [V.isOwn]⟩
    rw [conSt_tm]
    cases t with
    | zero => exact absurd rfl ht
    | succ t => rfl
 exact ⟨u, h1, hpost⟩
end
end Go.Ax
namespace Go.Ax
section
variable {P : Program} {F : Fr} {n : Nat} {D : Pin}
structure Open (P : Program) (G : Fence) : Prop where
 fn : ∀ f, G.fn f
 depth : G.depth = none
 calls : ∀ {m f args w R}, Calls P f args w R → CallsIn G m P f args w R
 rows : ∀ {m row args w R}, Rows P row args w R → RowsIn G m P row args w R
theorem open_wide : Open P Fence.wide := ⟨fun _ => trivial, rfl, fun h => callsIn_wide.2 h, fun h c cs _ => by
 obtain ⟨v, w', h1, h2⟩ := h c cs
 exact ⟨v, w', h1, stepsIn_wide.2 h2⟩⟩
theorem wpList_inA {G : Fence} {m : Nat} (hG : Open P G) {ops : Array Oper} {K K2 : Exit → Act → World → Prop} {l2 : List Oper} (hno : ∀ a w, ¬ K2 .outgrown a w) (hK : ∀ e a w, e ≠ .normal → K2 e a w → K e a w)
  (hn : ∀ a w, K2 .normal a w → wpListIn G m P ops K l2 a w) : ∀ (l : List Oper) {a w}, (∀ o ∈ l, noDefer o = true) → wpList P ops K2 l a w → wpListIn G m P ops K (l ++ l2) a w := by
 intro l
 induction l with
 | nil => intro a w _ h; exact hn a w h
 | cons o rest ih =>
  intro a w hd h
  have hr : ∀ o ∈ rest, noDefer o = true := fun o' ho => hd o' (by simp [ho])
  simp only [wpList] at h
  simp only [List.cons_append, wpListIn]
  split at h
  ·rename_i hw
   rw [if_pos hw]
   rcases h with h | ⟨_, ⟨a', w', h⟩⟩
   ·refine ⟨fun f _ => hG.fn f, ?_⟩
    rw [Oper.semAt_eq _ _ _ (noDefer_ne (hd o (by simp)))]
    simp only [Oper.wp] at h
    generalize (execOp a.eval o).run P w = res at h ⊢
    cases res with
    | ok nx w' =>
     cases nx with
     | value v => exact ih hr h
     | skip => exact ih hr h
     | defer d => exact ih hr h
     | enter f args =>
      refine ⟨(fun hh => by rw [hG.depth] at hh; cases hh), hG.calls (Calls.mono h fun e w'' he => ?_)⟩
      cases e with
      | returned v => exact ih hr he
      | panicked ch => exact hK _ _ _ (by simp) he
      | outgrown => obtain ⟨a1, w1, he⟩ := he; exact absurd he (hno _ _)
     | row row args =>
      refine ⟨(fun hh => by rw [hG.depth] at hh; cases hh), hG.rows ?_⟩
      intro c cs
      obtain ⟨v, w', h1, h2⟩ := h c cs
      exact ⟨v, w', ih hr h1, h2⟩
     | _ => exact h.elim
    | halt x w' =>
     cases x with
     | panic v => exact hK _ _ _ (by simp) h
     | _ => exact h.elim
   ·exact absurd h (hno _ _)
  ·rename_i hw
   rw [if_neg hw]
   exact ⟨fun f _ => hG.fn f, ih hr h⟩
theorem ops_sound {G : Fence} {m : Nat} (hG : Open P G) {T : Nat → Option TI} (hT : TabOk P T) {M : Mode} {all l1 l2 : List Oper} {aos : List AO} {hh : Hint} (hc : cOps T M all l1 = some aos) (hd : ∀ o ∈ l1, ∀ d, o.dst = some d → okD n D d) (hnd : ∀ o ∈ l1, noDefer o = true)
  {H μ st a w} {Q : St → Prop} {K : Exit → Act → World → Prop} (h : runA (COk P F.B) hh aos st Q) (hat : AtS H μ F st a w n D)
  (hK : ∀ st' a' w' H' μ', Q st' → AtS H' μ' F st' a' w' n D → Ext F H w H' w' → wpListIn G m P all.toArray K l2 a' w') : wpListIn G m P all.toArray K (l1 ++ l2) a w := by
 have h1 := runA_sound (M := M) (all := all) l1 hc h
 have h2 := runOps_sound (P := P) hT (ops := all) (K := fun e a w => e = .normal ∧ wpListIn G m P all.toArray K l2 a w) l1 hd h1 hat (fun st' a' w' H' μ' hq hat' hx => by
  obtain ⟨μ2, hr⟩ := restrict_rel hat'.rel hh
  exact ⟨rfl, hK _ a' w' H' μ2 hq ⟨hr, hat'.size, hat'.defers, hat'.fix⟩ hx⟩)
 exact wpList_inA hG (fun a w h => by cases h.1) (fun e a w he h => absurd h.1 he) (fun a w h => h.2) l1 hnd h2
/-! ### a code that holds one range over a function -/
def cutRF : Code → Option (Code × (Operand × Array Tmp × Code × Code) × Nat × Code)
 | .seq (.seq x (.block id (.rangeFunc g ps a b))) t => some (x, (g, ps, a, b), id, t)
 | .seq x r => (cutRF r).map fun q => (.seq x q.1, q.2)
 | _ => none
theorem cut_sound {T : Nat → Option TI} {opt : Opt} {hint : Nat → Hint} (hT : TabOk P T) (hm : P.follows .mixedOrders = true) : ∀ (c : Code) {p : Code} {g : Operand} {ps : Array Tmp} {as bd : Code} {id : Nat} {t : Code} {ac : AC},
  cutRF c = some (p, (g, ps, as, bd), id, t) → dstsZ D.ks n p = true → cCode T opt hint p = some ac → ∀ {H μ st a w} {Q : X → St → Prop} {K : Exit → Act → World → Prop}, acwp (COk P F.B) ac st Q → AtS H μ F st a w n D →
  (∀ e st' a' w' H' μ', e ≠ .normal → Q e st' → AtS H' μ' F st' a' w' n D → Ext F H w H' w' → K (exitOf e) a' w') →
  (∀ st' a' w' H' μ', Q .normal st' → AtS H' μ' F st' a' w' n D → Ext F H w H' w' → (Code.block id (.rangeFunc g ps as bd)).wp P (Exit.then (t.wp P K) K) a' w') → c.wp P K a w := by
 intro c
 have base : ∀ {x : Code} {g : Operand} {ps : Array Tmp} {as bd : Code} {id : Nat} {t : Code} {ac : AC}, dstsZ D.ks n x = true → cCode T opt hint x = some ac → ∀ {H μ st a w} {Q : X → St → Prop} {K : Exit → Act → World → Prop}, acwp (COk P F.B) ac st Q → AtS H μ F st a w n D →
  (∀ e st' a' w' H' μ', e ≠ .normal → Q e st' → AtS H' μ' F st' a' w' n D → Ext F H w H' w' → K (exitOf e) a' w') →
  (∀ st' a' w' H' μ', Q .normal st' → AtS H' μ' F st' a' w' n D → Ext F H w H' w' → (Code.block id (.rangeFunc g ps as bd)).wp P (Exit.then (t.wp P K) K) a' w') → (Code.seq (.seq x (.block id (.rangeFunc g ps as bd))) t).wp P K a w := by
  intro x g ps as bd id t ac hd hc H μ st a w Q K h hat hne hK
  refine wp_seq (wp_seq (piece_sound hT hm (by rw [if_pos hd]; exact hc) h hat fun e st' a' w' H' μ' hq hat' hx => ?_))
  cases e with
  | normal => exact hK st' a' w' H' μ' hq hat' hx
  | ret => exact hne .ret st' a' w' H' μ' (by simp) hq hat' hx
  | exit i => exact hne (.exit i) st' a' w' H' μ' (by simp) hq hat' hx
 induction c with
 | seq x r _ ihr =>
  intro p g ps as bd id t ac hcut hd hc H μ st a w Q K h hat hne hK
  have step : ∀ {q}, cutRF r = some q → p = .seq x q.1 → ((g, ps, as, bd), id, t) = q.2 → (Code.seq x r).wp P K a w := by
   intro q hq e1 e2
   obtain ⟨q1, q2⟩ := q
   simp only at e1 e2
   subst e1
   subst e2
   simp only [cCode, Option.bind_eq_bind, Option.bind_eq_some_iff] at hc
   obtain ⟨ax, c1, ap, c2, c3⟩ := hc
   injection c3 with c3
   subst c3
   simp only [dstsZ, Bool.and_eq_true] at hd
   refine wp_seq (piece_sound (ac := ax) (Q := nextA (fun st => acwp (COk P F.B) ap st Q) Q) hT hm (by rw [if_pos hd.1]; exact c1) h hat fun e st' a' w' H' μ' hq' hat' hx => ?_)
   cases e with
   | normal => exact ihr hq hd.2 c2 hq' hat' (fun e st2 a2 w2 H2 μ2 he hq2 hat2 hx2 => hne e st2 a2 w2 H2 μ2 he hq2 hat2 (hx.trans hx2)) (fun st2 a2 w2 H2 μ2 hq2 hat2 hx2 => hK st2 a2 w2 H2 μ2 hq2 hat2 (hx.trans hx2))
   | ret => exact hne .ret st' a' w' H' μ' (by simp) hq' hat' hx
   | exit i => exact hne (.exit i) st' a' w' H' μ' (by simp) hq' hat' hx
  unfold cutRF at hcut
  split at hcut
  ·rename_i heq
   injection heq with h1 h2
   subst h1
   subst h2
   injection hcut with hcut
   injection hcut with k1 k2
   injection k2 with k2 k3
   injection k3 with k3 k4
   injection k2 with k5 k6
   injection k6 with k6 k7
   injection k7 with k7 k8
   subst k1 k3 k4 k5 k6 k7 k8
   exact base hd hc h hat hne hK
  ·rename_i heq
   injection heq with h1 h2
   subst h1
   subst h2
   rw [Option.map_eq_some_iff] at hcut
   obtain ⟨q, hq, e⟩ := hcut
   injection e with e1 e2
   exact step hq e1.symm e2.symm
  ·cases hcut
 | _ => intro p g ps as bd id t ac hcut; simp [cutRF] at hcut
end
end Go.Ax
