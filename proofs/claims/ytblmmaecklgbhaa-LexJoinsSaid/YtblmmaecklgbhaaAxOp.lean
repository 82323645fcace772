/- A part of the proof of a law of this seat: no condition. -/
import Derived.Test.YtblmmaecklgbhaaAxSt2
import Derived.Laws.Sem
set_option linter.unusedVariables false
set_option linter.unusedSimpArgs false
namespace Go.Ax
attribute [local simp] look_cons

/-- A zero cell as it is told. -/
def zc : V → Value → Bool
  | .int k n, .int k' n' => k == k' && n == n'
  | .bool b, .bool b' => b == b'
  | .str [], .string s => s.data.toList.isEmpty
  | .nilp, .pointer none => true
  | .nilfn, .nilFunc => true
  | .own _ [], .slice none 0 0 => true
  | .sl _ _ 0, .slice none 0 0 => true
  | .any, v => cellV v
  | _, _ => false
def zcs : List V → List Value → Bool
  | [], [] => true
  | x :: xs, v :: vs => zc x v && zcs xs vs
  | _, _ => false
theorem zc_rep {H μ x v} (h : zc x v = true) : x.isCell = true ∧ cellV v = true ∧ Rep1 H μ x v := by
  unfold zc at h
  split at h
  · simp at h; obtain ⟨rfl, rfl⟩ := h; exact ⟨rfl, rfl, .data _ _ (.int _ _)⟩
  · simp at h; subst h; exact ⟨rfl, rfl, .data _ _ (.bool _)⟩
  · rename_i s
    simp at h
    refine ⟨rfl, rfl, .data _ _ ?_⟩
    have : s = ⟨([] : List UInt8).toArray⟩ := by
      cases s; simp at h; simp [h]
    rw [this]
    exact .str []
  · exact ⟨rfl, rfl, .data _ _ .nilp⟩
  · exact ⟨rfl, rfl, .data _ _ .nilfn⟩
  · exact ⟨rfl, rfl, .own0 _⟩
  · exact ⟨rfl, rfl, .sl0 _ _⟩
  · exact ⟨rfl, h, .any _⟩
  · simp at h
theorem zcs_rep {H μ} : ∀ {xs vs}, zcs xs vs = true → RepC H μ xs vs
  | [], [], _ => .nil
  | x :: xs, v :: vs, h => by
    simp [zcs] at h
    obtain ⟨h1, h2, h3⟩ := zc_rep (H := H) (μ := μ) h.1
    exact .cons _ _ _ _ h1 h2 h3 (zcs_rep h.2)
  | [], _ :: _, h => by simp [zcs] at h
  | _ :: _, [], h => by simp [zcs] at h
theorem zc_own {x : V} {v : Value} (h : zc x v = true) : x.isOwn = false ∨ ∀ a n c, v ≠ .slice (some a) n c := by
  unfold zc at h
  split at h <;> first | exact absurd h Bool.false_ne_true | (left; rfl) | (right; intro a n c e; cases e)
theorem zcs_own : ∀ {xs vs}, zcs xs vs = true → ∀ (j : Nat) x v, xs[j]? = some x → vs[j]? = some v → x.isOwn = false ∨ ∀ a n c, v ≠ .slice (some a) n c
  | x :: xs, v :: vs, h, 0, _, _, hx, hv => by
    simp [zcs] at h hx hv
    subst hx; subst hv
    exact zc_own h.1
  | x :: xs, v :: vs, h, j + 1, y, u, hx, hv => by
    simp [zcs] at h
    exact zcs_own h.2 j y u (by simpa using hx) (by simpa using hv)
  | [], _, _, j, _, _, hx, _ => by simp at hx
  | _ :: _, [], h, _, _, _, _, _ => by simp [zcs] at h

def aggD : TypeDesc → Bool
  | .struct _ => true
  | .array _ _ => true
  | _ => false
def basicD : Nat → TypeDesc → Bool
  | 1, .bool => true
  | 2, .int _ => true
  | 4, .string => true
  | _, _ => false
/-- How values of a type are compared. -/
def EqOk (P : Program) (t : TypeId) (k : List Nat) : Prop :=
  (k = [1] → P.underlying t = some .bool) ∧ (k = [3] → ∃ e, P.underlying t = some (.pointer e)) ∧
  (∀ ks, k = 10 :: ks → ∃ fs, P.underlying t = some (.struct fs) ∧ fs.size = ks.length ∧ P.stoodInHeld t = false ∧ P.eqGuardType P.depth t = false ∧
    ∀ (i : Nat) (fd : Field) (n : Nat), fs.toList[i]? = some fd → ks[i]? = some n → fd.name ≠ "_" ∧ fd.offset = i ∧ ∃ d, P.underlying fd.type = some d ∧ basicD n d = true)
/-- How a map's keys are compared. -/
def KeyOk (P : Program) (k : Nat) (t : TypeId) : Prop :=
  (k = 2 → ∃ i, P.underlying t = some (.int i)) ∧ (k = 4 → P.underlying t = some .string) ∧
  (k = 100 → ∃ e i j, P.underlying t = some (.array 2 e) ∧ P.underlying e = some (.int i) ∧ P.info? e = some j ∧ j.size = 1) ∧ (k = 2 ∨ k = 4 ∨ k = 100)
structure TIok (P : Program) (t : TypeId) (ti : TI) : Prop where
  info : ∃ i z, P.info? t = some i ∧ i.size = ti.size ∧ i.zero = some z ∧ zcs ti.zero z.cells.toList = true ∧ (ti.isAgg = true → ∃ cs, z = .agg cs) ∧ (ti.isAgg = false → ti.size = 1)
  und : ∃ d, P.underlying t = some d ∧ ti.isAgg = aggD d
  esz : ∀ n b, ti.esz = some (n, b) → ∃ e i z, P.underlying t = some (.slice e) ∧ P.info? e = some i ∧ i.size = n ∧ i.bytes = b ∧ i.zero = some z ∧ z.cells.size = n ∧ 0 < n ∧ 0 < b
  flds : ∀ (f off n : Nat), ti.flds[f]? = some (off, n) → ∃ (fs : Array Field) (fd : Field) (i : TypeInfo), P.underlying t = some (.struct fs) ∧ fs[f]? = some fd ∧ fd.offset = off ∧ P.info? fd.type = some i ∧ i.size = n ∧ n ≠ 0
  all : ∀ fs : Array Field, P.underlying t = some (.struct fs) → ∀ (k : Nat) (fd : Field), fs[k]? = some fd → ∃ i, P.info? fd.type = some i ∧ ti.flds[k]? = some (fd.offset, i.size)
  str : ti.isStr = true → P.underlying t = some .string
  eq : EqOk P t ti.eqk
  ez : ∀ n b, ti.esz = some (n, b) → ti.ez ≠ [] → ∃ e i z, P.underlying t = some (.slice e) ∧ P.info? e = some i ∧ i.zero = some z ∧ zcs ti.ez z.cells.toList = true
  arr : ∀ n k, ti.arr = some (n, k) → ∃ e i, P.underlying t = some (.array n e) ∧ P.info? e = some i ∧ i.size = k
  kv : ∀ k z, ti.kv = some (k, z) → ∃ ke e i zz, P.underlying t = some (.map ke e) ∧ KeyOk P k ke ∧ P.info? e = some i ∧ i.zero = some zz ∧ zc z zz = true ∧ z.pure1 = true
  ik : ∀ k, ti.ik = some k → P.underlying t = some (.int k)
  isB : ti.isB = true → ∃ e, P.underlying t = some (.slice e) ∧ P.underlying e = some (.int .u8)
def TabOk (P : Program) (T : Nat → Option TI) : Prop := ∀ t ti, T t = some ti → TIok P t ti

def after (dst : Option Nat) (tm : Nat → Value) (v : Value) : Nat → Value :=
  match dst with
  | some d => upd tm d v
  | none => tm

/-- What stands where. -/
structure Env (ρ : Operand → Value) (tm : Nat → Value) : Prop where
  tmp : ∀ t, ρ (.tmp t) = tm t
  const : ∀ v, ρ (.const v) = v
  func : ∀ f, ρ (.func f) = .func (.func f) #[] #[]

section
variable {P : Program} {T : Nat → Option TI} {M : Mode} {H H' : Heap} {μ μ' : Oid → Option Nat} {F : Fr} {st st' : St} {tm tm' : Nat → Value} {w w' : World} {ρ : Operand → Value}

theorem rd_bind {α β : Type} (x : Rd α) (f : α → Rd β) (b : β) (h : (x >>= f).run st = some b) : ∃ a, x.run st = some a ∧ (f a).run st = some b := by
  have key : ∀ x : Rd α, (x.bind f).run st = some b → ∃ a, x.run st = some a ∧ (f a).run st = some b := by
    intro x
    induction x with
    | ret a => exact fun h => ⟨a, rfl, h⟩
    | fail => intro h; simp [Rd.bind, Rd.run] at h
    | tm t k ih => exact fun h => ih _ h
    | ob o k ih => exact fun h => ih _ h
  exact key x h
theorem rd_pure {α : Type} {a b : α} (h : (pure a : Rd α).run st = some b) : b = a := by
  simpa [pure, Rd.run] using h.symm
theorem rd_rOpt {α : Type} {x : Option α} {b : α} (h : (rOpt x).run st = some b) : x = some b := by
  cases x <;> simp [rOpt, Rd.run] at h ⊢
  exact h

theorem fresh_run {l : List Oid} (h : (fresh l).run st = some ()) : ∀ o ∈ l, st.ob o = none := by
  induction l with
  | nil => simp
  | cons o r ih =>
    simp only [fresh, Rd.run] at h
    split at h
    · rename_i e
      intro u hu
      rcases List.mem_cons.1 hu with rfl | hu
      · exact e
      · exact ih h u hu
    · simp [Rd.run] at h
theorem ofConst_rep (v : Value) : Rep1 H μ (ofConst v) v := by
  unfold ofConst
  split
  · exact .data _ _ (.int _ _)
  · exact .data _ _ (.bool _)
  · rename_i s
    have := RepD.str (H := H) s.data.toList
    simp at this
    exact .data _ _ this
  · exact .data _ _ .nilp
  · exact .nils
  · exact .data _ _ .nilfn
  · exact .any _

theorem ev_rep (hr : Rel H μ F st tm w) (hρ : Env ρ tm) {x : Operand} {v : V} (h : (ev x).run st = some v) : RepS H μ v (ρ x) := by
  cases x with
  | tmp t =>
    simp [ev, Rd.run] at h
    subst h
    rw [hρ.tmp]
    exact hr.env t
  | const v' =>
    simp [ev, Rd.run] at h
    subst h
    rw [hρ.const]
    exact .two _ _ (.one _ _ (ofConst_rep v'))
  | func f =>
    simp [ev, Rd.run] at h
    subst h
    rw [hρ.func]
    exact .two _ _ (.one _ _ (.data _ _ (.fn f)))
  | global g => simp [ev, Rd.run] at h
theorem ev_own (hρ : Env ρ tm) {x : Operand} {v : V} (h : (ev x).run st = some v) (ho : v.isOwn = true) : ∃ t, x = .tmp t ∧ st.tm t = v := by
  cases x with
  | tmp t => simp [ev, Rd.run] at h; exact ⟨t, rfl, h⟩
  | const v' =>
    simp [ev, Rd.run] at h
    subst h
    unfold ofConst at ho
    split at ho <;> simp [V.isOwn] at ho
  | func f => simp [ev, Rd.run] at h; subst h; simp [V.isOwn] at ho
  | global g => simp [ev, Rd.run] at h

/-- Inversions. -/
theorem RepS.int {k n v} (h : RepS H μ (.int k n) v) : v = .int k n := by
  cases h with | two _ _ h => cases h with | one _ _ h => cases h with | data _ _ h => cases h; rfl
theorem RepS.bool {b v} (h : RepS H μ (.bool b) v) : v = .bool b := by
  cases h with | two _ _ h => cases h with | one _ _ h => cases h with | data _ _ h => cases h; rfl
theorem RepS.str {s v} (h : RepS H μ (.str s) v) : v = .string ⟨s.toArray⟩ := by
  cases h with | two _ _ h => cases h with | one _ _ h => cases h with | data _ _ h => cases h; rfl
theorem RepS.nils {v} (h : RepS H μ .nils v) : v = .slice none 0 0 := by
  cases h with
  | two _ _ h => cases h with | one _ _ h => cases h with
    | nils => rfl
    | data _ _ h => cases h
theorem RepS.ref {o off v} (h : RepS H μ (.ref o off) v) : ∃ b, μ o = some b ∧ v = .pointer (some ⟨b, off, none⟩) := by
  cases h with
  | two _ _ h => cases h with | one _ _ h => cases h with
    | ref _ b _ h => exact ⟨b, h, rfl⟩
    | data _ _ h => cases h
theorem RepS.eptr {cs off v} (h : RepS H μ (.eptr cs off) v) : ∃ vs b o0, v = .pointer (some ⟨b, o0 + off, none⟩) ∧ RepL H cs vs ∧ ∀ j (hj : j < vs.length), H b (o0 + j) = some vs[j] := by
  cases h with
  | two _ _ h => cases h with | one _ _ h => cases h with
    | eptr _ vs b o0 _ h hm => exact ⟨vs, b, o0, rfl, h, hm⟩
    | data _ _ h => cases h
theorem RepS.fn {f v} (h : RepS H μ (.fn f) v) : v = .func (.func f) #[] #[] := by
  cases h with | two _ _ h => cases h with | one _ _ h => cases h with | data _ _ h => cases h; rfl
theorem RepS.sl {sz o n v} (h : RepS H μ (.sl sz o n) v) : (n = 0 ∧ v = .slice none 0 0) ∨ ∃ b c, v = .slice (some ⟨b, 0, none⟩) n c ∧ μ o = some b ∧ n ≤ c ∧ c * sz ≤ H.size b := by
  cases h with
  | two _ _ h => cases h with | one _ _ h => cases h with
    | sl0 => exact .inl ⟨rfl, rfl⟩
    | sl _ _ b _ c h hc hs => exact .inr ⟨b, c, rfl, h, hc, hs⟩
    | data _ _ h => cases h
theorem RepS.mp {o v} (h : RepS H μ (.mp o) v) : ∃ b, μ o = some b ∧ v = .map (some b) := by
  cases h with
  | two _ _ h => cases h with | one _ _ h => cases h with
    | mp _ b h => exact ⟨b, h, rfl⟩
    | data _ _ h => cases h
/-- A slice's elements. -/
theorem RepS.elems {x v sz xs} (h : RepS H μ x v) (he : x.elems = some (sz, xs)) :
    (v = .slice none 0 0 ∧ xs = []) ∨ ∃ b off c, v = .slice (some ⟨b, off, none⟩) xs.length c ∧ xs.length ≤ c ∧ RepRow H sz b off xs := by
  cases x <;> simp [V.elems] at he
  all_goals obtain ⟨rfl, rfl⟩ := he
  · cases h with | two _ _ h => cases h with | one _ _ h => cases h with | data _ _ h => cases h with
      | slice0 => exact .inl ⟨rfl, rfl⟩
      | slice _ _ b off c hr hc => exact .inr ⟨b, off, c, rfl, hc, hr⟩
  · cases h with | two _ _ h => cases h with | one _ _ h => cases h with
      | own0 => exact .inl ⟨rfl, rfl⟩
      | own _ _ b off c hr hc => exact .inr ⟨b, off, c, rfl, hc, hr⟩
      | data _ _ h => cases h

theorem fixT_rep (hT : TabOk P T) {t : Nat} {x : V} {v : Value} (h : RepS H μ x v) : RepS H μ (fixT (T t) x) v := by
  unfold fixT
  split
  · split
    · rw [h.nils]
      exact .two _ _ (.one _ _ (.own0 _))
    · exact h
  · exact h
theorem fixT_rep' {ti : Option TI} {x : V} {v : Value} (h : RepS H μ x v) : RepS H μ (fixT ti x) v := by
  unfold fixT
  split
  · split
    · rw [h.nils]
      exact .two _ _ (.one _ _ (.own0 _))
    · exact h
  · exact h
theorem weak_not_own (x : V) : x.weak.isOwn = false := by cases x <;> rfl

theorem live_give {x : Operand} {v : V} : live (st.app (giveUp x v)) μ = live st μ := by
  unfold giveUp
  split
  · split <;> rfl
  · rfl
/-- The state behind 'giveUp': the row is free. -/
theorem giveUp_rel (hr : Rel H μ F st tm w) (hρ : Env ρ tm) {x : Operand} {v : V} {u : Value} {ti : Option TI} (he : (ev x).run st = some v) (hu : ρ x = u) :
    Rel H μ F (st.app (giveUp x (fixT ti v))) tm w ∧
      ∀ sz xs b off n c, fixT ti v = .own sz xs → u = .slice (some ⟨b, off, none⟩) n c → OwnAt H (live (st.app (giveUp x (fixT ti v))) μ) F w b (off + n * sz) (off + c * sz) ∧ ∀ ℓ, ¬ Holds μ (st.app (giveUp x (fixT ti v))) tm w ℓ b := by
  rw [live_give]
  by_cases ho : v.isOwn = true
  · obtain ⟨t, rfl, ht⟩ := ev_own hρ he ho
    have hv : fixT ti v = v := by cases v <;> simp_all [fixT, V.isOwn]
    rw [hv]
    simp only [giveUp, ho, if_true, St.app]
    obtain ⟨h1, h2⟩ := hr.weakT t
    rw [ht] at h1 h2
    rw [hρ.tmp] at hu
    refine ⟨h1, fun sz xs b off n c e1 e2 => ?_⟩
    have hl : atL μ st tm w (.t t) (.own sz xs) (.slice (some ⟨b, off, none⟩) n c) := ⟨ht.trans e1, hu.trans e2⟩
    exact ⟨hr.own _ _ _ _ _ _ _ hl, h2 b ⟨_, _, _, _, _, hl⟩⟩
  · have hrep := ev_rep hr hρ he
    rw [hu] at hrep
    have hnil : ∀ sz xs, fixT ti v = .own sz xs → u = .slice none 0 0 := by
      intro sz xs e
      have : v = .nils := by cases v <;> simp_all [fixT, V.isOwn]
      subst this
      exact hrep.nils
    refine ⟨?_, fun sz xs b off n c e1 e2 => ?_⟩
    · unfold giveUp
      split
      · rename_i t
        split
        · rename_i ho'
          -- the nil slice, typed: a write that changes nothing that counts
          have hvn : v = .nils := by cases v <;> simp_all [fixT, V.isOwn]
          subst hvn
          have hu0 : u = .slice none 0 0 := hrep.nils
          rw [hρ.tmp] at hu
          have := hr.put (t := t) (x := (fixT ti .nils).weak) (v := tm t) (by rw [hu]; exact (fixT_rep' hrep).weak)
            (fun sz xs b off n c e => by have := weak_not_own (fixT ti .nils); rw [e] at this; simp [V.isOwn] at this)
          have hup : upd tm t (tm t) = tm := by
            funext a
            by_cases e : a = t
            · subst e; simp [upd]
            · simp [upd, e]
          rw [hup] at this
          simpa [St.app] using this
        · exact hr
      · exact hr
    · rw [hnil sz xs e1] at e2
      simp at e2

/-- A value's way into its place, its row too, if it gave that up. -/
theorem out_rel (hr : Rel H μ F st tm w) {dst : Option Nat} {x : V} {v : Value} (hx : RepS H μ x v)
    (hown : ∀ sz xs b off n c, x = .own sz xs → v = .slice (some ⟨b, off, none⟩) n c → OwnAt H (live st μ) F w b (off + n * sz) (off + c * sz) ∧ ∀ ℓ, ¬ Holds μ st tm w ℓ b) :
    Rel H μ F (st.app (out dst x)) (after dst tm v) w := by
  cases dst with
  | none => exact hr
  | some d =>
    simp only [out, St.app, after]
    by_cases h : ∃ sz xs b off n c, x = .own sz xs ∧ v = .slice (some ⟨b, off, none⟩) n c
    · obtain ⟨sz, xs, b, off, n, c, rfl, rfl⟩ := h
      obtain ⟨h1, h2⟩ := hown _ _ _ _ _ _ rfl rfl
      cases hx with | two _ _ hx => cases hx with | one _ _ hx => cases hx with
        | own _ _ _ _ _ h3 h4 => exact hr.putOwn (.own _ _ _ _ _ h3 h4) h1 h2
        | data _ _ h => cases h
    · exact hr.put hx (fun sz xs b off n c e1 e2 => h ⟨sz, xs, b, off, n, c, e1, e2⟩)
theorem out_rel' (hr : Rel H μ F st tm w) {dst : Option Nat} {x : V} {v : Value} (hx : RepS H μ x v) (hno : x.isOwn = false) :
    Rel H μ F (st.app (out dst x)) (after dst tm v) w :=
  out_rel hr hx (fun sz xs _ _ _ _ e _ => by subst e; simp [V.isOwn] at hno)
theorem St.app_append (st : St) (a b : List Wr) : st.app (a ++ b) = (st.app a).app b := by
  induction a generalizing st with
  | nil => rfl
  | cons x a ih => cases x <;> simp [St.app, ih]

/-- What an operation must come to. -/
def Good (P : Program) (H : Heap) (μ : Oid → Option Nat) (F : Fr) (tm : Nat → Value) (w : World) (dst : Option Nat) (st' : St) (s : Sem Next) : Prop :=
  ∃ H' μ' w' u v, s.run P w = .ok u w' ∧ (u = .value v ∨ u = .skip ∧ v = undef) ∧ Rel H' μ' F st' (after dst tm v) w' ∧ Ext F H w H' w'
/-- The world is as it was. -/
theorem good_same {dst : Option Nat} {s : Sem Next} {v : Value} (hs : s.run P w = .ok (.value v) w) (hr : Rel H μ F st' (after dst tm v) w) : Good P H μ F tm w dst st' s :=
  ⟨H, μ, w, _, v, hs, .inl rfl, hr, Ext.refl _ _ _⟩

theorem good_move (hT : TabOk P T) (hr : Rel H μ F st tm w) (hρ : Env ρ tm) {o : Oper} {x : Operand} (ho : o.op = .move x) {l : List Wr}
    (h : (opS T M o).run st = some (.ws l)) : Good P H μ F tm w o.dst (st.app l) (execOp ρ o) := by
  unfold opS at h
  rw [ho] at h
  obtain ⟨v, hv, h⟩ := rd_bind _ _ _ h
  have hrep := ev_rep hr hρ hv
  have hs : (execOp ρ o).run P w = .ok (.value (ρ x)) w := by simp [execOp, ho]
  refine good_same hs ?_
  dsimp only at h
  split at h
  · have := rd_pure h
    injection this with this
    subst this
    rw [St.app_append]
    obtain ⟨h1, h2⟩ := giveUp_rel (ti := T o.type) hr hρ hv rfl
    exact out_rel h1 (fixT_rep' hrep) h2
  · have := rd_pure h
    injection this with this
    subst this
    exact out_rel' hr (fixT_rep' hrep).weak (weak_not_own _)
theorem good_assign (hT : TabOk P T) (hr : Rel H μ F st tm w) (hρ : Env ρ tm) {o : Oper} {x : Operand} (ho : o.op = .assign x) {l : List Wr}
    (h : (opS T M o).run st = some (.ws l)) : Good P H μ F tm w o.dst (st.app l) (execOp ρ o) := by
  unfold opS at h
  rw [ho] at h
  obtain ⟨v, hv, h⟩ := rd_bind _ _ _ h
  have hrep := ev_rep hr hρ hv
  have hs : (execOp ρ o).run P w = .ok (.value (ρ x)) w := by simp [execOp, ho]
  refine good_same hs ?_
  have := rd_pure h
  injection this with this
  subst this
  rw [St.app_append]
  obtain ⟨h1, h2⟩ := giveUp_rel (ti := T o.type) hr hρ hv rfl
  exact out_rel h1 (fixT_rep' hrep) h2
theorem good_pick (hr : Rel H μ F st tm w) (hρ : Env ρ tm) {o : Oper} {c a b : Operand} (ho : o.op = .pick c a b) {l : List Wr}
    (h : (opS T M o).run st = some (.ws l)) : Good P H μ F tm w o.dst (st.app l) (execOp ρ o) := by
  unfold opS at h
  rw [ho] at h
  obtain ⟨vc, hc, h⟩ := rd_bind _ _ _ h
  have hrc := ev_rep hr hρ hc
  split at h
  · rename_i cb
    obtain ⟨va, ha, h⟩ := rd_bind _ _ _ h
    obtain ⟨vb, hb, h⟩ := rd_bind _ _ _ h
    have := rd_pure h
    injection this with this
    subst this
    have hcb := hrc.bool
    have hs : (execOp ρ o).run P w = .ok (.value (if cb then ρ a else ρ b)) w := by simp [execOp, ho, hcb, asBool]
    refine good_same hs ?_
    cases cb
    · exact out_rel' hr (ev_rep hr hρ hb).weak (weak_not_own _)
    · exact out_rel' hr (ev_rep hr hρ ha).weak (weak_not_own _)
  · simp [Rd.run] at h
end
end Go.Ax
