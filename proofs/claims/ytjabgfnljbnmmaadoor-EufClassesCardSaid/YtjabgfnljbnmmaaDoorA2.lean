/- A part of the proof of a law of this seat: no condition. -/
import Derived.Test.YtjabgfnljbnmmaaDoorA1
import Derived.Laws.Sem
import Derived.Laws.Strings
import Derived.Laws.StructEq
import Derived.Lib.SliceRun
set_option linter.unusedVariables false
set_option linter.unusedSimpArgs false
namespace Go.Ax
attribute [local simp] look_cons

/-- A zero cell as it is told. -/
def zc : V → Value → Bool
 | .int k n, .int k' n' => k == k' && n == n'
 | .bool b, .bool b' => b == b'
 | .str [], .string s => s.data.toList.isEmpty
 | .nilp, .pointer none => true
 | .nilfn, .nilFunc => true
 | .own _ [], .slice none 0 0 => true
 | .sl _ _ 0, .slice none 0 0 => true
 | .any, v => cellV v
 | _, _ => false
def zcs : List V → List Value → Bool
 | [], [] => true
 | x :: xs, v :: vs => zc x v && zcs xs vs
 | _, _ => false
theorem zc_rep {H μ x v} (h : zc x v = true) : x.isCell = true ∧ cellV v = true ∧ Rep1 H μ x v := by
 unfold zc at h
 split at h
 ·simp at h; obtain ⟨rfl, rfl⟩ := h; exact ⟨rfl, rfl, .data _ _ (.int _ _)⟩
 ·simp at h; subst h; exact ⟨rfl, rfl, .data _ _ (.bool _)⟩
 ·rename_i s
  simp at h
  refine ⟨rfl, rfl, .data _ _ ?_⟩
  have : s = ⟨([] : List UInt8).toArray⟩ := by
   cases s; simp at h; simp [h]
  rw [this]
  exact .str []
 ·exact ⟨rfl, rfl, .data _ _ .nilp⟩
 ·exact ⟨rfl, rfl, .data _ _ .nilfn⟩
 ·exact ⟨rfl, rfl, .own0 _⟩
 ·exact ⟨rfl, rfl, .sl0 _ _⟩
 ·exact ⟨rfl, h, .any _⟩
 ·simp at h
theorem zcs_rep {H μ} : ∀ {xs vs}, zcs xs vs = true → RepC H μ xs vs
 | [], [], _ => .nil
 | x :: xs, v :: vs, h => by
  simp [zcs] at h
  obtain ⟨h1, h2, h3⟩ := zc_rep (H := H) (μ := μ) h.1
  exact .cons _ _ _ _ h1 h2 h3 (zcs_rep h.2)
 | [], _ :: _, h => by simp [zcs] at h
 | _ :: _, [], h => by simp [zcs] at h
theorem zcs_repN {H μ} : ∀ {xs vs}, zcs xs vs = true → RepC H μ (xs.map V.nz) vs
 | [], [], _ => .nil
 | x :: xs, v :: vs, h => by
  simp [zcs] at h
  obtain ⟨h1, h2, h3⟩ := zc_rep (H := H) (μ := μ) h.1
  have hz : (V.nz x).isCell = true ∧ Rep1 H μ (V.nz x) v := by
   cases x with
   | own k l =>
    cases l with
    | nil =>
     have hv : v = .slice none 0 0 := by
      have := h.1
      unfold zc at this
      split at this <;> first | rfl | (rename_i e; cases e) | simp at this | (rename_i e _ ; cases e) | skip
     rw [hv]; exact ⟨rfl, .nils⟩
    | cons y l => exact ⟨h1, h3⟩
   | _ => exact ⟨h1, h3⟩
  exact .cons _ _ _ _ hz.1 h2 hz.2 (zcs_repN h.2)
 | [], _ :: _, h => by simp [zcs] at h
 | _ :: _, [], h => by simp [zcs] at h
theorem zcs_rep0 {H μ} {ti : TI} {vs : List Value} (h : zcs ti.zero vs = true) : RepC H μ (z0 ti) vs := by
 unfold z0
 cases ti.keep with
 | true => exact zcs_repN h
 | false => exact zcs_rep h
theorem zc_own {x : V} {v : Value} (h : zc x v = true) : x.isOwn = false ∨ ∀ a n c, v ≠ .slice (some a) n c := by
 unfold zc at h
 split at h <;> first | exact absurd h Bool.false_ne_true | (left; rfl) | (right; intro a n c e; cases e)
theorem zcs_own : ∀ {xs vs}, zcs xs vs = true → ∀ (j : Nat) x v, xs[j]? = some x → vs[j]? = some v → x.isOwn = false ∨ ∀ a n c, v ≠ .slice (some a) n c
 | x :: xs, v :: vs, h, 0, _, _, hx, hv => by
  simp [zcs] at h hx hv
  subst hx; subst hv
  exact zc_own h.1
 | x :: xs, v :: vs, h, j + 1, y, u, hx, hv => by
  simp [zcs] at h
  exact zcs_own h.2 j y u (by simpa using hx) (by simpa using hv)
 | [], _, _, j, _, _, hx, _ => by simp at hx
 | _ :: _, [], h, _, _, _, _, _ => by simp [zcs] at h

def aggD : TypeDesc → Bool
 | .struct _ => true
 | .array _ _ => true
 | _ => false
def basicD : Nat → TypeDesc → Bool
 | 1, .bool => true
 | 2, .int _ => true
 | 4, .string => true
 | _, _ => false
/-- How values of a type are compared. -/
def EqOk (P : Program) (t : TypeId) (k : List Nat) : Prop :=
 (k = [1] → P.underlying t = some .bool) ∧ (k = [3] → ∃ e, P.underlying t = some (.pointer e)) ∧ (k = [5] → ∃ e, P.underlying t = some (.slice e)) ∧
 (∀ ks, k = 10 :: ks → ∃ fs, P.underlying t = some (.struct fs) ∧ fs.size = ks.length ∧ P.stoodInHeld t = false ∧ P.eqGuardType P.depth t = false ∧
  ∀ (i : Nat) (fd : Field) (n : Nat), fs.toList[i]? = some fd → ks[i]? = some n → fd.name ≠ "_" ∧ fd.offset = i ∧ ∃ d, P.underlying fd.type = some d ∧ basicD n d = true)
/-- How a map's keys are compared. -/
def KeyOk (P : Program) (k : Nat) (t : TypeId) : Prop :=
 (k = 2 → ∃ i, P.underlying t = some (.int i)) ∧ (k = 4 → P.underlying t = some .string) ∧
 (k = 100 → ∃ e i j, P.underlying t = some (.array 2 e) ∧ P.underlying e = some (.int i) ∧ P.info? e = some j ∧ j.size = 1) ∧ (k = 2 ∨ k = 4 ∨ k = 100)
structure TIok (P : Program) (t : TypeId) (ti : TI) : Prop where
 info : ∃ i z, P.info? t = some i ∧ i.size = ti.size ∧ i.zero = some z ∧ zcs ti.zero z.cells.toList = true ∧ (ti.isAgg = true → ∃ cs, z = .agg cs) ∧ (ti.isAgg = false → ti.size = 1)
 und : ∃ d, P.underlying t = some d ∧ ti.isAgg = aggD d
 esz : ∀ n b, ti.esz = some (n, b) → ∃ e i z, P.underlying t = some (.slice e) ∧ P.info? e = some i ∧ i.size = n ∧ i.bytes = b ∧ i.zero = some z ∧ z.cells.size = n ∧ 0 < n ∧ 0 < b
 flds : ∀ (f off n : Nat), ti.flds[f]? = some (off, n) → ∃ (fs : Array Field) (fd : Field) (i : TypeInfo), P.underlying t = some (.struct fs) ∧ fs[f]? = some fd ∧ fd.offset = off ∧ P.info? fd.type = some i ∧ i.size = n ∧ n ≠ 0
 all : ∀ fs : Array Field, P.underlying t = some (.struct fs) → ∀ (k : Nat) (fd : Field), fs[k]? = some fd → ∃ i, P.info? fd.type = some i ∧ ti.flds[k]? = some (fd.offset, i.size)
 str : ti.isStr = true → P.underlying t = some .string
 eq : EqOk P t ti.eqk
 ez : ∀ n b, ti.esz = some (n, b) → ti.ez ≠ [] → ∃ e i z, P.underlying t = some (.slice e) ∧ P.info? e = some i ∧ i.zero = some z ∧ zcs ti.ez z.cells.toList = true
 arr : ∀ n k, ti.arr = some (n, k) → ∃ e i, P.underlying t = some (.array n e) ∧ P.info? e = some i ∧ i.size = k
 kv : ∀ k z, ti.kv = some (k, z) → ∃ ke e i zz, P.underlying t = some (.map ke e) ∧ KeyOk P k ke ∧ P.info? e = some i ∧ i.zero = some zz ∧ zc z zz = true ∧ z.pure1 = true
 ik : ∀ k, ti.ik = some k → P.underlying t = some (.int k)
 isB : ti.isB = true → ∃ e, P.underlying t = some (.slice e) ∧ P.underlying e = some (.int .u8)
def TabOk (P : Program) (T : Nat → Option TI) : Prop := ∀ t ti, T t = some ti → TIok P t ti

def after (dst : Option Nat) (tm : Nat → Value) (v : Value) : Nat → Value :=
 match dst with
 | some d => upd tm d v
 | none => tm

/-- What stands where. -/
structure Env (ρ : Operand → Value) (tm : Nat → Value) : Prop where
 tmp : ∀ t, ρ (.tmp t) = tm t
 const : ∀ v, ρ (.const v) = v
 func : ∀ f, ρ (.func f) = .func (.func f) #[] #[]

section
variable {P : Program} {T : Nat → Option TI} {M : Mode} {H H' : Heap} {μ μ' : Oid → Option Nat} {F : Fr} {st st' : St} {tm tm' : Nat → Value} {w w' : World} {ρ : Operand → Value}

theorem rd_bind {α β : Type} (x : Rd α) (f : α → Rd β) (b : β) (h : (x >>= f).run st = some b) : ∃ a, x.run st = some a ∧ (f a).run st = some b := by
 have key : ∀ x : Rd α, (x.bind f).run st = some b → ∃ a, x.run st = some a ∧ (f a).run st = some b := by
  intro x
  induction x with
  | ret a => exact fun h => ⟨a, rfl, h⟩
  | fail => intro h; simp [Rd.bind, Rd.run] at h
  | tm t k ih => exact fun h => ih _ h
  | ob o k ih => exact fun h => ih _ h
 exact key x h
theorem rd_pure {α : Type} {a b : α} (h : (pure a : Rd α).run st = some b) : b = a := by
 simpa [pure, Rd.run] using h.symm
theorem rd_rOpt {α : Type} {x : Option α} {b : α} (h : (rOpt x).run st = some b) : x = some b := by
 cases x <;> simp [rOpt, Rd.run] at h ⊢
 exact h

theorem fresh_run {l : List Oid} (h : (fresh l).run st = some ()) : ∀ o ∈ l, st.ob o = none := by
 induction l with
 | nil => simp
 | cons o r ih =>
  simp only [fresh, Rd.run] at h
  split at h
  ·rename_i e
   intro u hu
   rcases List.mem_cons.1 hu with rfl | hu
   ·exact e
   ·exact ih h u hu
  ·simp [Rd.run] at h
theorem ofConst_rep (v : Value) : Rep1 H μ (ofConst v) v := by
 unfold ofConst
 split
 ·exact .data _ _ (.int _ _)
 ·exact .data _ _ (.bool _)
 ·rename_i s
  have := RepD.str (H := H) s.data.toList
  simp at this
  exact .data _ _ this
 ·exact .data _ _ .nilp
 ·exact .nils
 ·exact .data _ _ .nilfn
 ·exact .any _

theorem ev_rep (hr : Rel H μ F st tm w) (hρ : Env ρ tm) {x : Operand} {v : V} (h : (ev x).run st = some v) : RepS H μ v (ρ x) := by
 cases x with
 | tmp t =>
  simp [ev, Rd.run] at h
  subst h
  rw [hρ.tmp]
  exact hr.env t
 | const v' =>
  simp [ev, Rd.run] at h
  subst h
  rw [hρ.const]
  exact .two _ _ (.one _ _ (ofConst_rep v'))
 | func f =>
  simp [ev, Rd.run] at h
  subst h
  rw [hρ.func]
  exact .two _ _ (.one _ _ (.data _ _ (.fn f)))
 | global g => simp [ev, Rd.run] at h
theorem ev_own (hρ : Env ρ tm) {x : Operand} {v : V} (h : (ev x).run st = some v) (ho : v.isOwn = true) : ∃ t, x = .tmp t ∧ st.tm t = v := by
 cases x with
 | tmp t => simp [ev, Rd.run] at h; exact ⟨t, rfl, h⟩
 | const v' =>
  simp [ev, Rd.run] at h
  subst h
  unfold ofConst at ho
  split at ho <;> simp [V.isOwn] at ho
 | func f => simp [ev, Rd.run] at h; subst h; simp [V.isOwn] at ho
 | global g => simp [ev, Rd.run] at h

/-- Inversions. -/
theorem RepS.int {k n v} (h : RepS H μ (.int k n) v) : v = .int k n := by
 cases h with | two _ _ h => cases h with | one _ _ h => cases h with | data _ _ h => cases h; rfl
theorem RepS.bool {b v} (h : RepS H μ (.bool b) v) : v = .bool b := by
 cases h with | two _ _ h => cases h with | one _ _ h => cases h with | data _ _ h => cases h; rfl
theorem RepS.str {s v} (h : RepS H μ (.str s) v) : v = .string ⟨s.toArray⟩ := by
 cases h with | two _ _ h => cases h with | one _ _ h => cases h with | data _ _ h => cases h; rfl
theorem RepS.nils {v} (h : RepS H μ .nils v) : v = .slice none 0 0 := by
 cases h with
 | two _ _ h => cases h with | one _ _ h => cases h with
  | nils => rfl
  | data _ _ h => cases h
theorem RepS.ref {o off v} (h : RepS H μ (.ref o off) v) : ∃ b, μ o = some b ∧ v = .pointer (some ⟨b, off, none⟩) := by
 cases h with
 | two _ _ h => cases h with | one _ _ h => cases h with
  | ref _ b _ h => exact ⟨b, h, rfl⟩
  | data _ _ h => cases h
theorem RepS.eptr {cs off v} (h : RepS H μ (.eptr cs off) v) : ∃ vs b o0, v = .pointer (some ⟨b, o0 + off, none⟩) ∧ RepL H cs vs ∧ ∀ j (hj : j < vs.length), H b (o0 + j) = some vs[j] := by
 cases h with
 | two _ _ h => cases h with | one _ _ h => cases h with
  | eptr _ vs b o0 _ h hm => exact ⟨vs, b, o0, rfl, h, hm⟩
  | data _ _ h => cases h
theorem RepS.fn {f v} (h : RepS H μ (.fn f) v) : v = .func (.func f) #[] #[] := by
 cases h with | two _ _ h => cases h with | one _ _ h => cases h with | data _ _ h => cases h; rfl
theorem RepS.sl {sz o n v} (h : RepS H μ (.sl sz o n) v) : (n = 0 ∧ v = .slice none 0 0) ∨ ∃ b c, v = .slice (some ⟨b, 0, none⟩) n c ∧ μ o = some b ∧ n ≤ c ∧ c * sz ≤ H.size b := by
 cases h with
 | two _ _ h => cases h with | one _ _ h => cases h with
  | sl0 => exact .inl ⟨rfl, rfl⟩
  | sl _ _ b _ c h hc hs => exact .inr ⟨b, c, rfl, h, hc, hs⟩
  | data _ _ h => cases h
theorem RepS.mp {o v} (h : RepS H μ (.mp o) v) : ∃ b, μ o = some b ∧ v = .map (some b) := by
 cases h with
 | two _ _ h => cases h with | one _ _ h => cases h with
  | mp _ b h => exact ⟨b, h, rfl⟩
  | data _ _ h => cases h
/-- A slice's elements. -/
theorem RepS.elems {x v sz xs} (h : RepS H μ x v) (he : x.elems = some (sz, xs)) :
  (v = .slice none 0 0 ∧ xs = []) ∨ (∃ a, x = .slice sz [] ∧ v = .slice (some a) 0 0 ∧ xs = []) ∨ ∃ b off c, v = .slice (some ⟨b, off, none⟩) xs.length c ∧ xs.length ≤ c ∧ RepRow H sz b off xs := by
 cases x <;> simp [V.elems] at he
 all_goals obtain ⟨rfl, rfl⟩ := he
 ·cases h with | two _ _ h => cases h with | one _ _ h => cases h with | data _ _ h => cases h with
   | slice0 => exact .inl ⟨rfl, rfl⟩
   | slice1 _ a => exact .inr (.inl ⟨a, rfl, rfl, rfl⟩)
   | slice _ _ b off c hr hc => exact .inr (.inr ⟨b, off, c, rfl, hc, hr⟩)
 ·cases h with | two _ _ h => cases h with | one _ _ h => cases h with
   | own0 => exact .inl ⟨rfl, rfl⟩
   | own _ _ b off c hr hc => exact .inr (.inr ⟨b, off, c, rfl, hc, hr⟩)
   | data _ _ h => cases h

theorem fixT_rep' {ti : Option TI} {x : V} {v : Value} (h : RepS H μ x v) : RepS H μ (fixT ti x) v := by
 unfold fixT
 split
 ·split
  ·rw [h.nils]
   exact .two _ _ (.one _ _ (.own0 _))
  ·exact h
 ·exact h
theorem weak_not_own (x : V) : x.weak.isOwn = false := by cases x <;> rfl

theorem live_give {x : Operand} {v : V} : live (st.app (giveUp x v)) μ = live st μ := by
 unfold giveUp
 split
 ·split <;> rfl
 ·rfl
/-- The state behind 'giveUp': the row is free. -/
theorem giveUp_rel (hr : Rel H μ F st tm w) (hρ : Env ρ tm) {x : Operand} {v : V} {u : Value} {ti : Option TI} (he : (ev x).run st = some v) (hu : ρ x = u) :
  Rel H μ F (st.app (giveUp x (fixT ti v))) tm w ∧
   ∀ sz xs b off n c, fixT ti v = .own sz xs → u = .slice (some ⟨b, off, none⟩) n c → OwnAt H (live (st.app (giveUp x (fixT ti v))) μ) F w b (off + n * sz) (off + c * sz) ∧ ∀ ℓ, ¬ Holds μ (st.app (giveUp x (fixT ti v))) tm w ℓ b := by
 rw [live_give]
 by_cases ho : v.isOwn = true
 ·obtain ⟨t, rfl, ht⟩ := ev_own hρ he ho
  have hv : fixT ti v = v := by cases v <;> simp_all [fixT, V.isOwn]
  rw [hv]
  simp only [giveUp, ho, if_true, St.app]
  obtain ⟨h1, h2⟩ := hr.weakT t
  rw [ht] at h1 h2
  rw [hρ.tmp] at hu
  refine ⟨h1, fun sz xs b off n c e1 e2 => ?_⟩
  have hl : atL μ st tm w (.t t) (.own sz xs) (.slice (some ⟨b, off, none⟩) n c) := ⟨ht.trans e1, hu.trans e2⟩
  exact ⟨hr.own _ _ _ _ _ _ _ hl, h2 b ⟨_, _, _, _, _, hl⟩⟩
 ·have hrep := ev_rep hr hρ he
  rw [hu] at hrep
  have hnil : ∀ sz xs, fixT ti v = .own sz xs → u = .slice none 0 0 := by
   intro sz xs e
   have : v = .nils := by cases v <;> simp_all [fixT, V.isOwn]
   subst this
   exact hrep.nils
  refine ⟨?_, fun sz xs b off n c e1 e2 => ?_⟩
  ·unfold giveUp
   split
   ·rename_i t
    split
    ·rename_i ho'
     -- the nil slice, typed: a write that changes nothing that counts
     have hvn : v = .nils := by cases v <;> simp_all [fixT, V.isOwn]
     subst hvn
     have hu0 : u = .slice none 0 0 := hrep.nils
     rw [hρ.tmp] at hu
     have := hr.put (t := t) (x := (fixT ti .nils).weak) (v := tm t) (by rw [hu]; exact (fixT_rep' hrep).weak)
      (fun sz xs b off n c e => by have := weak_not_own (fixT ti .nils); rw [e] at this; simp [V.isOwn] at this)
     have hup : upd tm t (tm t) = tm := by
      funext a
      by_cases e : a = t
      ·subst e; simp [upd]
      ·simp [upd, e]
     rw [hup] at this
     simpa [St.app] using this
    ·exact hr
   ·exact hr
  ·rw [hnil sz xs e1] at e2
   simp at e2

/-- A value's way into its place, its row too, if it gave that up. -/
theorem out_rel (hr : Rel H μ F st tm w) {dst : Option Nat} {x : V} {v : Value} (hx : RepS H μ x v)
  (hown : ∀ sz xs b off n c, x = .own sz xs → v = .slice (some ⟨b, off, none⟩) n c → OwnAt H (live st μ) F w b (off + n * sz) (off + c * sz) ∧ ∀ ℓ, ¬ Holds μ st tm w ℓ b) :
  Rel H μ F (st.app (out dst x)) (after dst tm v) w := by
 cases dst with
 | none => exact hr
 | some d =>
  simp only [out, St.app, after]
  by_cases h : ∃ sz xs b off n c, x = .own sz xs ∧ v = .slice (some ⟨b, off, none⟩) n c
  ·obtain ⟨sz, xs, b, off, n, c, rfl, rfl⟩ := h
   obtain ⟨h1, h2⟩ := hown _ _ _ _ _ _ rfl rfl
   cases hx with | two _ _ hx => cases hx with | one _ _ hx => cases hx with
    | own _ _ _ _ _ h3 h4 => exact hr.putOwn (.own _ _ _ _ _ h3 h4) h1 h2
    | data _ _ h => cases h
  ·exact hr.put hx (fun sz xs b off n c e1 e2 => h ⟨sz, xs, b, off, n, c, e1, e2⟩)
theorem out_rel' (hr : Rel H μ F st tm w) {dst : Option Nat} {x : V} {v : Value} (hx : RepS H μ x v) (hno : x.isOwn = false) :
  Rel H μ F (st.app (out dst x)) (after dst tm v) w :=
 out_rel hr hx (fun sz xs _ _ _ _ e _ => by subst e; simp [V.isOwn] at hno)
theorem St.app_append (st : St) (a b : List Wr) : st.app (a ++ b) = (st.app a).app b := by
 induction a generalizing st with
 | nil => rfl
 | cons x a ih => cases x <;> simp [St.app, ih]

/-- What an operation must come to. -/
def Good (P : Program) (H : Heap) (μ : Oid → Option Nat) (F : Fr) (tm : Nat → Value) (w : World) (dst : Option Nat) (st' : St) (s : Sem Next) : Prop :=
 ∃ H' μ' w' u v, s.run P w = .ok u w' ∧ (u = .value v ∨ u = .skip ∧ v = undef) ∧ Rel H' μ' F st' (after dst tm v) w' ∧ Ext F H w H' w'
/-- The world is as it was. -/
theorem good_same {dst : Option Nat} {s : Sem Next} {v : Value} (hs : s.run P w = .ok (.value v) w) (hr : Rel H μ F st' (after dst tm v) w) : Good P H μ F tm w dst st' s :=
 ⟨H, μ, w, _, v, hs, .inl rfl, hr, Ext.refl _ _ _⟩

theorem good_move (hT : TabOk P T) (hr : Rel H μ F st tm w) (hρ : Env ρ tm) {o : Oper} {x : Operand} (ho : o.op = .move x) {l : List Wr}
  (h : (opS T M o).run st = some (.ws l)) : Good P H μ F tm w o.dst (st.app l) (execOp ρ o) := by
 unfold opS at h
 rw [ho] at h
 obtain ⟨v, hv, h⟩ := rd_bind _ _ _ h
 have hrep := ev_rep hr hρ hv
 have hs : (execOp ρ o).run P w = .ok (.value (ρ x)) w := by simp [execOp, ho]
 refine good_same hs ?_
 dsimp only at h
 split at h
 ·have := rd_pure h
  injection this with this
  subst this
  rw [St.app_append]
  obtain ⟨h1, h2⟩ := giveUp_rel (ti := T o.type) hr hρ hv rfl
  exact out_rel h1 (fixT_rep' hrep) h2
 ·have := rd_pure h
  injection this with this
  subst this
  exact out_rel' hr (fixT_rep' hrep).weak (weak_not_own _)
theorem good_assign (hT : TabOk P T) (hr : Rel H μ F st tm w) (hρ : Env ρ tm) {o : Oper} {x : Operand} (ho : o.op = .assign x) {l : List Wr}
  (h : (opS T M o).run st = some (.ws l)) : Good P H μ F tm w o.dst (st.app l) (execOp ρ o) := by
 unfold opS at h
 rw [ho] at h
 obtain ⟨v, hv, h⟩ := rd_bind _ _ _ h
 have hrep := ev_rep hr hρ hv
 have hs : (execOp ρ o).run P w = .ok (.value (ρ x)) w := by simp [execOp, ho]
 refine good_same hs ?_
 have := rd_pure h
 injection this with this
 subst this
 rw [St.app_append]
 obtain ⟨h1, h2⟩ := giveUp_rel (ti := T o.type) hr hρ hv rfl
 exact out_rel h1 (fixT_rep' hrep) h2
theorem good_pick (hr : Rel H μ F st tm w) (hρ : Env ρ tm) {o : Oper} {c a b : Operand} (ho : o.op = .pick c a b) {l : List Wr}
  (h : (opS T M o).run st = some (.ws l)) : Good P H μ F tm w o.dst (st.app l) (execOp ρ o) := by
 unfold opS at h
 rw [ho] at h
 obtain ⟨vc, hc, h⟩ := rd_bind _ _ _ h
 have hrc := ev_rep hr hρ hc
 split at h
 ·rename_i cb
  obtain ⟨va, ha, h⟩ := rd_bind _ _ _ h
  obtain ⟨vb, hb, h⟩ := rd_bind _ _ _ h
  have := rd_pure h
  injection this with this
  subst this
  have hcb := hrc.bool
  have hs : (execOp ρ o).run P w = .ok (.value (if cb then ρ a else ρ b)) w := by simp [execOp, ho, hcb, asBool]
  refine good_same hs ?_
  cases cb
  ·exact out_rel' hr (ev_rep hr hρ hb).weak (weak_not_own _)
  ·exact out_rel' hr (ev_rep hr hρ ha).weak (weak_not_own _)
 ·simp [Rd.run] at h
end
end Go.Ax
set_option linter.unusedVariables false
set_option linter.unusedSimpArgs false
namespace Go.Ax
attribute [local simp] look_cons
section
variable {P : Program} {T : Nat → Option TI} {M : Mode} {H H' : Heap} {μ μ' : Oid → Option Nat} {F : Fr} {st st' : St} {tm tm' : Nat → Value} {w w' : World} {ρ : Operand → Value}

theorem runUnder {t : TypeId} {d : TypeDesc} (h : P.underlying t = some d) (w : World) : (underlying t).run P w = .ok d w := by simp [underlying, h]
theorem runInfo {t : TypeId} {i : TypeInfo} (h : P.info? t = some i) (w : World) : (typeInfo t).run P w = .ok i w := by simp [typeInfo, h]
theorem runSize {t : TypeId} {i : TypeInfo} (h : P.info? t = some i) (w : World) : (sizeOf t).run P w = .ok i.size w := by simp [sizeOf, runInfo h]
theorem runZero {t : TypeId} {i : TypeInfo} {z : Value} (h : P.info? t = some i) (hz : i.zero = some z) (w : World) : (zeroValue t).run P w = .ok z w := by
 simp [zeroValue, runInfo h, hz]
theorem runAgg {t : TypeId} {ti : TI} (h : TIok P t ti) (w : World) : (isAgg t).run P w = .ok ti.isAgg w := by
 obtain ⟨d, h1, h2⟩ := h.und
 rw [h2]
 simp only [isAgg, Sem.run_bind, runUnder h1, Result.andThen_ok]
 cases d <;> rfl

/-! #### a value without memory -/
theorem good_val (hr : Rel H μ F st tm w) {o : Oper} {x : V} {v : Value} (hs : (execOp ρ o).run P w = .ok (.value v) w) (hx : RepS H μ x v) (hno : x.isOwn = false) :
  Good P H μ F tm w o.dst (st.app (out o.dst x)) (execOp ρ o) := good_same hs (out_rel' hr hx hno)
theorem rep_int {k n} : RepS H μ (.int k n) (.int k n) := .two _ _ (.one _ _ (.data _ _ (.int k n)))
theorem rep_bool {b} : RepS H μ (.bool b) (.bool b) := .two _ _ (.one _ _ (.data _ _ (.bool b)))
theorem rep_str {s : List UInt8} : RepS H μ (.str s) (.string ⟨s.toArray⟩) := .two _ _ (.one _ _ (.data _ _ (.str s)))

theorem bytes_toList (s : List UInt8) : (⟨s.toArray⟩ : ByteArray).toList = s := by rw [ByteArray.toList_eq]
theorem bytes_size (s : List UInt8) : (⟨s.toArray⟩ : ByteArray).size = s.length := by simp [ByteArray.size]

theorem guard_int {op : BinOp} {t : TypeId} {x y : Operand} {k k' : IntKind} {a b : Int} : (eqGuard op t x y (.int k a) (.int k' b)).run P w = .ok () w := by
 unfold eqGuard
 split <;> simp
theorem guard_str {op : BinOp} {t : TypeId} {x y : Operand} {a b : ByteArray} : (eqGuard op t x y (.string a) (.string b)).run P w = .ok () w := by
 unfold eqGuard
 split <;> simp
theorem guard_bool {op : BinOp} {t : TypeId} {x y : Operand} {a b : Bool} : (eqGuard op t x y (.bool a) (.bool b)).run P w = .ok () w := by
 unfold eqGuard
 split <;> simp

theorem guard_ptr {op : BinOp} {t : TypeId} {x y : Operand} {a b : Option Addr} : (eqGuard op t x y (.pointer a) (.pointer b)).run P w = .ok () w := by
 unfold eqGuard
 split <;> simp
theorem _root_.Go.Ax.RepS.nilp {v : Value} (h : RepS H μ .nilp v) : v = .pointer none := by
 cases h with
 | two _ _ h => cases h with | one _ _ h => cases h with | data _ _ h => cases h; rfl
theorem eqNil {t e : TypeId} (h : P.underlying t = some (.pointer e)) (n : Nat) (a : Option Addr) (w : World) : (Op.equalIn (n + 1) t (.pointer a) (.pointer none)).run P w = .ok a.isNone w := by
 rw [Op.equalIn]
 cases a <;> simp only [Sem.run_bind, runUnder h, Result.andThen_ok, Sem.run_pure] <;> rfl
theorem eqBo {t : TypeId} (h : P.underlying t = some .bool) (n : Nat) (a b : Bool) (w : World) : (Op.equalIn (n + 1) t (.bool a) (.bool b)).run P w = .ok (a == b) w := by
 rw [Op.equalIn]
 simp only [Sem.run_bind, runUnder h, Result.andThen_ok, Sem.run_pure]
theorem RepS.agg_inv {cs : List V} {v : Value} (h : RepS H μ (.agg cs) v) : ∃ vs : List Value, v = .agg vs.toArray ∧ RepC H μ cs vs := by
 cases h with
 | two _ _ h => cases h with
  | agg _ vs h => exact ⟨vs, rfl, h⟩
  | one _ _ h => cases h with | data _ _ h => cases h with | agg _ vs h => exact ⟨vs, rfl, h.toC⟩
theorem eq1_run {x y : V} {u v : Value} {r : Bool} {k : Nat} {t : TypeId} {d : TypeDesc} (hx : Rep1 H μ x u) (hy : Rep1 H μ y v) (he : eq1 k x y = some r) (ht : P.underlying t = some d) (hd : basicD k d = true) (n : Nat) (w : World) :
  (Op.equalIn (n + 1) t u v).run P w = .ok r w := by
 have ex : RepS H μ x u := .two _ _ (.one _ _ hx)
 have ey : RepS H μ y v := .two _ _ (.one _ _ hy)
 unfold eq1 at he
 split at he
 ·have e1 := ex.int
  have e2 := ey.int
  subst e1; subst e2
  split at he
  ·rename_i hk
   subst hk
   injection he with he
   subst he
   cases d <;> simp [basicD] at hd
   simp [Op.equalIn, runUnder ht]
  ·cases he
 ·have e1 := ex.str
  have e2 := ey.str
  subst e1; subst e2
  injection he with he
  subst he
  cases d <;> simp [basicD] at hd
  simp [Op.equalIn, runUnder ht, beq_toListBytes, bytes_toList]
 ·have e1 := ex.bool
  have e2 := ey.bool
  subst e1; subst e2
  injection he with he
  subst he
  cases d <;> simp [basicD] at hd
  simp [Op.equalIn, runUnder ht]
 ·cases he
theorem isAgg_basic {t : TypeId} {d : TypeDesc} {k : Nat} (ht : P.underlying t = some d) (hd : basicD k d = true) (w : World) : (isAgg t).run P w = .ok false w := by
 unfold isAgg
 simp only [Sem.run_bind, runUnder ht, Result.andThen_ok]
 cases d <;> first | (simp; done) | (exfalso; revert hd; unfold basicD; split <;> simp_all)
theorem eqFields_run (n : Nat) {xs ys : List Value} (w : World) : ∀ (fs : List Field) (ks : List Nat) (cs ds : List V) (i : Nat) {r : Bool}, (∀ j fd k, fs[j]? = some fd → ks[j]? = some k → fd.name ≠ "_" ∧ fd.offset = i + j ∧ ∃ d, P.underlying fd.type = some d ∧ basicD k d = true) →
  fs.length = ks.length → RepC H μ cs (xs.drop i) → RepC H μ ds (ys.drop i) → eqCells ks cs ds = some r → (Op.eqFields (n + 1) xs.toArray ys.toArray fs).run P w = .ok r w := by
 intro fs
 induction fs with
 | nil =>
  intro ks cs ds i r _ hl _ _ h
  cases ks with
  | cons => simp at hl
  | nil =>
   cases cs <;> cases ds <;> simp [eqCells] at h
   subst h
   simp [Op.eqFields]
 | cons f fs ih =>
  intro ks cs ds i r hf hl hx hy h
  cases ks with
  | nil => simp at hl
  | cons k ks =>
   cases cs with
   | nil => simp [eqCells] at h
   | cons c cs =>
    cases ds with
    | nil => simp [eqCells] at h
    | cons e ds =>
     simp only [eqCells] at h
     split at h
     ·rename_i a b h1 h2
      injection h with h
      subst h
      obtain ⟨g1, g2, d, g3, g4⟩ := hf 0 f k rfl rfl
      cases hdx : xs.drop i with
      | nil => rw [hdx] at hx; cases hx
      | cons u us =>
       cases hdy : ys.drop i with
       | nil => rw [hdy] at hy; cases hy
       | cons v vs =>
        rw [hdx] at hx
        rw [hdy] at hy
        cases hx with
        | cons _ _ _ _ _ _ hx1 hx2 =>
        cases hy with
        | cons _ _ _ _ _ _ hy1 hy2 =>
        have ex : xs[i]? = some u := by rw [← List.head?_drop, hdx]; rfl
        have ey : ys[i]? = some v := by rw [← List.head?_drop, hdy]; rfl
        have px : (part f.type xs.toArray f.offset).run P w = .ok u w := by
         rw [g2]; simp [part, isAgg_basic g3 g4, ex]
        have py : (part f.type ys.toArray f.offset).run P w = .ok v w := by
         rw [g2]; simp [part, isAgg_basic g3 g4, ey]
        have hrec := ih ks cs ds (i + 1) (fun j fd k hj hk => by
          have := hf (j + 1) fd k (by simpa using hj) (by simpa using hk)
          rw [Nat.add_assoc, Nat.add_comm 1 j]; exact this) (by simpa using hl)
         (by rw [← List.drop_drop, hdx]; simpa using hx2) (by rw [← List.drop_drop, hdy]; simpa using hy2) h2
        simp only [Op.eqFields, if_pos g1, Sem.run_bind, px, py, Result.andThen_ok, eq1_run hx1 hy1 h1 g3 g4]
        cases a
        ·simp
        ·simpa using hrec
     ·cases h
set_option maxHeartbeats 1000000 in
theorem RepS.slice_cons {sz : Nat} {x : V} {xs : List V} {v : Value} (h : RepS H μ (.slice sz (x :: xs)) v) : ∃ a n c, v = .slice (some a) n c := by
 cases h with
 | two _ _ h => cases h with | one _ _ h => cases h with | data _ _ h => cases h with | slice _ _ b off c hr hc => exact ⟨_, _, _, rfl⟩
theorem RepS.own_cons {sz : Nat} {x : V} {xs : List V} {v : Value} (h : RepS H μ (.own sz (x :: xs)) v) : ∃ a n c, v = .slice (some a) n c := by
 cases h with
 | two _ _ h => cases h with | one _ _ h => cases h with
  | own _ _ b off c hr hc => exact ⟨_, _, _, rfl⟩
  | data _ _ h => cases h
theorem RepS.sl_succ {sz n : Nat} {o : Oid} {v : Value} (h : RepS H μ (.sl sz o (n + 1)) v) : ∃ a n c, v = .slice (some a) n c := by
 cases h with
 | two _ _ h => cases h with | one _ _ h => cases h with
  | sl _ _ b _ c h hc hs => exact ⟨_, _, _, rfl⟩
  | data _ _ h => cases h
theorem guard_slc {op : BinOp} {t : TypeId} {x y : Operand} {a b : Option Addr} {n c n' c' : Nat} : (eqGuard op t x y (.slice a n c) (.slice b n' c')).run P w = .ok () w := by
 unfold eqGuard
 split <;> simp
theorem neqSl {t e : TypeId} (h : P.underlying t = some (.slice e)) (a : Option Addr) (n c : Nat) (w : World) : (binOp .neq t (.slice a n c) (.slice none 0 0)).run P w = .ok (.bool (!a.isNone)) w := by
 simp only [binOp]
 simp [Op.equal, Op.maxDepth, Lib.run_equalIn_slice_nil w 9999 t e a n c 0 0 h]
theorem binS_run {op : BinOp} {t : TypeId} {x y : Operand} {a b v : V} {va vb : Value} (hra : RepS H μ a va) (hrb : RepS H μ b vb) {kd : List Nat} (hv : binS kd op a b = some v)
  (hu : EqOk P t kd) :
  ∃ u, (do eqGuard op t x y va vb; binOp op t va vb : Sem Value).run P w = .ok u w ∧ RepS H μ v u ∧ v.isOwn = false := by
 have hmax : IntKind.i64.max = 9223372036854775807 := by decide
 unfold binS at hv
 split at hv
 case h_12 =>
  have e1 := hra.str
  have e2 := hrb.str
  subst e1; subst e2
  split at hv
  ·injection hv with hv
   subst hv
   refine ⟨_, ?_, rep_str, rfl⟩
   rw [Sem.run_bind, guard_str]
   simp only [Result.andThen_ok, binOp, Op.stringOp, bytes_size]
   rw [if_neg (by rw [hmax]; omega)]
   simp only [Sem.run_pure]
   congr 2
  ·simp at hv
 case h_19 =>
  have e1 := hra.bool
  have e2 := hrb.bool
  subst e1; subst e2
  split at hv
  ·rename_i hB
   injection hv with hv
   subst hv
   refine ⟨_, ?_, rep_bool, rfl⟩
   rw [Sem.run_bind, guard_bool]
   simp only [Result.andThen_ok, binOp, Op.equal, Op.maxDepth, Sem.run_bind, eqBo (hu.1 hB), Sem.run_pure]
  ·simp at hv
 case h_20 =>
  have e1 := hra.bool
  have e2 := hrb.bool
  subst e1; subst e2
  split at hv
  ·rename_i hB
   injection hv with hv
   subst hv
   refine ⟨_, ?_, rep_bool, rfl⟩
   rw [Sem.run_bind, guard_bool]
   simp only [Result.andThen_ok, binOp, Op.equal, Op.maxDepth, Sem.run_bind, eqBo (hu.1 hB), Sem.run_pure]
  ·simp at hv
 case h_21 =>
  obtain ⟨us, e1, r1⟩ := hra.agg_inv
  obtain ⟨vs, e2, r2⟩ := hrb.agg_inv
  subst e1; subst e2
  unfold eqAgg at hv
  split at hv
  ·rename_i ks
   rw [Option.map_eq_some_iff] at hv
   obtain ⟨r, h1, rfl⟩ := hv
   obtain ⟨fs, g1, g2, g3, g4, g5⟩ := hu.2.2.2 ks rfl
   refine ⟨_, ?_, rep_bool, rfl⟩
   have hfo : P.fieldsOf t = fs := by simp [Program.fieldsOf, g1]
   rw [Sem.run_bind, run_eqGuard_agg _ _ _ _ _ _ _ g4]
   simp only [Result.andThen_ok]
   rw [run_eql_struct, run_equalIn_struct _ _ _ _ _ (by rw [hfo]; exact g1) g3, hfo, eqFields_run 9998 w fs.toList ks _ _ 0 (by simpa using g5) (by simpa using g2) (by simpa using r1) (by simpa using r2) h1]
   rfl
  ·cases hv
 case h_22 =>
  obtain ⟨us, e1, r1⟩ := hra.agg_inv
  obtain ⟨vs, e2, r2⟩ := hrb.agg_inv
  subst e1; subst e2
  unfold eqAgg at hv
  split at hv
  ·rename_i ks
   rw [Option.map_eq_some_iff] at hv
   obtain ⟨r, h1, rfl⟩ := hv
   obtain ⟨fs, g1, g2, g3, g4, g5⟩ := hu.2.2.2 ks rfl
   refine ⟨_, ?_, rep_bool, rfl⟩
   have hfo : P.fieldsOf t = fs := by simp [Program.fieldsOf, g1]
   rw [Sem.run_bind, run_eqGuard_agg _ _ _ _ _ _ _ g4]
   simp only [Result.andThen_ok]
   rw [run_neq_struct, run_equalIn_struct _ _ _ _ _ (by rw [hfo]; exact g1) g3, hfo, eqFields_run 9998 w fs.toList ks _ _ 0 (by simpa using g5) (by simpa using g2) (by simpa using r1) (by simpa using r2) h1]
   rfl
  ·cases hv
 case h_23 =>
  have e1 := hra.nilp
  have e2 := hrb.nilp
  subst e1; subst e2
  split at hv
  ·rename_i hk
   injection hv with hv
   subst hv
   obtain ⟨e, he⟩ := hu.2.1 hk
   refine ⟨_, ?_, rep_bool, rfl⟩
   rw [Sem.run_bind, guard_ptr]
   simp only [Result.andThen_ok, binOp, Op.equal, Op.maxDepth, Sem.run_bind, eqNil he, Sem.run_pure]
   rfl
  ·cases hv
 case h_24 =>
  have e1 := hra.nilp
  have e2 := hrb.nilp
  subst e1; subst e2
  split at hv
  ·rename_i hk
   injection hv with hv
   subst hv
   obtain ⟨e, he⟩ := hu.2.1 hk
   refine ⟨_, ?_, rep_bool, rfl⟩
   rw [Sem.run_bind, guard_ptr]
   simp only [Result.andThen_ok, binOp, Op.equal, Op.maxDepth, Sem.run_bind, eqNil he, Sem.run_pure]
   rfl
  ·cases hv
 case h_25 =>
  obtain ⟨b, _, e1⟩ := hra.ref
  have e2 := hrb.nilp
  subst e1; subst e2
  split at hv
  ·rename_i hk
   injection hv with hv
   subst hv
   obtain ⟨e, he⟩ := hu.2.1 hk
   refine ⟨_, ?_, rep_bool, rfl⟩
   rw [Sem.run_bind, guard_ptr]
   simp only [Result.andThen_ok, binOp, Op.equal, Op.maxDepth, Sem.run_bind, eqNil he, Sem.run_pure]
   rfl
  ·cases hv
 case h_26 =>
  obtain ⟨b, _, e1⟩ := hra.ref
  have e2 := hrb.nilp
  subst e1; subst e2
  split at hv
  ·rename_i hk
   injection hv with hv
   subst hv
   obtain ⟨e, he⟩ := hu.2.1 hk
   refine ⟨_, ?_, rep_bool, rfl⟩
   rw [Sem.run_bind, guard_ptr]
   simp only [Result.andThen_ok, binOp, Op.equal, Op.maxDepth, Sem.run_bind, eqNil he, Sem.run_pure]
   rfl
  ·cases hv
 case h_27 =>
  obtain ⟨a', n', c', e1⟩ := hra.slice_cons
  have e2 := hrb.nils
  subst e1; subst e2
  split at hv
  ·rename_i hk
   injection hv with hv
   subst hv
   obtain ⟨e, he⟩ := hu.2.2.1 hk
   refine ⟨_, ?_, rep_bool, rfl⟩
   rw [Sem.run_bind, guard_slc]
   simp only [Result.andThen_ok]
   rw [Lib.run_eql_slice_nil w _ _ _ _ _ _ _ he]; rfl
  ·cases hv
 case h_28 =>
  obtain ⟨a', n', c', e1⟩ := hra.slice_cons
  have e2 := hrb.nils
  subst e1; subst e2
  split at hv
  ·rename_i hk
   injection hv with hv
   subst hv
   obtain ⟨e, he⟩ := hu.2.2.1 hk
   refine ⟨_, ?_, rep_bool, rfl⟩
   rw [Sem.run_bind, guard_slc]
   simp only [Result.andThen_ok]
   rw [neqSl he]; rfl
  ·cases hv
 case h_29 =>
  obtain ⟨a', n', c', e1⟩ := hra.own_cons
  have e2 := hrb.nils
  subst e1; subst e2
  split at hv
  ·rename_i hk
   injection hv with hv
   subst hv
   obtain ⟨e, he⟩ := hu.2.2.1 hk
   refine ⟨_, ?_, rep_bool, rfl⟩
   rw [Sem.run_bind, guard_slc]
   simp only [Result.andThen_ok]
   rw [Lib.run_eql_slice_nil w _ _ _ _ _ _ _ he]; rfl
  ·cases hv
 case h_30 =>
  obtain ⟨a', n', c', e1⟩ := hra.own_cons
  have e2 := hrb.nils
  subst e1; subst e2
  split at hv
  ·rename_i hk
   injection hv with hv
   subst hv
   obtain ⟨e, he⟩ := hu.2.2.1 hk
   refine ⟨_, ?_, rep_bool, rfl⟩
   rw [Sem.run_bind, guard_slc]
   simp only [Result.andThen_ok]
   rw [neqSl he]; rfl
  ·cases hv
 case h_31 =>
  obtain ⟨a', n', c', e1⟩ := hra.sl_succ
  have e2 := hrb.nils
  subst e1; subst e2
  split at hv
  ·rename_i hk
   injection hv with hv
   subst hv
   obtain ⟨e, he⟩ := hu.2.2.1 hk
   refine ⟨_, ?_, rep_bool, rfl⟩
   rw [Sem.run_bind, guard_slc]
   simp only [Result.andThen_ok]
   rw [Lib.run_eql_slice_nil w _ _ _ _ _ _ _ he]; rfl
  ·cases hv
 case h_32 =>
  obtain ⟨a', n', c', e1⟩ := hra.sl_succ
  have e2 := hrb.nils
  subst e1; subst e2
  split at hv
  ·rename_i hk
   injection hv with hv
   subst hv
   obtain ⟨e, he⟩ := hu.2.2.1 hk
   refine ⟨_, ?_, rep_bool, rfl⟩
   rw [Sem.run_bind, guard_slc]
   simp only [Result.andThen_ok]
   rw [neqSl he]; rfl
  ·cases hv
 case h_33 =>
  have e1 := hra.nils
  have e2 := hrb.nils
  subst e1; subst e2
  split at hv
  ·rename_i hk
   injection hv with hv
   subst hv
   obtain ⟨e, he⟩ := hu.2.2.1 hk
   refine ⟨_, ?_, rep_bool, rfl⟩
   rw [Sem.run_bind, guard_slc]
   simp only [Result.andThen_ok]
   rw [Lib.run_eql_slice_nil w _ _ _ _ _ _ _ he]; rfl
  ·cases hv
 case h_34 => simp at hv
 all_goals first
  | (have e1 := hra.str
     have e2 := hrb.str
     subst e1; subst e2
     injection hv with hv
     subst hv
     refine ⟨_, ?_, rep_bool, rfl⟩
     rw [Sem.run_bind, guard_str]
     simp [binOp, Op.stringOp, bytes_toList]
     done)
  | (have e1 := hra.int
     have e2 := hrb.int
     subst e1; subst e2
     split at hv
     ·rename_i hk
      obtain ⟨hk, h0⟩ := hk
      subst hk
      injection hv with hv
      subst hv
      refine ⟨_, ?_, rep_int, rfl⟩
      rw [Sem.run_bind, guard_int]
      simp [binOp, Op.intDiv, h0]
      done
     ·simp at hv; done)
  | (have e1 := hra.int
     have e2 := hrb.int
     subst e1; subst e2
     split at hv
     ·rename_i hk
      subst hk
      injection hv with hv
      subst hv
      first
      | (refine ⟨_, ?_, rep_int, rfl⟩
         rw [Sem.run_bind, guard_int]
         simp [binOp, Op.intArith]
         done)
      | (refine ⟨_, ?_, rep_bool, rfl⟩
         rw [Sem.run_bind, guard_int]
         simp [binOp, Op.intCmp]
         done)
     ·simp at hv; done)

theorem good_binOp (hT : TabOk P T) (hr : Rel H μ F st tm w) (hρ : Env ρ tm) {o : Oper} {op : BinOp} {t t' : TypeId} {x y : Operand} (ho : o.op = .binOp op t x y t') {l : List Wr}
  (h : (opS T M o).run st = some (.ws l)) : Good P H μ F tm w o.dst (st.app l) (execOp ρ o) := by
 unfold opS at h
 rw [ho] at h
 obtain ⟨ti, hti, h⟩ := rd_bind _ _ _ h
 have hti := hT _ _ (rd_rOpt hti)
 obtain ⟨a, ha, h⟩ := rd_bind _ _ _ h
 obtain ⟨b, hb, h⟩ := rd_bind _ _ _ h
 obtain ⟨v, hv, h⟩ := rd_bind _ _ _ h
 have := rd_pure h
 injection this with this
 subst this
 obtain ⟨u, h1, h2, h3⟩ := binS_run (P := P) (w := w) (t := t) (x := x) (y := y) (ev_rep hr hρ ha) (ev_rep hr hρ hb) (rd_rOpt hv) hti.eq
 refine good_val hr ?_ h2 h3
 simp only [execOp, ho]
 rw [Sem.run_bind] at h1 ⊢
 rw [Sem.run_bind, h1]
 rfl
theorem good_unOp (hr : Rel H μ F st tm w) (hρ : Env ρ tm) {o : Oper} {op : UnOp} {t : TypeId} {x : Operand} (ho : o.op = .unOp op t x) {l : List Wr}
  (h : (opS T M o).run st = some (.ws l)) : Good P H μ F tm w o.dst (st.app l) (execOp ρ o) := by
 unfold opS at h
 rw [ho] at h
 obtain ⟨a, ha, h⟩ := rd_bind _ _ _ h
 obtain ⟨v, hv, h⟩ := rd_bind _ _ _ h
 have := rd_pure h
 injection this with this
 subst this
 have hv := rd_rOpt hv
 have hra := ev_rep hr hρ ha
 unfold unS at hv
 split at hv
 ·have e := hra.bool
  injection hv with hv
  subst hv
  exact good_val hr (by simp [execOp, ho, e, Op.unary]) rep_bool rfl
 ·have e := hra.int
  injection hv with hv
  subst hv
  exact good_val hr (by simp [execOp, ho, e, Op.unary, Op.intArith]) rep_int rfl
 ·simp at hv
theorem good_nilCheck (hr : Rel H μ F st tm w) (hρ : Env ρ tm) {o : Oper} {x : Operand} (ho : o.op = .nilCheck x) {l : List Wr}
  (h : (opS T M o).run st = some (.ws l)) : Good P H μ F tm w o.dst (st.app l) (execOp ρ o) := by
 unfold opS at h
 rw [ho] at h
 obtain ⟨a, ha, h⟩ := rd_bind _ _ _ h
 have hra := ev_rep hr hρ ha
 split at h
 ·have := rd_pure h
  injection this with this
  subst this
  obtain ⟨b, _, e⟩ := hra.ref
  exact good_val (v := ρ x) hr (by simp [execOp, ho, e]) hra rfl
 ·have := rd_pure h
  injection this with this
  subst this
  obtain ⟨vs, b, o0, e, _⟩ := hra.eptr
  exact good_val (v := ρ x) hr (by simp [execOp, ho, e]) hra rfl
 ·simp [Rd.run] at h
theorem run_fieldAt {s : TypeId} {ti : TI} (h : TIok P s ti) {f off n : Nat} (hf : ti.flds[f]? = some (off, n)) (b o : Nat) (w : World) :
  (Instr.fieldAt s (.pointer (some ⟨b, o, none⟩)) f).run P w = .ok (.pointer (some ⟨b, o + off, none⟩)) w := by
 obtain ⟨fs, fd, i, h1, h2, h3, h4, h5, h6⟩ := h.flds f off n hf
 simp only [Instr.fieldAt, Sem.run_bind, runUnder h1, Result.andThen_ok, h2, Instr.sureAddr, Sem.run_pure, fieldPlace, runSize h4, h5, h6, if_false, h3]
 simp only [Addr.add]
 split
 ·rename_i h0; simp [h0]
 ·rfl
theorem good_fieldAddr (hT : TabOk P T) (hr : Rel H μ F st tm w) (hρ : Env ρ tm) {o : Oper} {s : TypeId} {f : Nat} {x : Operand} (ho : o.op = .fieldAddr s x f) {l : List Wr}
  (h : (opS T M o).run st = some (.ws l)) : Good P H μ F tm w o.dst (st.app l) (execOp ρ o) := by
 unfold opS at h
 rw [ho] at h
 obtain ⟨ti, hti, h⟩ := rd_bind _ _ _ h
 have hti := hT _ _ (rd_rOpt hti)
 obtain ⟨a, ha, h⟩ := rd_bind _ _ _ h
 obtain ⟨⟨off, n⟩, hoff, h⟩ := rd_bind _ _ _ h
 have hoff := rd_rOpt hoff
 have hra := ev_rep hr hρ ha
 dsimp only at h
 split at h
 ·have := rd_pure h
  injection this with this
  subst this
  obtain ⟨b, hb, e⟩ := hra.ref
  exact good_val hr (by simp only [execOp, ho, e, Sem.run_bind, run_fieldAt hti hoff]; rfl) (.two _ _ (.one _ _ (.ref _ _ _ hb))) rfl
 ·have := rd_pure h
  injection this with this
  subst this
  obtain ⟨vs, b, o0, e, h1, h2⟩ := hra.eptr
  refine good_val (v := .pointer (some ⟨b, o0 + (_ + off), none⟩)) hr ?_ (.two _ _ (.one _ _ (.eptr _ _ _ _ _ h1 h2))) rfl
  simp only [execOp, ho, e, Sem.run_bind, run_fieldAt hti hoff, Nat.add_assoc]
  rfl
 ·simp [Rd.run] at h
theorem RepS.tup_inv {vs : List V} {v : Value} (h : RepS H μ (.tup vs) v) : ∃ us : List Value, v = .tuple us.toArray ∧ RepT H μ vs us := by
 cases h with
 | tup _ us h => exact ⟨us, rfl, h⟩
 | two _ _ h => cases h with | one _ _ h => cases h with | data _ _ h => cases h
theorem good_extract (hr : Rel H μ F st tm w) (hρ : Env ρ tm) {o : Oper} {x : Operand} {i : Nat} (ho : o.op = .extract x i) {l : List Wr}
  (h : (opS T M o).run st = some (.ws l)) : Good P H μ F tm w o.dst (st.app l) (execOp ρ o) := by
 unfold opS at h
 rw [ho] at h
 obtain ⟨a, ha, h⟩ := rd_bind _ _ _ h
 have hra := ev_rep hr hρ ha
 split at h
 ·rename_i vs
  obtain ⟨v, hv, h⟩ := rd_bind _ _ _ h
  have hv := rd_rOpt hv
  have := rd_pure h
  injection this with this
  subst this
  obtain ⟨us, e, ht⟩ := hra.tup_inv
  have key2 : ∀ (vs : List V) (us : List Value) (i : Nat), RepT H μ vs us → vs[i]? = some v → ∃ u, us[i]? = some u ∧ Rep2 H μ v u := by
   intro vs
   induction vs with
   | nil => intro us i _ h; simp at h
   | cons y ys ih =>
    intro us i ht h
    cases ht with
    | cons _ u _ us h1 h2 =>
     cases i with
     | zero => simp at h; subst h; exact ⟨u, by simp, h1⟩
     | succ i => simpa using ih us i h2 (by simpa using h)
  obtain ⟨u, h1, h2⟩ := key2 vs us i ht hv
  exact good_val (v := u) hr (by simp [execOp, ho, e, Instr.extract, h1]) (RepS.two _ _ h2).weak (weak_not_own _)
 ·simp [Rd.run] at h
theorem good_index (hT : TabOk P T) (hr : Rel H μ F st tm w) (hρ : Env ρ tm) {o : Oper} {t : TypeId} {x i : Operand} (ho : o.op = .index t x i) {l : List Wr}
  (h : (opS T M o).run st = some (.ws l)) : Good P H μ F tm w o.dst (st.app l) (execOp ρ o) := by
 unfold opS at h
 rw [ho] at h
 obtain ⟨ti, hti, h⟩ := rd_bind _ _ _ h
 have hti := hT _ _ (rd_rOpt hti)
 obtain ⟨a, ha, h⟩ := rd_bind _ _ _ h
 obtain ⟨b, hb, h⟩ := rd_bind _ _ _ h
 have hra := ev_rep hr hρ ha
 have hrb := ev_rep hr hρ hb
 split at h
 ·rename_i s k n _
  have e1 := hra.str
  have e2 := hrb.int
  obtain ⟨c, hc, h⟩ := rd_bind _ _ _ h
  have hc := rd_rOpt hc
  split at h
  ·rename_i hs
   have := rd_pure h
   injection this with this
   subst this
   refine good_val (v := .int .u8 c.toNat) hr ?_ rep_int rfl
   unfold idxB at hc
   split at hc
   ·rename_i h0
    have hg : (⟨s.toArray⟩ : ByteArray)[n.toNat]? = some c := by
     have hlt := (List.getElem?_eq_some_iff.1 hc).1
     rw [getElem?_pos _ _ (by rw [bytes_size]; exact hlt)]
     congr 1
     have := (List.getElem?_eq_some_iff.1 hc).2
     show s.toArray[n.toNat]'(by simpa using hlt) = c
     simpa using this
    simp [execOp, ho, e1, e2, Instr.index, asIntOf, runUnder (hti.str hs), h0, hg]
   ·simp at hc
  ·simp [Rd.run] at h
 ·simp [Rd.run] at h
theorem addr_off (b off n : Nat) : (Addr.add ⟨b, off, none⟩ n) = ⟨b, off + n, none⟩ := by
 simp only [Addr.add]
 split
 ·rename_i h0; simp [h0]
 ·rfl
theorem esz_of {ti : TI} {sz : Nat} (hs : ti.esz.map (·.1) = some sz) : ∃ p, ti.esz = some (sz, p) := by
 cases hq : ti.esz with
 | none => rw [hq] at hs; simp at hs
 | some q => rw [hq] at hs; simp at hs; exact ⟨q.2, by rw [← hs]⟩
theorem good_indexAddr (hT : TabOk P T) (hr : Rel H μ F st tm w) (hρ : Env ρ tm) {o : Oper} {t : TypeId} {x i : Operand} (ho : o.op = .indexAddr t x i) {l : List Wr}
  (h : (opS T M o).run st = some (.ws l)) : Good P H μ F tm w o.dst (st.app l) (execOp ρ o) := by
 unfold opS at h
 rw [ho] at h
 obtain ⟨ti, hti, h⟩ := rd_bind _ _ _ h
 have hti := hT _ _ (rd_rOpt hti)
 obtain ⟨a, ha, h⟩ := rd_bind _ _ _ h
 obtain ⟨b, hb, h⟩ := rd_bind _ _ _ h
 have hra := ev_rep hr hρ ha
 have hrb := ev_rep hr hρ hb
 split at h
 ·rename_i sz u n k i' _
  have e2 := hrb.int
  split at h
  ·rename_i hc
   obtain ⟨c1, c2, c3⟩ := hc
   have := rd_pure h
   injection this with this
   subst this
   obtain ⟨p, hp⟩ := esz_of c3
   obtain ⟨e, ie, z, h1, h2, h3, h4, h5⟩ := hti.esz _ _ hp
   rcases hra.sl with ⟨e0, _⟩ | ⟨bb, c, e1, hbb, _, _⟩
   ·omega
   ·refine good_val (v := .pointer (some ⟨bb, i'.toNat * sz, none⟩)) hr ?_ (.two _ _ (.one _ _ (.ref _ _ _ hbb))) rfl
    simp [execOp, ho, e1, e2, Instr.indexAt, asIntOf, runUnder h1, c1, c2, runSize h2, h3, addr_off]
  ·simp [Rd.run] at h
 ·rename_i u off k i' _
  have e2 := hrb.int
  split at h
  ·rename_i len sz harr
   split at h
   ·rename_i hc
    obtain ⟨c1, c2⟩ := hc
    have := rd_pure h
    injection this with this
    subst this
    obtain ⟨e, ie, h1, h2, h3⟩ := hti.arr _ _ harr
    obtain ⟨bb, hbb, e1⟩ := hra.ref
    refine good_val (v := .pointer (some ⟨bb, off + i'.toNat * sz, none⟩)) hr ?_ (.two _ _ (.one _ _ (.ref _ _ _ hbb))) rfl
    simp [execOp, ho, e1, e2, Instr.indexAt, Instr.sureAddr, asIntOf, runUnder h1, c1, c2, runSize h2, h3, addr_off]
   ·simp [Rd.run] at h
  ·simp [Rd.run] at h
 ·rename_i cs off k i' _
  have e2 := hrb.int
  split at h
  ·rename_i len sz harr
   split at h
   ·rename_i hc
    obtain ⟨c1, c2⟩ := hc
    have := rd_pure h
    injection this with this
    subst this
    obtain ⟨e, ie, h1, h2, h3⟩ := hti.arr _ _ harr
    obtain ⟨vs, bb, o0, e1, g1, g2⟩ := hra.eptr
    refine good_val (v := .pointer (some ⟨bb, o0 + (off + i'.toNat * sz), none⟩)) hr ?_ (.two _ _ (.one _ _ (.eptr _ _ _ _ _ g1 g2))) rfl
    simp [execOp, ho, e1, e2, Instr.indexAt, Instr.sureAddr, asIntOf, runUnder h1, c1, c2, runSize h2, h3, addr_off, Nat.add_assoc]
   ·simp [Rd.run] at h
  ·simp [Rd.run] at h
 ·split at h
  ·rename_i sz xs k n he _ _ _
   have e2 := hrb.int
   obtain ⟨y, hy, h⟩ := rd_bind _ _ _ h
   have hy := rd_rOpt hy
   split at h
   ·rename_i hs
    have := rd_pure h
    injection this with this
    subst this
    unfold idx at hy
    split at hy
    ·rename_i h0
     obtain ⟨hlt, hyy⟩ := List.getElem?_eq_some_iff.1 hy
     obtain ⟨p, hp⟩ := esz_of hs
     obtain ⟨e, ie, z, h1, h2, h3, h4, h5⟩ := hti.esz _ _ hp
     rcases hra.elems he with ⟨_, e0⟩ | ⟨_, _, _, e0⟩ | ⟨bb, off, c, e1, hc, hrow⟩
     ·subst e0; simp at hlt
     ·subst e0; simp at hlt
     ·obtain ⟨us, g1, g2, g3⟩ := hrow.get n.toNat hlt
      rw [hyy] at g2
      refine good_val (v := .pointer (some ⟨bb, (off + n.toNat * sz) + 0, none⟩)) hr ?_ (.two _ _ (.one _ _ (.eptr _ us _ _ _ g2 g3))) rfl
      have hn : n < (xs.length : Int) := by omega
      simp [execOp, ho, e1, e2, Instr.indexAt, asIntOf, runUnder h1, h0, hn, runSize h2, h3, addr_off]
    ·simp at hy
   ·simp [Rd.run] at h
  ·simp [Rd.run] at h
end
end Go.Ax
set_option linter.unusedVariables false
set_option linter.unusedSimpArgs false
namespace Go.Ax
attribute [local simp] look_cons
section
variable {P : Program} {T : Nat → Option TI} {M : Mode} {H H' : Heap} {μ μ' : Oid → Option Nat} {F : Fr} {st st' : St} {tm tm' : Nat → Value} {w w' : World} {ρ : Operand → Value}

theorem evs_rep (hr : Rel H μ F st tm w) (hρ : Env ρ tm) {xs : List Operand} {vs : List V} (h : (evs xs).run st = some vs) :
  vs.length = xs.length ∧ ∀ j (hj : j < vs.length) (hj' : j < xs.length), RepS H μ vs[j] (ρ xs[j]) ∧ (ev xs[j]).run st = some vs[j] := by
 induction xs generalizing vs with
 | nil => simp [evs, Rd.run] at h; subst h; simp
 | cons x xs ih =>
  obtain ⟨v, hv, h⟩ := rd_bind _ _ _ h
  obtain ⟨us, hus, h⟩ := rd_bind _ _ _ h
  have := rd_pure h
  subst this
  obtain ⟨h1, h2⟩ := ih hus
  refine ⟨by simp [h1], fun j hj hj' => ?_⟩
  cases j with
  | zero => exact ⟨ev_rep hr hρ hv, hv⟩
  | succ j => exact h2 j (by simpa using hj) (by simpa using hj')
theorem evOpt_rep (hr : Rel H μ F st tm w) (hρ : Env ρ tm) {x : Option Operand} {v : Option V} (h : (evOpt x).run st = some v) :
  (x = none ∧ v = none) ∨ ∃ y u, x = some y ∧ v = some u ∧ RepS H μ u (ρ y) := by
 cases x with
 | none => simp [evOpt, Rd.run] at h; exact .inl ⟨rfl, h.symm⟩
 | some y =>
  obtain ⟨u, hu, h⟩ := rd_bind _ _ _ h
  have := rd_pure h
  subst this
  exact .inr ⟨y, u, rfl, rfl, ev_rep hr hρ hu⟩


theorem list1 {α : Type} {l : Array α} (h : l.toList.length = 1) : ∃ x, l = #[x] := by
 obtain ⟨l⟩ := l
 match l, h with
 | [x], _ => exact ⟨x, rfl⟩
theorem list2 {α : Type} {l : Array α} (h : l.toList.length = 2) : ∃ x y, l = #[x, y] := by
 obtain ⟨l⟩ := l
 match l, h with
 | [x, y], _ => exact ⟨x, y, rfl⟩
theorem good_len (hT : TabOk P T) (hr : Rel H μ F st tm w) (hρ : Env ρ tm) {o : Oper} {args : Array Operand} {at' : Array TypeId}
  (ho : o.op = .call { callee := .builtin .len, args := args, argTypes := at' }) {l : List Wr}
  (h : (opS T M o).run st = some (.ws l)) : Good P H μ F tm w o.dst (st.app l) (execOp ρ o) := by
 unfold opS at h
 rw [ho] at h
 replace h := rd_bind _ _ _ h
 obtain ⟨vs, hvs, h⟩ := h
 obtain ⟨h1, h2⟩ := evs_rep hr hρ hvs
 replace h := rd_bind _ _ _ h
 obtain ⟨t, ht, h⟩ := h
 have ht := rd_rOpt ht
 replace h := rd_bind _ _ _ h
 obtain ⟨ti, hti, h⟩ := h
 have hti := hT _ _ (rd_rOpt hti)
 split at h
 ·rename_i s
  obtain ⟨x, rfl⟩ := list1 (h1.symm)
  have e1 := (h2 0 (by simp) (by simp)).1.str
  simp at e1
  split at h
  ·rename_i hs
   have := rd_pure h
   injection this with this
   subst this
   refine good_val (v := .int .i64 s.length) hr ?_ rep_int rfl
   simp [execOp, ho, resolve, invoke, builtin, Builtin.len_, ht, e1, runUnder (hti.str hs), goInt, bytes_size]
  ·simp [Rd.run] at h
 ·rename_i sz u n
  obtain ⟨x, rfl⟩ := list1 (h1.symm)
  have e1 := (h2 0 (by simp) (by simp)).1
  simp at e1
  split at h
  ·rename_i hs
   have := rd_pure h
   injection this with this
   subst this
   obtain ⟨⟨p, q⟩, hp⟩ := Option.isSome_iff_exists.1 hs
   obtain ⟨e, ie, z, g1, _⟩ := hti.esz _ _ hp
   refine good_val (v := .int .i64 n) hr ?_ rep_int rfl
   rcases e1.sl with ⟨e3, e2⟩ | ⟨b, c, e2, _⟩
   ·subst e3
    simp [execOp, ho, resolve, invoke, builtin, Builtin.len_, ht, e2, runUnder g1, goInt]
   ·simp [execOp, ho, resolve, invoke, builtin, Builtin.len_, ht, e2, runUnder g1, goInt]
  ·simp [Rd.run] at h
 ·rename_i v hv0 _
  obtain ⟨x, rfl⟩ := list1 (h1.symm)
  have e1 := (h2 0 (by simp) (by simp)).1
  simp at e1
  replace h := rd_bind _ _ _ h
  obtain ⟨⟨sz, xs⟩, he, h⟩ := h
  have he := rd_rOpt he
  dsimp only at h
  split at h
  ·rename_i hs
   have := rd_pure h
   injection this with this
   subst this
   obtain ⟨⟨p, q⟩, hp⟩ := Option.isSome_iff_exists.1 hs
   obtain ⟨e, ie, z, g1, _⟩ := hti.esz _ _ hp
   refine good_val (v := .int .i64 xs.length) hr ?_ rep_int rfl
   rcases e1.elems he with ⟨e2, e3⟩ | ⟨_, _, e2, e3⟩ | ⟨b, off, c, e2, _, _⟩
   ·subst e3
    simp [execOp, ho, resolve, invoke, builtin, Builtin.len_, ht, e2, runUnder g1, goInt]
   ·subst e3
    simp [execOp, ho, resolve, invoke, builtin, Builtin.len_, ht, e2, runUnder g1, goInt]
   ·simp [execOp, ho, resolve, invoke, builtin, Builtin.len_, ht, e2, runUnder g1, goInt]
  ·simp [Rd.run] at h
 ·simp [Rd.run] at h

theorem bounds_run (isS : Bool) (len cap : Nat) (lo hi : Option Value) (nl nh : Int) (hlo : lo = none ∧ nl = 0 ∨ lo = some (.int .i64 nl))
  (hhi : hi = none ∧ nh = len ∨ hi = some (.int .i64 nh)) (b0 : 0 ≤ nl) (b1 : nl ≤ nh) (b2 : nh ≤ len) (b3 : len ≤ cap) (w : World) :
  (Instr.sliceBounds isS len cap lo hi none).run P w = .ok (nl.toNat, nh.toNat, cap) w := by
 have b4 : nh ≤ (cap : Int) := by omega
 have b5 : 0 ≤ nh := by omega
 have b6 : (nh.toNat : Int) = nh := by omega
 rcases hlo with ⟨rfl, rfl⟩ | rfl <;> rcases hhi with ⟨rfl, rfl⟩ | rfl
 ·simp [Instr.sliceBounds]
 ·simp [Instr.sliceBounds, Instr.sliceBound, asIntOf, b4, b5]
 ·simp [Instr.sliceBounds, Instr.sliceBound, asIntOf, b0, b1]
 ·simp [Instr.sliceBounds, Instr.sliceBound, asIntOf, b0, b1, b4, b5, b6]
theorem bndS_run (hr : Rel H μ F st tm w) (hρ : Env ρ tm) {lo : Option Operand} {vl : Option V} (h : (evOpt lo).run st = some vl) {d : Nat} {n : Int} (hn : bndS d vl = some n) :
  lo.map ρ = none ∧ n = d ∨ lo.map ρ = some (.int .i64 n) := by
 rcases evOpt_rep hr hρ h with ⟨rfl, rfl⟩ | ⟨y, u, rfl, rfl, hu⟩
 ·simp [bndS] at hn
  exact .inl ⟨rfl, hn.symm⟩
 ·unfold bndS at hn
  split at hn
  ·rename_i he; simp at he
  ·rename_i m he
   injection he with he
   subst he
   injection hn with hn
   subst hn
   exact .inr (by simp [hu.int])
  ·simp at hn
theorem extract_list (s : List UInt8) (l h : Nat) : (⟨s.toArray⟩ : ByteArray).extract l h = ⟨((s.take h).drop l).toArray⟩ := by
 have : ((⟨s.toArray⟩ : ByteArray).extract l h).data = ((s.take h).drop l).toArray := by
  rw [ByteArray.data_extract]
  simp [List.extract_toArray, List.extract_eq_take_drop, List.drop_take]
 cases hx : (⟨s.toArray⟩ : ByteArray).extract l h
 rw [hx] at this
 simp at this
 simp [this]
/-- A part of a text or of a slice. -/
theorem slice_run (hr : Rel H μ F st tm w) (hρ : Env ρ tm) {o : Oper} {t : TypeId} {x : Operand} {lo hi : Option Operand} (ho : o.op = .slice t x lo hi none) {ti : TI} (hti : TIok P t ti) {a v : V} {vl vh : Option V}
  (hra : RepS H μ a (ρ x)) (hl : (evOpt lo).run st = some vl) (hh : (evOpt hi).run st = some vh) (hv : sliceS ti a vl vh = some v) :
  ∃ u, (execOp ρ o).run P w = .ok (.value u) w ∧ RepS H μ v u ∧ v.isOwn = false ∧
   ∀ sz xs nl nh, a.elems = some (sz, xs) → bndS 0 vl = some nl → bndS xs.length vh = some nh → v = .slice sz ((xs.take nh.toNat).drop nl.toNat) ∧ 0 ≤ nl ∧ nl ≤ nh ∧ nh ≤ xs.length ∧ ti.esz.map (·.1) = some sz ∧
    ((ρ x = .slice none 0 0 ∧ u = .slice none 0 0) ∨ (∃ q, a = .slice sz [] ∧ ρ x = .slice (some q) 0 0 ∧ u = .slice (some q) 0 0) ∨ ∃ b off c, ρ x = .slice (some ⟨b, off, none⟩) xs.length c ∧ xs.length ≤ c ∧
      u = .slice (some ⟨b, if c = nl.toNat then off else off + nl.toNat * sz, none⟩) (nh.toNat - nl.toNat) (c - nl.toNat)) := by
 unfold sliceS at hv
 split at hv
 ·rename_i s
  have es := hra.str
  split at hv
  ·rename_i nl nh e1 e2
   split at hv
   ·rename_i hb
    obtain ⟨b0, b1, b2, b3⟩ := hb
    injection hv with hv
    subst hv
    have k1 := fun w => bounds_run (P := P) false s.length s.length (lo.map ρ) (hi.map ρ) nl nh (by simpa using bndS_run hr hρ hl e1) (bndS_run hr hρ hh e2) b0 b1 b2 (Nat.le_refl _) w
    refine ⟨.string ⟨((s.take nh.toNat).drop nl.toNat).toArray⟩, ?_, rep_str, rfl, fun sz xs nl nh he => by simp [V.elems] at he⟩
    simp only [execOp, ho, Sem.run_bind, Instr.sliceAt, runUnder (hti.str b3), Result.andThen_ok, es, Option.map_none, Instr.slice, Option.isSome_none, Bool.false_eq_true, if_false, bytes_size, k1, Sem.run_pure, extract_list]
   ·simp at hv
  ·simp at hv
 ·split at hv
  ·rename_i sz xs he
   split at hv
   ·rename_i nl nh e1 e2
    split at hv
    ·rename_i hb
     obtain ⟨b0, b1, b2, b3⟩ := hb
     injection hv with hv
     subst hv
     obtain ⟨p, hp⟩ := esz_of b3
     obtain ⟨e, ie, z, g1, g2, g3, g4, g5⟩ := hti.esz _ _ hp
     have hlen : ((xs.take nh.toNat).drop nl.toNat).length = nh.toNat - nl.toNat := by rw [List.length_drop, List.length_take]; omega
     rcases hra.elems he with ⟨e3, e4⟩ | ⟨q, e5, e3, e4⟩ | ⟨b, off, c, e3, hc, hrow⟩
     rotate_left
     ·subst e4
      have hl0 : nl = 0 := by simp at b2; omega
      have hh0 : nh = 0 := by simp at b2; omega
      subst hl0; subst hh0
      have k1 := fun w => bounds_run (P := P) true 0 0 (lo.map ρ) (hi.map ρ) 0 0 (by simpa using bndS_run hr hρ hl e1) (bndS_run hr hρ hh e2) (by omega) (by omega) (by omega) (Nat.le_refl _) w
      refine ⟨.slice (some q) 0 0, ?_, .two _ _ (.one _ _ (.data _ _ (by simpa using RepD.slice1 sz q))), rfl, fun sz' xs' nl nh he' h1 h2 => ?_⟩
      ·simp only [execOp, ho, Sem.run_bind, Instr.sliceAt, runUnder g1, Result.andThen_ok, e3, Option.map_none, Instr.slice, k1, Sem.run_pure, runSize g2]
       simp
      ·rw [he] at he'
       simp at he'
       obtain ⟨rfl, rfl⟩ := he'
       rw [e1] at h1
       rw [e2] at h2
       injection h1 with h1
       injection h2 with h2
       subst h1; subst h2
       exact ⟨rfl, by omega, by omega, by omega, b3, .inr (.inl ⟨q, e5, e3, rfl⟩)⟩
     rotate_left
     ·subst e4
      have hl0 : nl = 0 := by simp at b2; omega
      have hh0 : nh = 0 := by simp at b2; omega
      subst hl0; subst hh0
      have k1 := fun w => bounds_run (P := P) true 0 0 (lo.map ρ) (hi.map ρ) 0 0 (by simpa using bndS_run hr hρ hl e1) (bndS_run hr hρ hh e2) (by omega) (by omega) (by omega) (Nat.le_refl _) w
      refine ⟨.slice none 0 0, ?_, .two _ _ (.one _ _ (.data _ _ (by simpa using RepD.slice0 sz))), rfl, fun sz' xs' nl nh he' h1 h2 => ?_⟩
      ·simp only [execOp, ho, Sem.run_bind, Instr.sliceAt, runUnder g1, Result.andThen_ok, e3, Option.map_none, Instr.slice, k1, Sem.run_pure, runSize g2]
       simp
      ·rw [he] at he'
       simp at he'
       obtain ⟨rfl, rfl⟩ := he'
       rw [e1] at h1
       rw [e2] at h2
       injection h1 with h1
       injection h2 with h2
       subst h1; subst h2
       exact ⟨rfl, by omega, by omega, by omega, b3, .inl ⟨e3, rfl⟩⟩
     ·have k1 := fun w => bounds_run (P := P) true xs.length c (lo.map ρ) (hi.map ρ) nl nh (by simpa using bndS_run hr hρ hl e1) (bndS_run hr hρ hh e2) b0 b1 b2 hc w
      have hrow' : RepRow H sz b (off + nl.toNat * sz) ((xs.take nh.toNat).drop nl.toNat) := (hrow.take nh.toNat).drop nl.toNat (by rw [List.length_take]; omega)
      have hfin : ∀ u, u = Value.slice (some ⟨b, if c = nl.toNat then off else off + nl.toNat * sz, none⟩) (nh.toNat - nl.toNat) (c - nl.toNat) → ∀ sz' xs' nl' nh', a.elems = some (sz', xs') → bndS 0 vl = some nl' → bndS xs'.length vh = some nh' → V.slice sz ((xs.take nh.toNat).drop nl.toNat) = .slice sz' ((xs'.take nh'.toNat).drop nl'.toNat) ∧ 0 ≤ nl' ∧ nl' ≤ nh' ∧ nh' ≤ xs'.length ∧ ti.esz.map (·.1) = some sz' ∧
        ((ρ x = .slice none 0 0 ∧ u = .slice none 0 0) ∨ (∃ q, a = .slice sz' [] ∧ ρ x = .slice (some q) 0 0 ∧ u = .slice (some q) 0 0) ∨ ∃ b off c, ρ x = .slice (some ⟨b, off, none⟩) xs'.length c ∧ xs'.length ≤ c ∧
          u = .slice (some ⟨b, if c = nl'.toNat then off else off + nl'.toNat * sz', none⟩) (nh'.toNat - nl'.toNat) (c - nl'.toNat)) := by
       intro u hu sz' xs' nl' nh' he' h1 h2
       rw [he] at he'
       simp at he'
       obtain ⟨rfl, rfl⟩ := he'
       rw [e1] at h1
       rw [e2] at h2
       injection h1 with h1
       injection h2 with h2
       subst h1; subst h2
       exact ⟨rfl, b0, b1, b2, b3, .inr (.inr ⟨b, off, c, e3, hc, hu⟩)⟩
      by_cases hcl : c = nl.toNat
      ·-- nothing is left: the old address stays
       have hz : (xs.take nh.toNat).drop nl.toNat = [] := List.eq_nil_of_length_eq_zero (by rw [hlen]; omega)
       refine ⟨.slice (some ⟨b, off, none⟩) ([] : List V).length (c - nl.toNat), ?_, ?_, rfl, hfin _ ?_⟩
       ·simp only [execOp, ho, Sem.run_bind, Instr.sliceAt, runUnder g1, Result.andThen_ok, e3, Option.map_none, Instr.slice, k1, Sem.run_pure, runSize g2]
        rw [← hz, hlen]
        simp [hcl]
       ·rw [hz]
        exact .two _ _ (.one _ _ (.data _ _ (.slice _ _ _ _ _ (.nil _ _ _) (by simp))))
       ·rw [if_pos hcl, ← hz, hlen]
      ·refine ⟨.slice (some ⟨b, off + nl.toNat * sz, none⟩) ((xs.take nh.toNat).drop nl.toNat).length (c - nl.toNat), ?_, ?_, rfl, hfin _ ?_⟩
       ·simp only [execOp, ho, Sem.run_bind, Instr.sliceAt, runUnder g1, Result.andThen_ok, e3, Option.map_none, Instr.slice, k1, Sem.run_pure, runSize g2, g3, hlen]
        rw [if_neg hcl]
        simp [addr_off]
       ·exact .two _ _ (.one _ _ (.data _ _ (.slice _ _ _ _ _ hrow' (by rw [hlen]; omega))))
       ·rw [if_neg hcl, hlen]
    ·simp at hv
   ·simp at hv
  ·simp at hv
theorem fixT_own {ti : Option TI} {sz : Nat} {xs : List V} : fixT ti (.own sz xs) = .own sz xs := rfl
theorem good_slice (hT : TabOk P T) (hr : Rel H μ F st tm w) (hρ : Env ρ tm) {o : Oper} {t : TypeId} {x : Operand} {lo hi : Option Operand} (ho : o.op = .slice t x lo hi none) {l : List Wr}
  (h : (opS T M o).run st = some (.ws l)) : Good P H μ F tm w o.dst (st.app l) (execOp ρ o) := by
 unfold opS at h
 rw [ho] at h
 replace h := rd_bind _ _ _ h
 obtain ⟨a, ha, h⟩ := h
 have hra := ev_rep hr hρ ha
 replace h := rd_bind _ _ _ h
 obtain ⟨vl, hl, h⟩ := h
 replace h := rd_bind _ _ _ h
 obtain ⟨vh, hh, h⟩ := h
 replace h := rd_bind _ _ _ h
 obtain ⟨ti, hti, h⟩ := h
 have hti := hT _ _ (rd_rOpt hti)
 split at h
 ·rename_i sz u n
  split at h
  ·rename_i nl nh e1 e2
   split at h
   ·rename_i hc
    obtain ⟨c0, c1, c2, c3⟩ := hc
    have := rd_pure h
    injection this with this
    subst this
    subst c0
    obtain ⟨p, hp⟩ := esz_of c3
    obtain ⟨e, ie, z, g1, g2, g3, g4, g5⟩ := hti.esz _ _ hp
    rcases hra.sl with ⟨n0, e3⟩ | ⟨b, c, e3, hb, hn, hs⟩
    ·subst n0
     have hh0 : nh = 0 := by omega
     subst hh0
     have k1 := fun w => bounds_run (P := P) true 0 0 (lo.map ρ) (hi.map ρ) 0 0 (by simpa using bndS_run hr hρ hl e1) (by simpa using bndS_run hr hρ hh e2) (by omega) (by omega) (by omega) (Nat.le_refl _) w
     refine good_val (v := .slice none 0 0) hr ?_ (.two _ _ (.one _ _ (.sl0 _ _))) rfl
     simp only [execOp, ho, Sem.run_bind, Instr.sliceAt, runUnder g1, Result.andThen_ok, e3, Option.map_none, Instr.slice, k1, Sem.run_pure, runSize g2]
     simp
    ·have k1 := fun w => bounds_run (P := P) true n c (lo.map ρ) (hi.map ρ) 0 nh (by simpa using bndS_run hr hρ hl e1) (bndS_run hr hρ hh e2) (by omega) c1 (by omega) hn w
     refine good_val (v := .slice (some ⟨b, 0, none⟩) nh.toNat c) hr ?_ (.two _ _ (.one _ _ (.sl _ _ _ _ _ hb (by omega) hs))) rfl
     simp only [execOp, ho, Sem.run_bind, Instr.sliceAt, runUnder g1, Result.andThen_ok, e3, Option.map_none, Instr.slice, k1, Sem.run_pure, runSize g2]
     simp [addr_off]
   ·simp [Rd.run] at h
  ·simp [Rd.run] at h
 ·rename_i hnot
  replace h := rd_bind _ _ _ h
  obtain ⟨v, hv, h⟩ := h
  replace hv := rd_rOpt hv
  obtain ⟨u, h1, h2, h3, h4⟩ := slice_run (P := P) hr hρ ho hti hra hl hh hv
  split at h
  ·rename_i sz xs _
   split at h
   ·rename_i nl nh e1 e2
    split at h
    ·rename_i hc
     have := rd_pure h
     injection this with this
     subst this
     obtain ⟨g1, g2, g3, g4, g5, g6⟩ := h4 sz xs nl nh rfl e1 e2
     rw [St.app_append]
     obtain ⟨k1, k2⟩ := giveUp_rel (ti := none) hr hρ ha rfl
     rw [fixT_own] at k1 k2
     have hnh : nh.toNat = xs.length := by omega
     rw [hnh, List.take_of_length_le (Nat.le_refl _)] at g1
     refine good_same h1 (out_rel k1 ?_ ?_)
     ·rcases g6 with ⟨q1, q2⟩ | ⟨_, q0, _⟩ | ⟨b, off, c, q1, q2, q3⟩
      ·subst q2
       have : xs = [] := by
        rcases hra.elems (sz := sz) (xs := xs) rfl with ⟨_, q⟩ | ⟨_, _, _, q⟩ | ⟨b, off, c, q, _⟩
        ·exact q
        ·exact q
        ·rw [q1] at q; simp at q
       subst this
       exact .two _ _ (.one _ _ (by simpa using Rep1.own0 sz))
      ·cases q0
      ·rw [q3]
       rcases hra.elems (sz := sz) (xs := xs) rfl with ⟨q, _⟩ | ⟨_, q, _⟩ | ⟨b', off', c', q, hc', hrow⟩
       ·rw [q1] at q; simp at q
       ·cases q
       ·rw [q1] at q
        simp only [Value.slice.injEq, Option.some.injEq, Addr.mk.injEq, true_and] at q
        obtain ⟨⟨rfl, rfl, _⟩, rfl⟩ := q
        have hl2 : nh.toNat - nl.toNat = (xs.drop nl.toNat).length := by rw [List.length_drop]; omega
        rw [hl2]
        refine .two _ _ (.one _ _ (.own _ _ _ _ _ ?_ (by rw [List.length_drop]; omega)))
        split
        ·rw [List.drop_eq_nil_of_le (by omega)]; exact .nil _ _ _
        ·exact hrow.drop nl.toNat (by omega)
     ·intro sz' xs' b off n c q1 q2
      simp only [V.own.injEq] at q1
      obtain ⟨rfl, rfl⟩ := q1
      rcases g6 with ⟨_, q3⟩ | ⟨_, q0, _⟩ | ⟨b', off', c', q3, q4, q5⟩
      ·rw [q3] at q2; simp at q2
      ·cases q0
      ·rw [q5] at q2
       simp only [Value.slice.injEq, Option.some.injEq, Addr.mk.injEq] at q2
       obtain ⟨⟨rfl, rfl, _⟩, rfl, rfl⟩ := q2
       obtain ⟨⟨r1, r2, r3, r4⟩, r5⟩ := k2 _ _ _ _ _ _ rfl q3
       refine ⟨?_, r5⟩
       by_cases hcl : c' = nl.toNat
       ·rw [if_pos hcl]
        have hz : c' - nl.toNat = 0 := by omega
        obtain ⟨vs, ty, r6, r7⟩ := r1
        refine ⟨⟨vs, ty, r6, ?_⟩, fun k hk hk2 => ?_, r3, r4⟩
        ·rw [hz]
         have : off' ≤ off' + c' * sz := Nat.le_add_right _ _
         omega
        ·rw [hz] at hk2
         have : off' ≤ off' + (nh.toNat - nl.toNat) * sz := Nat.le_add_right _ _
         omega
       ·rw [if_neg hcl]
        have a1 : off' + nl.toNat * sz + (nh.toNat - nl.toNat) * sz = off' + xs.length * sz := by
         rw [Nat.add_assoc, ← Nat.add_mul]; congr 2; omega
        have a2 : off' + nl.toNat * sz + (c' - nl.toNat) * sz = off' + c' * sz := by
         rw [Nat.add_assoc, ← Nat.add_mul]; congr 2; omega
        rw [a1, a2]
        exact ⟨r1, r2, r3, r4⟩
    ·simp [Rd.run] at h
   ·simp [Rd.run] at h
  ·have := rd_pure h
   injection this with this
   subst this
   exact good_val hr h1 h2 h3
end
end Go.Ax
set_option linter.unusedVariables false
set_option linter.unusedSimpArgs false
namespace Go.Ax
attribute [local simp] look_cons
section
variable {P : Program} {T : Nat → Option TI} {M : Mode} {H H' : Heap} {μ μ' : Oid → Option Nat} {F : Fr} {st st' : St} {tm tm' : Nat → Value} {w w' : World} {ρ : Operand → Value}

theorem addr_add (b off n : Nat) : (Addr.add ⟨b, off, none⟩ n) = ⟨b, off + n, none⟩ := by
 simp only [Addr.add]
 split
 ·rename_i h0; simp [h0]
 ·rfl
theorem cellV_one {u : Value} (h : cellV u = true) : u.oneCell' = true := by cases u <;> simp_all [cellV, Value.oneCell']
theorem loadFrom_run {b off : Nat} {us : List Value} (h : ∀ j (hj : j < us.length), w.cell? ⟨b, off + j, none⟩ = some us[j]) :
  ∀ (n i : Nat) (acc : Array Value), i + n = us.length → acc.toList = us.take i → (loadCellsFrom ⟨b, off, none⟩ i n acc).run P w = .ok us.toArray w := by
 intro n
 induction n with
 | zero =>
  intro i acc hi ha
  have : acc = us.toArray := by
   apply Array.ext'
   rw [ha, List.take_of_length_le (by omega)]
  simp [loadCellsFrom, this]
 | succ n ih =>
  intro i acc hi ha
  simp only [loadCellsFrom, Sem.run_bind, addr_add, run_load, h i (by omega), Result.andThen_ok]
  exact ih (i + 1) _ (by omega) (by rw [Array.toList_push, ha, List.take_succ_eq_append_getElem (by omega)])
theorem loadCells_run {b off : Nat} {us : List Value} (h : ∀ j (hj : j < us.length), w.cell? ⟨b, off + j, none⟩ = some us[j]) {n : Nat} (hn : n = us.length) :
  (loadCells ⟨b, off, none⟩ n).run P w = .ok us.toArray w := by
 subst hn
 exact loadFrom_run h _ 0 #[] (by omega) (by simp)

theorem RepC.sub {cs vs} (h : RepC H μ cs vs) (off n : Nat) (hn : off + n ≤ cs.length) : RepC H μ ((cs.drop off).take n) ((vs.drop off).take n) := by
 have hl := h.length
 refine RepC.of_get (by simp; omega) fun j hj hj' => ?_
 simp only [List.getElem_take, List.getElem_drop]
 exact h.get _ _ _

theorem load_run {t : TypeId} {ti : TI} (hti : TIok P t ti) {cs : List V} {vs : List Value} {b o0 off : Nat} (hc : RepC H μ cs vs)
  (hm : ∀ j (hj : j < vs.length), w.cell? ⟨b, o0 + j, none⟩ = some vs[j]) {x : V} (hx : getS ti cs off = some x) :
  ∃ u, (Instr.loadAt t (.pointer (some ⟨b, o0 + off, none⟩))).run P w = .ok u w ∧ Rep2 H μ x u ∧
   (x.isOwn = true → cs[off]? = some x ∧ w.cell? ⟨b, o0 + off, none⟩ = some u) := by
 have hl := hc.length
 unfold getS at hx
 obtain ⟨i, z, g1, g2, g3, g4, g5, g6⟩ := hti.info
 split at hx
 ·rename_i ha
  split at hx
  ·rename_i hle
   injection hx with hx
   subst hx
   refine ⟨.agg ((vs.drop off).take ti.size).toArray, ?_, .agg _ _ (hc.sub off ti.size hle), fun h => by simp [V.isOwn] at h⟩
   simp only [Instr.loadAt, Instr.sureAddr, Sem.run_bind, Sem.run_pure, Result.andThen_ok, loadVar, runAgg hti, ha, if_true, runSize g1, g2]
   rw [loadCells_run (us := (vs.drop off).take ti.size) (fun j hj => ?_) (by simp; omega)]
   ·rfl
   ·simp only [List.getElem_take, List.getElem_drop]
    rw [Nat.add_assoc]
    exact hm _ _
  ·simp at hx
 ·rename_i ha
  obtain ⟨hlt, hxe⟩ := List.getElem?_eq_some_iff.1 hx
  have hg := hc.get off hlt (hl ▸ hlt)
  rw [hxe] at hg
  have hcell := hm off (hl ▸ hlt)
  refine ⟨vs[off]'(hl ▸ hlt), ?_, .one _ _ hg.2.2, fun _ => ⟨hx, hcell⟩⟩
  simp only [Instr.loadAt, Instr.sureAddr, Sem.run_bind, Sem.run_pure, Result.andThen_ok, loadVar, runAgg hti, ha, if_false, run_load, hcell, Bool.false_eq_true]

theorem good_load (hT : TabOk P T) (hr : Rel H μ F st tm w) (hρ : Env ρ tm) {o : Oper} {t : TypeId} {a : Operand} (ho : o.op = .load t a) {l : List Wr}
  (h : (opS T M o).run st = some (.ws l)) : Good P H μ F tm w o.dst (st.app l) (execOp ρ o) := by
 unfold opS at h
 rw [ho] at h
 replace h := rd_bind _ _ _ h
 obtain ⟨ti, hti, h⟩ := h
 have hti := hT _ _ (rd_rOpt hti)
 replace h := rd_bind _ _ _ h
 obtain ⟨va, ha, h⟩ := h
 have hra := ev_rep hr hρ ha
 split at h
 ·rename_i cs off
  obtain ⟨vs, b, o0, e, h1, h2⟩ := hra.eptr
  replace h := rd_bind _ _ _ h
  obtain ⟨x, hx, h⟩ := h
  have := rd_pure h
  injection this with this
  subst this
  obtain ⟨u, g1, g2, _⟩ := load_run (w := w) (P := P) (μ := μ) hti h1.toC (fun j hj => hr.heap _ _ _ (h2 j hj)) (rd_rOpt hx)
  exact good_val hr (by simp only [execOp, ho, e, Sem.run_bind, g1]; rfl) (RepS.two _ _ g2).weak (weak_not_own _)
 ·rename_i u off
  obtain ⟨b, hb, e⟩ := hra.ref
  simp only [Rd.run] at h
  split at h
  ·rename_i row cs hob
   replace h := rd_bind _ _ _ h
   obtain ⟨x, hx, h⟩ := h
   obtain ⟨vs, ty, hblk, hrep, _⟩ := hr.cellsAt hob hb
   obtain ⟨v, g1, g2, g3⟩ := load_run (w := w) (P := P) (o0 := 0) hti hrep (fun j hj => by rw [cell?_of hblk, Nat.zero_add]; simp at hj; simp [List.getElem_take]) (rd_rOpt hx)
   rw [Nat.zero_add] at g1 g3
   have hs : (execOp ρ o).run P w = .ok (.value v) w := by simp only [execOp, ho, e, Sem.run_bind, g1]; rfl
   split at h
   ·rename_i hst
    have := rd_pure h
    injection this with this
    subst this
    simp at hst
    obtain ⟨g4, g5⟩ := g3 hst.2
    obtain ⟨h1, h2⟩ := hr.weakO hob g4
    refine good_same hs ?_
    simp only [St.app]
    refine out_rel h1 (.two _ _ g2) fun sz xs bb off' n c e1 e2 => ?_
    have hl : atL μ st tm w (.o u off) (.own sz xs) (.slice (some ⟨bb, off', none⟩) n c) := ⟨row, cs, b, hob, hb, e1 ▸ g4, e2 ▸ g5⟩
    exact ⟨by rw [show live (st.putO u (.cells row (cs.set off x.weak))) μ = live st μ from funext fun _ => live_set rfl hob rfl]; exact hr.own _ _ _ _ _ _ _ hl, h2 bb ⟨_, _, _, _, _, hl⟩⟩
   ·have := rd_pure h
    injection this with this
    subst this
    exact good_val hr hs (RepS.two _ _ g2).weak (weak_not_own _)
  ·simp [Rd.run] at h
 ·simp [Rd.run] at h

/-- Cells of an object are written one behind the other; a row only where it is one cell alone. -/
theorem storeCells_run {o : Oid} {b : Nat} {row : Bool} (hb : μ o = some b) : ∀ (xs : List V) (us : List Value) (st : St) (w : World) (cs : List V) (off i : Nat), Rel H μ F st tm w → st.ob o = some (.cells row cs) →
  RepC H μ xs us → off + i + xs.length ≤ cs.length → (row = true → rowOk xs = true) →
  (∀ sz ys b' o' n c, xs = [.own sz ys] → us = [.slice (some ⟨b', o', none⟩) n c] → OwnAt H (live st μ) F w b' (o' + n * sz) (o' + c * sz) ∧ ∀ ℓ, ¬ Holds μ st tm w ℓ b') →
  (∀ x ∈ xs, x.isOwn = true → xs.length = 1) →
  ∃ w', (storeCells ⟨b, off, none⟩ us i).run P w = .ok () w' ∧ Rel H μ F (st.putO o (.cells row (setAll cs (off + i) xs))) tm w' ∧ Ext F H w H w' := by
 intro xs
 induction xs with
 | nil =>
  intro us st w cs off i hr ho hc hle _ _ _
  cases hc
  refine ⟨w, by simp [storeCells], hr.congr (fun t => rfl) (fun u => ?_), Ext.refl _ _ _⟩
  simp only [St.ob_putO, setAll]
  split
  ·rename_i h; subst h; exact ho.symm
  ·rfl
 | cons x xs ih =>
  intro us st w cs off i hr ho hc hle hrow hown h1
  cases hc with
  | cons _ u _ us hx hv hrep hs =>
   have hj : off + i < cs.length := by simp at hle; omega
   have hset := hr.setCell hb ho (.inl ⟨hj, rfl⟩) hx hv hrep (fun h => rowOk_iff.1 (hrow h) x (by simp)) (fun sz ys b' o' n c e1 e2 => by
    have hone := h1 x (by simp) (by rw [e1]; rfl)
    have : xs = [] := by cases xs <;> simp at hone ⊢
    subst this
    cases hs
    exact hown sz ys b' o' n c (by rw [e1]) (by rw [e2]))
   have hno2 : ∀ y ∈ xs, y.isOwn = true → False := by
    intro y hy hyo
    have := h1 y (by simp [hy]) hyo
    cases xs with
    | nil => simp at hy
    | cons => simp at this
   obtain ⟨w2, g1, g2, g3⟩ := ih us (st.putO o (.cells row (cs.set (off + i) x))) (w.setCell ⟨b, off + i, none⟩ u) (cs.set (off + i) x) off (i + 1) hset
    (by simp [St.ob_putO]) hs (by simp at hle ⊢; omega) (fun h => rowOk_iff.2 fun y hy => rowOk_iff.1 (hrow h) y (by simp [hy]))
    (fun sz ys b' o' n c e1 _ => (hno2 (.own sz ys) (by rw [e1]; simp) rfl).elim) (fun y hy hyo => (hno2 y hy hyo).elim)
   refine ⟨w2, ?_, g2.congr (fun t => rfl) (fun u' => ?_), (Ext.setCell hr (hr.cellsLive ho hb) (off + i) u).trans g3⟩
   ·obtain ⟨vs, ty, hblk, hrep', _⟩ := hr.cellsAt ho hb
    have hlen := hrep'.length
    have hcell : ∃ q, w.cell? ⟨b, off + i, none⟩ = some q := by
     rw [cell?_of hblk]
     rw [List.length_take] at hlen
     have h2 : off + i < vs.size := by simp at hlen; omega
     exact ⟨_, Array.getElem?_eq_getElem h2⟩
    obtain ⟨q, hq⟩ := hcell
    have hfr : w.frozen? ⟨b, off + i, none⟩ = false := by simp [World.frozen?, hblk]
    have hone : u.oneCell' = true := cellV_one hv
    rw [storeCells]
    simp only [Sem.run_bind, addr_add, run_store _ _ _ _ _ hone, hq, hfr, Bool.false_eq_true, if_false, Result.andThen_ok]
    exact g1
   ·simp only [St.ob_putO, setAll, Nat.add_assoc]
    split <;> rfl
theorem scells_own {x : V} (y : V) (hy : y ∈ x.scells) (ho : y.isOwn = true) : x.scells.length = 1 := by
 cases x with
 | agg cs =>
  simp only [V.scells, List.mem_map] at hy
  obtain ⟨z, _, rfl⟩ := hy
  cases z <;> simp [V.weak1, V.isOwn] at ho
 | _ => rfl
theorem Rep1.isCellV {x : V} {v : Value} (h : Rep1 H μ x v) (hx : x.isCell = true) (ha : x ≠ .any) : cellV v = true := by
 cases h with
 | any => exact absurd rfl ha
 | data _ _ h => exact h.cell hx
 | _ => rfl
theorem RepS.scells {x : V} {v : Value} (h : RepS H μ x v) (hx : x.storable = true) : RepC H μ x.scells v.cells.toList := by
 cases h with
 | tup => simp [V.storable] at hx
 | two _ _ h =>
  cases h with
  | agg cs vs h => simpa [V.scells, Value.cells] using h.weak
  | clo f a b us vs h h' => simp [V.storable] at hx
  | one _ _ h =>
   by_cases hc : x.isCell = true
   ·have ha : x ≠ .any := by rintro rfl; simp [V.storable] at hx
    have hv := h.isCellV hc ha
    have e1 : x.scells = [x] := by
     clear h ha hx
     cases x <;> first | rfl | simp [V.isCell] at hc
    have e2 : v.cells.toList = [v] := by cases v <;> simp_all [Value.cells, cellV]
    rw [e1, e2]
    exact .cons _ _ _ _ hc hv h .nil
   ·cases x <;> simp [V.isCell, V.storable] at hc hx
    cases h with
    | data _ _ h => cases h with | agg cs vs h => simpa [V.scells, Value.cells] using h.toC.weak

theorem scells_one {x : V} {sz : Nat} {ys : List V} (h : x.scells = [.own sz ys]) : x = .own sz ys := by
 cases x with
 | agg cs =>
  simp only [V.scells] at h
  match cs, h with
  | [], h => simp at h
  | c :: _ :: _, h => simp at h
  | [c], h => cases c <;> simp [V.weak1] at h
 | own => simpa [V.scells] using h
 | _ => simp [V.scells] at h
theorem cells_one {sz : Nat} {ys : List V} {v : Value} {b o n c : Nat} (hx : RepS H μ (.own sz ys) v) (h : v.cells.toList = [.slice (some ⟨b, o, none⟩) n c]) :
  v = .slice (some ⟨b, o, none⟩) n c := by
 cases hx with
 | two _ _ h1 => cases h1 with
  | one _ _ h1 => cases h1 with
   | own0 => simp [Value.cells] at h
   | own => simpa [Value.cells] using h
   | data _ _ h1 => cases h1

theorem nilSl_some {row : Bool} {cs : List V} {off : Nat} {v : V} {sz : Nat} {q : Oid} (h : nilSl row cs off v = some (sz, q)) : v = .nils ∧ row = false ∧ ∃ n, cs[off]? = some (.sl sz q n) := by
 unfold nilSl at h
 split at h
 ·split at h
  ·rename_i e
   simp at h
   obtain ⟨rfl, rfl⟩ := h
   exact ⟨rfl, rfl, _, e⟩
  ·simp at h
 ·simp at h
theorem good_store (hT : TabOk P T) (hr : Rel H μ F st tm w) (hρ : Env ρ tm) {o : Oper} {t : TypeId} {a x : Operand} (ho : o.op = .store t a x) {l : List Wr}
  (h : (opS T M o).run st = some (.ws l)) : Good P H μ F tm w o.dst (st.app l) (execOp ρ o) := by
 unfold opS at h
 rw [ho] at h
 replace h := rd_bind _ _ _ h
 obtain ⟨ti, hti, h⟩ := h
 have hti := hT _ _ (rd_rOpt hti)
 replace h := rd_bind _ _ _ h
 obtain ⟨va, ha, h⟩ := h
 have hra := ev_rep hr hρ ha
 replace h := rd_bind _ _ _ h
 obtain ⟨v, hv, h⟩ := h
 have hrv := ev_rep hr hρ hv
 split at h
 ·rename_i u off
  obtain ⟨b, hb, e⟩ := hra.ref
  simp only [Rd.run] at h
  split at h
  ·rename_i row cs hob
   obtain ⟨vs, ty, hblk, hrep, _⟩ := hr.cellsAt hob hb
   obtain ⟨i, z, g1, g2, g3, g4, g5, g6⟩ := hti.info
   split at h
   ·rename_i sz q hns
    obtain ⟨rfl, rfl, n, hcell⟩ := nilSl_some hns
    replace h := rd_bind _ _ _ h
    obtain ⟨_, hf, h⟩ := h
    have hfr := fresh_run hf (.alt q) (by simp)
    simp only [Rd.run] at h
    split at h
    ·rename_i yq hq
     split at h
     ·rename_i hc
      obtain ⟨c1, c2, c3⟩ := hc
      have := rd_pure h
      injection this with this
      subst this
      have hdst : o.dst = none := by simpa using c2
      obtain ⟨k1, _, _, _⟩ := hr.kill (o := q) (by rw [hq]; simp)
      have hane : q ≠ .alt q := by
       intro e'
       rw [← e', hq] at hfr
       simp at hfr
      have hau : (Oid.alt q) ≠ u := fun e' => by rw [e', hob] at hfr; simp at hfr
      have k2 := k1.addNil (o := .alt q) (by simp) (by rw [St.ob_putO, if_neg hane]; exact hfr)
      have hob2 : ((st.putO q .dead).putO (.alt q) (.cells true [])).ob u = some (.cells false cs) := by
       rw [St.ob_putO, if_neg hau, St.ob_putO, if_neg (Ne.symm c3)]
       exact hob
      obtain ⟨hlt, hge⟩ := List.getElem?_eq_some_iff.1 hcell
      have hn := hrv.nils
      have k3 := k2.setCell hb hob2 (.inl ⟨hlt, rfl⟩) (x := .sl sz (.alt q) 0) (v := .slice none 0 0) rfl rfl (.sl0 _ _) (by simp) (by simp)
      have hl2 := hr.cellsLive hob hb
      refine ⟨H, μ, _, .skip, undef, ?_, .inr ⟨rfl, rfl⟩, ?_, Ext.setCell hr hl2 off (.slice none 0 0)⟩
      ·have hlen := hrep.length
       rw [List.length_take] at hlen
       have hcl : ∃ q, w.cell? ⟨b, off, none⟩ = some q := by
        rw [cell?_of hblk]
        have h2 : off < vs.size := by simp at hlen; omega
        exact ⟨_, Array.getElem?_eq_getElem h2⟩
       obtain ⟨q', hq'⟩ := hcl
       have hfz : w.frozen? ⟨b, off, none⟩ = false := by simp [World.frozen?, hblk]
       simp only [execOp, ho, e, Instr.storeAt, Instr.sureAddr, Sem.run_bind, Sem.run_pure, Result.andThen_ok, storeVar, runSize g1, g2, c1, hn, Value.cells, ne_eq, List.size_toArray, List.length_cons, List.length_nil, Nat.zero_add,
        not_true_eq_false, if_false, storeCells, addr_add, Nat.add_zero, run_store _ _ _ _ _ (show (Value.slice none 0 0).oneCell' = true from rfl), hq', hfz, Bool.false_eq_true]
      ·rw [hdst]
       exact k3
     ·simp [Rd.run] at h
    ·simp [Rd.run] at h
   ·split at h
    ·rename_i hc
     obtain ⟨c1, c2, c3, c4, c5⟩ := hc
     simp only [Rd.run] at h
     injection h with h
     injection h with h
     subst h
     obtain ⟨h1, h2⟩ := giveUp_rel (ti := some ti) hr hρ hv rfl
     have hob' : (st.app (giveUp x (fixT (some ti) v))).ob u = some (.cells row cs) := by
      unfold giveUp
      split
      ·split
       ·simpa [St.app, St.ob_put] using hob
       ·exact hob
      ·exact hob
     have hsc := (fixT_rep' (ti := some ti) hrv).scells c4
     obtain ⟨w2, k1, k2, k3⟩ := storeCells_run (P := P) hb _ _ _ w cs off 0 h1 hob' hsc (by omega) (fun hr' => by
       rcases c5 with c5 | c5
       ·rw [c5] at hr'; simp at hr'
       ·exact c5)
      (fun sz ys b' o' n c e1 e2 => by
       have hx := scells_one e1
       have hu := cells_one (hx ▸ fixT_rep' (ti := some ti) hrv) e2
       exact h2 sz ys b' o' n c hx hu)
      (fun y hy hyo => scells_own y hy hyo)
     have hdst : o.dst = none := by simpa using c3
     refine ⟨H, μ, w2, .skip, undef, ?_, .inr ⟨rfl, rfl⟩, ?_, k3⟩
     ·have hsz : (ρ x).cells.size = ti.size := by
       have := hsc.length
       simp at this
       omega
      simp only [execOp, ho, e, Instr.storeAt, Instr.sureAddr, Sem.run_bind, Sem.run_pure, Result.andThen_ok, storeVar, runSize g1, g2, hsz, ne_eq, not_true_eq_false, if_false, k1]
     ·rw [hdst, St.app_append]
      simpa [after, St.app] using k2
    ·simp [Rd.run] at h
  ·simp [Rd.run] at h
 ·simp [Rd.run] at h

theorem Rep1.subR {x : V} {v : Value} (h : Rep1 H μ x v) (d : Nat) (hf : ∀ i ∈ subs1 x, μ (.hole i) = none) : Rep1 H μ (Go.Ax.subR d x) v := by
 cases h with
 | sl0 sz o => cases o <;> exact .sl0 _ _
 | sl sz o b n c h hc hs =>
  cases o with
  | hole i => rw [hf i (by simp [subs1])] at h; simp at h
  | _ => exact .sl _ _ _ _ _ h hc hs
 | any => exact .any _
 | nils => exact .nils
 | data _ _ h => cases h <;> exact .data _ _ (by constructor <;> assumption)
 | own0 => exact .own0 _
 | own sz xs b off c hr hc => exact .own sz xs b off c hr hc
 | ref o b off h => exact .ref o b off h
 | eptr cs vs b o0 off h hm => exact .eptr cs vs b o0 off h hm
 | mp o b h => exact .mp o b h
theorem isCell_subR {x : V} (d : Nat) (h : x.isCell = true) : (Go.Ax.subR d x).isCell = true := by
 unfold Go.Ax.subR
 split
 ·rfl
 ·exact h
theorem RepC.subR {cs vs} (h : RepC H μ cs vs) (d : Nat) (hf : ∀ i ∈ subsOf cs, μ (.hole i) = none) : RepC H μ (cs.map (Go.Ax.subR d)) vs := by
 induction cs generalizing vs with
 | nil => cases h; exact .nil
 | cons x xs ih =>
  cases h with
  | cons _ v _ vs h1 hv h hs =>
   exact .cons _ _ _ _ (isCell_subR d h1) hv (h.subR d fun i hi => hf i (by simp [subsOf, hi])) (ih hs fun i hi => hf i (by simp only [subsOf, List.flatMap_cons, List.mem_append]; exact .inr hi))
theorem subR_own {d : Nat} {x : V} {sz : Nat} {xs : List V} : Go.Ax.subR d x = .own sz xs ↔ x = .own sz xs := by
 unfold Go.Ax.subR
 split <;> simp
/-- A new object. -/
theorem Rel.newOb (h : Rel H μ F st tm w) {d : Nat} {z : List V} {vs : Array Value} {ty : TypeId} (hf : ∀ o ∈ newNs d z, st.ob o = none)
  (hr : RepC H μ z vs.toList) (hno : ∀ (j : Nat) x v, z[j]? = some x → vs.toList[j]? = some v → x.isOwn = false ∨ ∀ a n c, v ≠ .slice (some a) n c)
  (hh : w'.heap = w.heap.push (.cells vs ty)) :
  Rel H (updO μ (.loc d) (some w.heap.size)) F (st.app (newObW d z)) (upd tm d (.pointer (some ⟨w.heap.size, 0, none⟩))) w' := by
 have ho : st.ob (.loc d) = none := hf _ (by simp [newNs])
 have hμ := h.dom _ ho
 have hle : LeM μ (updO μ (.loc d) (some w.heap.size)) := by
  intro u b hb
  unfold updO
  by_cases e : u = .loc d
  ·subst e; rw [hμ] at hb; simp at hb
  ·simpa [e] using hb
 have hHn : ∀ k, H w.heap.size k = none := by
  intro k
  cases hk : H w.heap.size k with
  | none => rfl
  | some v => have := cell?_lt (h.heap _ _ _ hk); simp at this
 have hHs : H.size w.heap.size = 0 := by
  have := h.size w.heap.size
  have h2 : ¬ 0 < blkSize w w.heap.size := fun hp => by have := blkSize_lt hp; omega
  omega
 have h0 : Rel H μ F st tm w' := h.push _ hh (Le.refl _) (fun _ _ _ => rfl) (fun k v hv => by rw [hHn] at hv; simp at hv) (fun _ _ => rfl) (by omega)
 have hblk : w'.heap[w.heap.size]? = some (.cells vs ty) := by rw [hh]; simp
 have hob : ∀ u b, live st μ u = some b → b ≠ w.heap.size := fun u b hb => Nat.ne_of_lt (h.obLt hb).choose_spec.2.2.2
 have hrz : RepC H μ (z.map (Go.Ax.subR d)) vs.toList := hr.subR d fun i hi => h.dom _ (hf _ (by simp only [newNs, List.mem_append, List.mem_map]; exact .inr ⟨i, hi, rfl⟩))
 have hlen := hrz.length
 have hownno : ∀ (j : Nat) sz xs b' off n c, (z.map (Go.Ax.subR d))[j]? = some (.own sz xs) → w'.cell? ⟨w.heap.size, j, none⟩ = some (.slice (some ⟨b', off, none⟩) n c) → False := by
  intro j sz xs b' off n c h1 h2
  rw [List.getElem?_map] at h1
  cases hz : z[j]? with
  | none => rw [hz] at h1; simp at h1
  | some y =>
   rw [hz] at h1
   simp only [Option.map_some, Option.some.injEq, subR_own] at h1
   rw [cell?_of hblk, ← Array.getElem?_toList] at h2
   rcases hno j y _ hz h2 with h3 | h3
   ·rw [h1] at h3; simp [V.isOwn] at h3
   ·exact h3 _ _ _ rfl
 have hnold : ∀ ℓ, ¬ Holds μ st tm w' ℓ w.heap.size := by
  rintro ℓ ⟨sz, xs, off, n, c, hl⟩
  have hold : atL μ st tm w ℓ (.own sz xs) (.slice (some ⟨w.heap.size, off, none⟩) n c) := by
   cases ℓ with
   | t m => exact hl
   | o u j =>
    obtain ⟨row, cs', b', g1, g2, g3, g4⟩ := hl
    refine ⟨row, cs', b', g1, g2, g3, ?_⟩
    rw [← g4]
    have := (h.obLt (h.cellsLive g1 g2)).choose_spec.2.2.2
    exact (cell?_eq (by rw [hh, Array.getElem?_push]; simp [Nat.ne_of_lt this]) j).symm
  obtain ⟨⟨vs2, ty2, g1, _⟩, _⟩ := h.own ℓ _ _ _ _ _ _ hold
  have := (Array.getElem?_eq_some_iff.1 g1).1
  simp at this
 have h1 := h0.addOb (o := .loc d) (by simp) ho (x := .cells false (z.map (Go.Ax.subR d))) rfl (b := w.heap.size)
  ⟨vs, ty, hblk, by rw [List.take_of_length_le (by omega)]; exact hrz.mono (Le.refl _) hle, by simp⟩
  (fun u hu => hob u _ hu rfl) hHn (fun hF => absurd (h.Flt.1 _ hF) (by simp)) hnold
  (fun row cs j sz xs b' off n c e1 e2 e3 => by
   simp only [Ob.cells.injEq] at e1
   obtain ⟨rfl, rfl⟩ := e1
   exact (hownno j sz xs b' off n c e2 e3).elim)
  (fun j j' b' h1 h2 => by
   obtain ⟨row, cs, sz, xs, off, n, c, e1, e2, e3⟩ := h1
   simp only [Ob.cells.injEq] at e1
   obtain ⟨rfl, rfl⟩ := e1
   exact (hownno j sz xs b' off n c e2 e3).elim)
 have h2 : ∀ (l : List Nat) (st1 : St), Rel H (updO μ (.loc d) (some w.heap.size)) F st1 tm w' → (∀ i ∈ l, st1.ob (.sub d i) = none ∨ st1.ob (.sub d i) = some (.cells true [])) →
   Rel H (updO μ (.loc d) (some w.heap.size)) F (st1.app (l.map fun i => Wr.o (.sub d i) (.cells true []))) tm w' := by
  intro l
  induction l with
  | nil => intro st1 hr1 _; exact hr1
  | cons i l ih =>
   intro st1 hr1 hl
   simp only [List.map_cons, St.app]
   refine ih _ ?_ ?_
   ·rcases hl i (by simp) with h3 | h3
    ·exact hr1.addNil (by simp) h3
    ·refine hr1.congr (fun _ => rfl) fun u => ?_
     rw [St.ob_putO]
     split
     ·rename_i e; rw [← e, h3]
     ·rfl
   ·intro k hk
    rw [St.ob_putO]
    split
    ·exact .inr rfl
    ·exact hl k (by simp [hk])
 have h3 := h2 (subsOf z) _ h1 (fun i hi => .inl (by
  rw [St.ob_putO, if_neg (by simp)]
  exact hf _ (by simp only [newNs, List.cons_append, List.mem_cons, List.mem_append, List.mem_map]; exact .inr (.inl ⟨i, hi, rfl⟩))))
 simp only [newObW, List.cons_append, St.app, St.app_append]
 exact h3.put (.two _ _ (.one _ _ (.ref _ _ _ (by simp [updO])))) (by simp)

theorem good_alloc (hT : TabOk P T) (hr : Rel H μ F st tm w) (hρ : Env ρ tm) {o : Oper} {e : TypeId} (ho : o.op = .alloc e) {l : List Wr}
  (h : (opS T M o).run st = some (.ws l)) : Good P H μ F tm w o.dst (st.app l) (execOp ρ o) := by
 unfold opS at h
 rw [ho] at h
 dsimp only at h
 split at h
 ·rename_i d hd
  replace h := rd_bind _ _ _ h
  obtain ⟨ti, hti, h⟩ := h
  have hti := hT _ _ (rd_rOpt hti)
  replace h := rd_bind _ _ _ h
  obtain ⟨_, hf, h⟩ := h
  have := rd_pure h
  injection this with this
  subst this
  obtain ⟨i, z, g1, g2, g3, g4, g5, g6⟩ := hti.info
  have hn := hr.newOb (w' := { w with heap := w.heap.push (.cells z.cells e) }) (fresh_run hf) (zcs_rep g4) (fun j x v hx hv => zcs_own g4 j x v hx hv) rfl
  refine ⟨H, _, _, _, _, ?_, .inl rfl, by rw [hd]; exact hn, ?_⟩
  rotate_left
  ·exact Ext.push F _ rfl ⟨rfl, rfl, rfl⟩ (Le.refl _) (fun _ _ _ => rfl)
  simp only [execOp, ho, Instr.alloc, Sem.run_bind, runZero g1 g3, Result.andThen_ok, newVar, newRow, run_newObj, Sem.run_pure]
 ·simp [Rd.run] at h
theorem weak_scells_own {v : V} {j : Nat} {y : V} (hy : v.weak.scells[j]? = some y) : y.isOwn = false := by
 have hw : v.weak.isOwn = false := weak_not_own v
 have hmem := List.mem_of_getElem? hy
 cases hq : v.weak with
 | agg cs =>
  rw [hq] at hmem
  simp only [V.scells, List.mem_map] at hmem
  obtain ⟨q, _, rfl⟩ := hmem
  cases q <;> rfl
 | _ => rw [hq] at hmem hw; simp [V.scells] at hmem; subst hmem; exact hw
theorem boxZ_rep {H μ} : ∀ {zs cs : List V} {vs : List Value}, (∀ c ∈ cs, c.isOwn = false) → RepC H μ cs vs → RepC H μ (boxZ zs cs) vs ∧ ∀ (j : Nat) y u, (boxZ zs cs)[j]? = some y → vs[j]? = some u → y.isOwn = false ∨ ∀ a n c, u ≠ .slice (some a) n c
 | z :: zs, c :: cs, v :: vs, hno, h => by
  cases h with
  | cons _ _ _ _ h1 hv h hs =>
   obtain ⟨i1, i2⟩ := boxZ_rep (zs := zs) (fun c hc => hno c (by simp [hc])) hs
   have hd : (fixZ2 z c).isCell = true ∧ Rep1 H μ (fixZ2 z c) v ∧ ((fixZ2 z c).isOwn = false ∨ ∀ a n c, v ≠ .slice (some a) n c) := by
    have same : fixZ2 z c = c → (fixZ2 z c).isCell = true ∧ Rep1 H μ (fixZ2 z c) v ∧ ((fixZ2 z c).isOwn = false ∨ ∀ a n c, v ≠ .slice (some a) n c) := fun e => by
     rw [e]; exact ⟨h1, h, .inl (hno c (by simp))⟩
    cases z with
    | own k l =>
     cases l with
     | nil =>
      cases c with
      | nils =>
       have hvn : v = .slice none 0 0 := by cases h with
        | nils => rfl
        | data _ _ hd => cases hd
       subst hvn
       exact ⟨rfl, .own0 k, .inr fun a n c e => by cases e⟩
      | _ => exact same rfl
     | cons y l => exact same rfl
    | _ => exact same rfl
   refine ⟨.cons _ _ _ _ hd.1 hv hd.2.1 i1, fun j y u hy hu => ?_⟩
   cases j with
   | zero => simp [boxZ] at hy hu; subst hy; subst hu; exact hd.2.2
   | succ j => exact i2 j y u (by simpa [boxZ] using hy) (by simpa using hu)
 | [], cs, vs, hno, h => ⟨by simpa [boxZ] using h, fun j y u hy _ => .inl (hno y (by simp only [boxZ] at hy; exact List.mem_of_getElem? hy))⟩
 | z :: zs, [], vs, hno, h => ⟨by simpa [boxZ] using h, fun j y u hy _ => by simp [boxZ] at hy⟩
 | z :: zs, c :: cs, [], hno, h => by cases h
theorem good_box (hT : TabOk P T) (hr : Rel H μ F st tm w) (hρ : Env ρ tm) {o : Oper} {e : TypeId} {x : Operand} (ho : o.op = .box e x) {l : List Wr}
  (h : (opS T M o).run st = some (.ws l)) : Good P H μ F tm w o.dst (st.app l) (execOp ρ o) := by
 unfold opS at h
 rw [ho] at h
 dsimp only at h
 split at h
 ·rename_i d hd
  replace h := rd_bind _ _ _ h
  obtain ⟨ti, hti, h⟩ := h
  have hti := hT _ _ (rd_rOpt hti)
  replace h := rd_bind _ _ _ h
  obtain ⟨v, hv, h⟩ := h
  have hrv := ev_rep hr hρ hv
  replace h := rd_bind _ _ _ h
  obtain ⟨_, hf, h⟩ := h
  split at h
  ·rename_i hc
   have := rd_pure h
   injection this with this
   subst this
   have hst : v.weak.storable = true := by
    have := hc.2
    cases v <;> simp_all [V.weak, V.storable]
   have hsc := hrv.weak.scells hst
   obtain ⟨hsc2, how⟩ := boxZ_rep (zs := ti.zero) (fun c hc => by obtain ⟨j, hj⟩ := List.mem_iff_getElem?.1 hc; exact weak_scells_own hj) hsc
   have hn := hr.newOb (w' := { w with heap := w.heap.push (.cells (ρ x).cells e) }) (fresh_run hf) hsc2 how rfl
   refine ⟨H, _, _, _, _, ?_, .inl rfl, by rw [hd]; exact hn, ?_⟩
   rotate_left
   ·exact Ext.push F _ rfl ⟨rfl, rfl, rfl⟩ (Le.refl _) (fun _ _ _ => rfl)
   simp only [execOp, ho, Instr.box, Sem.run_bind, Result.andThen_ok, newVar, newRow, run_newObj, Sem.run_pure]
  ·simp [Rd.run] at h
 ·simp [Rd.run] at h
end
end Go.Ax
