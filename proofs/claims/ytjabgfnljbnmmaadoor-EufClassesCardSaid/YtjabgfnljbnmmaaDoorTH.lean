/- A part of the proof of a law of this seat: no condition. -/
import Derived.Test.YtjabgfnljbnmmaaDoorE10
import Derived.Test.YtjabgfnljbnmmaaDoorE15
import Derived.Test.YtjabgfnljbnmmaaDoorE18
import Derived.Test.YtjabgfnljbnmmaaDoorE19
set_option linter.unusedSimpArgs false
set_option linter.unusedVariables false
namespace Go.Proofs.YtjabgfnljbnmmaaDoor
open Go.Ax
theorem nth_set_self {α : Type} [Inhabited α] {l : List α} {i : Nat} {x : α} (h : i < l.length) : nth (l.set i x) i = x := by simp [nth, h]
theorem nth_set_ne {α : Type} [Inhabited α] {l : List α} {i j : Nat} {x : α} (h : i ≠ j) : nth (l.set i x) j = nth l j := by simp [nth, h]
theorem nth_app {α : Type} [Inhabited α] {l m : List α} {i : Nat} (h : i < l.length) : nth (l ++ m) i = nth l i := by simp [nth, List.getElem?_append_left h]
theorem nth_last {α : Type} [Inhabited α] {l : List α} {x : α} : nth (l ++ [x]) l.length = x := by simp [nth]
theorem nth_lastE {α : Type} [Inhabited α] {l : List α} {x : α} {n : Nat} (h : l.length = n) : nth (l ++ [x]) n = x := by subst h; exact nth_last
theorem nth_out {α : Type} [Inhabited α] {l : List α} {i : Nat} (h : l.length ≤ i) : nth l i = default := by simp [nth, List.getElem?_eq_none h]
/-- From v on the edges end at e. -/
inductive En (D : List Ed) : Nat → Nat → Nat → Prop
 | stop {v} (h : v < D.length) (hs : (nth D v).some = false) : En D v v 0
 | step {v e k} (h : v < D.length) (hs : (nth D v).some = true) (hr : En D (nth D v).to e k) : En D v e (k + 1)
theorem En.lt {D v e k} (h : En D v e k) : v < D.length := by cases h <;> assumption
theorem En.uniq {D v e k e' k'} (h : En D v e k) (h' : En D v e' k') : e = e' ∧ k = k' := by
 induction h generalizing k' with
 | stop h hs =>
  cases h' with
  | stop => exact ⟨rfl, rfl⟩
  | step _ hs' _ => rw [hs] at hs'; cases hs'
 | step h hs hr ih =>
  cases h' with
  | stop _ hs' => rw [hs] at hs'; cases hs'
  | step _ _ hr' => obtain ⟨a, b⟩ := ih hr'; exact ⟨a, by omega⟩
theorem En.fin {D v e k} (h : En D v e k) : e < D.length ∧ (nth D e).some = false := by
 induction h with
 | stop h hs => exact ⟨h, hs⟩
 | step _ _ _ ih => exact ih
theorem En.set {D v e k a last} (h : En D v e k) : En (D.set a last) v e k ∨ ((∀ e' k', En (D.set a last) a e' k' → ∃ k'', En (D.set a last) v e' k'') ∧ ∃ j, j ≤ k ∧ En D a e j) := by
 induction h with
 | @stop v h hs =>
  by_cases ha : v = a
  ·subst ha; exact .inr ⟨fun e' k' h' => ⟨_, h'⟩, 0, Nat.le_refl _, .stop h hs⟩
  ·exact .inl (.stop (by simpa using h) (by rw [nth_set_ne (Ne.symm ha)]; exact hs))
 | @step v e k h hs hr ih =>
  by_cases ha : v = a
  ·subst ha; exact .inr ⟨fun e' k' h' => ⟨_, h'⟩, k + 1, Nat.le_refl _, .step h hs hr⟩
  ·have hn : nth (D.set a last) v = nth D v := nth_set_ne (Ne.symm ha)
   rcases ih with ih | ⟨ih1, j, hj, ih2⟩
   ·exact .inl (.step (by simpa using h) (by rw [hn]; exact hs) (by rw [hn]; exact ih))
   ·refine .inr ⟨fun e' k' h' => ?_, j, by omega, ih2⟩
    obtain ⟨k'', h''⟩ := ih1 e' k' h'
    exact ⟨k'' + 1, .step (by simpa using h) (by rw [hn]; exact hs) (by rw [hn]; exact h'')⟩
theorem set_end {D : List Ed} {last : Ed} {a ea k : Nat} (ha : En D a ea k) (hl : last.some = true → ∃ e0 k0, En D last.to e0 k0 ∧ e0 ≠ ea) :
  ∃ ez kz, En (D.set a last) a ez kz ∧ (last.some = false → ez = a) ∧ (last.some = true → ∃ k0, En D last.to ez k0) := by
 have hn : nth (D.set a last) a = last := nth_set_self ha.lt
 cases hs : last.some with
 | false => exact ⟨a, 0, .stop (by simpa using ha.lt) (by rw [hn]; exact hs), fun _ => rfl, fun h => by cases h⟩
 | true =>
  obtain ⟨e0, k0, h1, h2⟩ := hl hs
  rcases h1.set (a := a) (last := last) with h | ⟨_, j, _, h⟩
  ·exact ⟨e0, k0 + 1, .step (by simpa using ha.lt) (by rw [hn]; exact hs) (by rw [hn]; exact h), fun h => (by cases h), fun _ => ⟨k0, h1⟩⟩
  ·exact absurd (h.uniq ha).1 h2
def Ends (D : List Ed) : Prop := ∀ v, v < D.length → ∃ e k, En D v e k
/-- The edges from a node on are turned: all that ended where it ended end at it now. -/
theorem turn_ex : ∀ (k : Nat) (D : List Ed) (last : Ed) (a ea : Nat), Ends D → En D a ea k → (last.some = true → ∃ e0 k0, En D last.to e0 k0 ∧ e0 ≠ ea) →
  ∃ D' n, Turn D last a D' n ∧ Ends D' ∧ (∀ v e j, En D v e j → e ≠ ea → ∃ j', En D' v e j') ∧
   (∀ v j, En D v ea j → ∀ e0, (last.some = false → e0 = a) → (last.some = true → ∃ k0, En D last.to e0 k0) → ∃ j', En D' v e0 j')
 | 0, D, last, a, ea, hE, ha, hl => by
  obtain ⟨ez, kz, hz, hz1, hz2⟩ := set_end ha hl
  cases ha with
  | stop h hs =>
   refine ⟨D.set a last, 0, .stop h hs, fun v hv => ?_, fun v e j hv he => ?_, fun v j hv e0 h1 h2 => ?_⟩
   ·obtain ⟨e, k, hk⟩ := hE v (by simpa using hv)
    rcases hk.set (a := a) (last := last) with h | ⟨h, _⟩
    ·exact ⟨_, _, h⟩
    ·obtain ⟨k'', h''⟩ := h _ _ hz; exact ⟨_, _, h''⟩
   ·rcases hv.set (a := a) (last := last) with h' | ⟨_, j', _, h'⟩
    ·exact ⟨_, h'⟩
    ·exact absurd (h'.uniq (.stop h hs)).1 he
   ·have e1 : ez = e0 := by
     cases hb : last.some with
     | false => rw [hz1 hb, h1 hb]
     | true => obtain ⟨_, x⟩ := hz2 hb; obtain ⟨_, y⟩ := h2 hb; exact (x.uniq y).1
    subst e1
    rcases hv.set (a := a) (last := last) with h' | ⟨h', _⟩
    ·have := h'.fin.2
     cases hz with
     | stop _ _ => exact ⟨_, h'⟩
     | step _ hs' _ => rw [hs'] at this; cases this
    ·exact h' _ _ hz
 | k + 1, D, last, a, ea, hE, ha, hl => by
  obtain ⟨ez, kz, hz, hz1, hz2⟩ := set_end ha hl
  have ha' := ha
  cases ha with
  | step h hs hr =>
   have hb : En (D.set a last) (nth D a).to ea k := by
    rcases hr.set (a := a) (last := last) with h' | ⟨_, j, hj, h'⟩
    ·exact h'
    ·have := (h'.uniq ha').2; omega
   have hE2 : Ends (D.set a last) := fun v hv => by
    obtain ⟨e, k, hk⟩ := hE v (by simpa using hv)
    rcases hk.set (a := a) (last := last) with h | ⟨h, _⟩
    ·exact ⟨_, _, h⟩
    ·obtain ⟨k'', h''⟩ := h _ _ hz; exact ⟨_, _, h''⟩
   have hez : ez ≠ ea := by
    cases hb : last.some with
    | false => rw [hz1 hb]; intro e; have := hr.fin.2; rw [← e, hs] at this; cases this
    | true =>
     obtain ⟨e0, k0, x, y⟩ := hl hb
     obtain ⟨_, z⟩ := hz2 hb
     rw [(z.uniq x).1]; exact y
   obtain ⟨D', n, ht, hE', h1, h2⟩ := turn_ex k (D.set a last) ⟨a, (nth D a).why, true⟩ (nth D a).to ea hE2 hb (fun _ => ⟨ez, kz, hz, hez⟩)
   refine ⟨D', n + 1, .step h hs ht, hE', fun v e j hv he => ?_, fun v j hv e0 g1 g2 => ?_⟩
   ·rcases hv.set (a := a) (last := last) with h' | ⟨_, j', _, h'⟩
    ·exact h1 _ _ _ h' he
    ·exact absurd (h'.uniq ha').1 he
   ·have e1 : ez = e0 := by
     cases hb : last.some with
     | false => rw [hz1 hb, g1 hb]
     | true => obtain ⟨_, x⟩ := hz2 hb; obtain ⟨_, y⟩ := g2 hb; exact (x.uniq y).1
    subst e1
    rcases hv.set (a := a) (last := last) with h' | ⟨h', _⟩
    ·exact h2 _ _ h' ez (fun h => by cases h) (fun _ => ⟨_, hz⟩)
    ·obtain ⟨_, h''⟩ := h' _ _ hz
     exact h1 _ _ _ h'' hez
/-- Two nodes are linked. -/
def Lk (D : List Ed) (u v : Nat) (w : Int) : Prop := (u < D.length ∧ nth D u = ⟨v, w, true⟩) ∨ (v < D.length ∧ nth D v = ⟨u, w, true⟩)
def E1 (D : List Ed) (u v : Nat) (w : Int) : Prop := u < D.length ∧ nth D u = ⟨v, w, true⟩
theorem E1.set {D : List Ed} {a : Nat} {last : Ed} (h : a < D.length) {u v w} : E1 (D.set a last) u v w ↔ (u ≠ a ∧ E1 D u v w) ∨ (u = a ∧ last = ⟨v, w, true⟩) := by
 unfold E1
 by_cases hu : u = a
 ·subst hu; simp [nth_set_self h, h]
 ·simp [hu, nth_set_ne (Ne.symm hu)]
theorem Turn.lk {D last a D' k} (h : Turn D last a D' k) : ∀ u v w, (E1 D' u v w ∨ E1 D' v u w) ↔ (E1 D u v w ∨ E1 D v u w) ∨ (u = a ∧ last = ⟨v, w, true⟩) ∨ (v = a ∧ last = ⟨u, w, true⟩) := by
 induction h with
 | @stop D last a h hs =>
  intro u v w
  rw [E1.set h, E1.set h]
  have hx : ∀ z, ¬ E1 D a z w := fun z hz => by rw [hz.2] at hs; cases hs
  by_cases hu : u = a
  ·subst hu
   by_cases hv : v = u
   ·subst hv; simp [hx]
   ·simp [hx, hv]; exact Or.comm
  ·by_cases hv : v = a
   ·subst hv; simp [hx, hu]
   ·simp [hu, hv]
 | @step D last a D' k h hs hr ih =>
  intro u v w
  rw [ih u v w, E1.set h, E1.set h]
  have ha : nth D a = ⟨(nth D a).to, (nth D a).why, true⟩ := by rw [← hs]
  have hx : ∀ z, E1 D a z w ↔ z = (nth D a).to ∧ (nth D a).why = w := fun z => by
   unfold E1
   constructor
   ·intro hz; rw [hz.2]; exact ⟨rfl, rfl⟩
   ·rintro ⟨rfl, rfl⟩; exact ⟨h, ha⟩
  by_cases hu : u = a
  ·subst hu
   by_cases hv : v = u
   ·subst hv; simp [hx]; grind
   ·simp [hx, hv]; grind
  ·by_cases hv : v = a
   ·subst hv; simp [hx, hu]; grind
   ·simp [hu, hv]; grind
end Go.Proofs.YtjabgfnljbnmmaaDoor
set_option linter.unusedSimpArgs false
set_option linter.unusedVariables false
namespace Go.Proofs.YtjabgfnljbnmmaaDoor
open Go.Ax
/-! ### A term as it is written tells the term -/
theorem itoa_nat (u : Nat) : itoa u = Lib.decDigits u := Lib.itoa_nonneg u
def dv (l : List UInt8) : Nat := l.foldl (fun a b => a * 10 + (b.toNat - 48)) 0
theorem dec_dig : ∀ (n u : Nat), u < n → (∀ b ∈ Lib.decDigits u, 48 ≤ b.toNat ∧ b.toNat < 58) ∧ dv (Lib.decDigits u) = u
 | 0, u, h => absurd h (Nat.not_lt_zero _)
 | n + 1, u, h => by
  rw [Lib.decDigits]
  split
  ·rename_i h10
   have e : (UInt8.ofNat (48 + u)).toNat = 48 + u := by simp [UInt8.toNat_ofNat']; omega
   constructor
   ·intro b hb; rw [List.mem_singleton] at hb; subst hb; rw [e]; omega
   ·unfold dv
    rw [List.foldl_cons, List.foldl_nil, e]; omega
  ·rename_i h10
   obtain ⟨h1, h2⟩ := dec_dig n (u / 10) (by omega)
   have e : (UInt8.ofNat (48 + u % 10)).toNat = 48 + u % 10 := by simp [UInt8.toNat_ofNat']; omega
   constructor
   ·intro b hb
    rcases List.mem_append.1 hb with hb | hb
    ·exact h1 b hb
    ·rw [List.mem_singleton] at hb; subst hb; rw [e]; omega
   ·unfold dv at *
    rw [List.foldl_append, h2]
    rw [List.foldl_cons, List.foldl_nil, e]
    omega
theorem itoa_dig {u : Nat} {b : UInt8} (h : b ∈ itoa u) : 48 ≤ b.toNat ∧ b.toNat < 58 := (dec_dig (u + 1) u (by omega)).1 b (by rw [← itoa_nat]; exact h)
theorem itoa_inj {u v : Nat} (h : itoa u = itoa v) : u = v := by
 have h1 := (dec_dig (u + 1) u (by omega)).2
 have h2 := (dec_dig (v + 1) v (by omega)).2
 rw [← itoa_nat] at h1 h2
 rw [← h1, ← h2, h]
/-- A text of digits ahead of a sign that is none. -/
theorem dig_split {a b : List UInt8} {x y : List UInt8} (ha : ∀ d ∈ a, 48 ≤ d.toNat ∧ d.toNat < 58) (hb : ∀ d ∈ b, 48 ≤ d.toNat ∧ d.toNat < 58) (hx : ∀ c, x.head? = some c → ¬ (48 ≤ c.toNat ∧ c.toNat < 58)) (hy : ∀ c, y.head? = some c → ¬ (48 ≤ c.toNat ∧ c.toNat < 58))
  (h : a ++ x = b ++ y) : a = b ∧ x = y := by
 induction a generalizing b with
 | nil =>
  cases b with
  | nil => exact ⟨rfl, by simpa using h⟩
  | cons d b => simp at h; exact absurd (hb d (by simp)) (hx d (by rw [h]; rfl))
 | cons c a ih =>
  cases b with
  | nil => simp at h; exact absurd (ha c (by simp)) (hy c (by rw [← h]; rfl))
  | cons d b =>
   simp only [List.cons_append, List.cons.injEq] at h
   obtain ⟨e1, e2⟩ := ih (fun d hd => ha d (by simp [hd])) (fun d hd => hb d (by simp [hd])) h.2
   exact ⟨by rw [h.1, e1], e2⟩
abbrev tailL (xs : List Nat) (r : List UInt8) : List UInt8 := (xs.flatMap fun a => 44 :: itoa a) ++ r
theorem tail_head {xs : List Nat} {r : List UInt8} (hr : r = [] ∨ ∃ n, r = 33 :: itoa n) : ∀ c, (tailL xs r).head? = some c → ¬ (48 ≤ c.toNat ∧ c.toNat < 58) := by
 intro c hc
 cases xs with
 | nil =>
  rcases hr with rfl | ⟨n, rfl⟩
  ·simp [tailL] at hc
  ·simp [tailL] at hc; subst hc; decide
 | cons x xs => simp [tailL] at hc; subst hc; decide
theorem tail_inj {xs ys : List Nat} {r s : List UInt8} (hr : r = [] ∨ ∃ n, r = 33 :: itoa n) (hs : s = [] ∨ ∃ n, s = 33 :: itoa n) (h : tailL xs r = tailL ys s) : xs = ys ∧ r = s := by
 induction xs generalizing ys with
 | nil =>
  cases ys with
  | nil => exact ⟨rfl, by simpa [tailL] using h⟩
  | cons y ys =>
   rcases hr with rfl | ⟨n, rfl⟩
   ·simp [tailL] at h
   ·simp [tailL] at h
 | cons x xs ih =>
  cases ys with
  | nil =>
   rcases hs with rfl | ⟨n, rfl⟩
   ·simp [tailL] at h
   ·simp [tailL] at h
  | cons y ys =>
   have e : itoa x ++ tailL xs r = itoa y ++ tailL ys s := by simpa [tailL, List.append_assoc] using h
   obtain ⟨e1, e2⟩ := dig_split (fun d hd => itoa_dig hd) (fun d hd => itoa_dig hd) (tail_head hr) (tail_head hs) e
   obtain ⟨e3, e4⟩ := ih e2
   exact ⟨by rw [itoa_inj e1, e3], e4⟩
theorem key_inj {f g : List UInt8} {xs ys : List Nat} {r s : List UInt8} (hr : r = [] ∨ ∃ n, r = 33 :: itoa n) (hs : s = [] ∨ ∃ n, s = 33 :: itoa n) (h : keyL f xs ++ r = keyL g ys ++ s) : f = g ∧ xs = ys ∧ r = s := by
 have h58 : ∀ z : List UInt8, ∀ c, (58 :: z).head? = some c → ¬ (48 ≤ c.toNat ∧ c.toNat < 58) := by
  intro z c hc; simp at hc; subst hc; decide
 have e : itoa f.length ++ 58 :: (f ++ tailL xs r) = itoa g.length ++ 58 :: (g ++ tailL ys s) := by simpa [keyL, tailL, List.append_assoc] using h
 obtain ⟨e1, e2⟩ := dig_split (fun d hd => itoa_dig hd) (fun d hd => itoa_dig hd) (h58 _) (h58 _) e
 have e3 := itoa_inj e1
 obtain ⟨e4, e5⟩ := List.append_inj (List.cons.inj e2).2 e3
 obtain ⟨e6, e7⟩ := tail_inj hr hs e5
 exact ⟨e4, e6, e7⟩
theorem keyL_inj {f g : List UInt8} {xs ys : List Nat} (h : keyL f xs = keyL g ys) : f = g ∧ xs = ys := by
 have := key_inj (r := []) (s := []) (.inl rfl) (.inl rfl) (by simpa using h)
 exact ⟨this.1, this.2.1⟩
/-- Two terms of one signature. -/
theorem sig_inj {x y : Nd} {n m : Nat} {ρ τ : Nat → Nat} (h : sigL x n ρ = sigL y m τ) : x.f = y.f ∧ x.a.map ρ = y.a.map τ ∧ (x.a = [] → n = m) := by
 unfold sigL at h
 split at h
 ·rename_i hx
  split at h
  ·rename_i hy
   obtain ⟨a, b, c⟩ := key_inj (.inr ⟨_, rfl⟩) (.inr ⟨_, rfl⟩) h
   exact ⟨a, by rw [hx, hy]; rfl, fun _ => itoa_inj (List.cons.inj c).2⟩
  ·rename_i hy
   obtain ⟨a, b, c⟩ := key_inj (s := []) (.inr ⟨_, rfl⟩) (.inl rfl) (by simpa using h)
   cases c
 ·rename_i hx
  split at h
  ·rename_i hy
   obtain ⟨a, b, c⟩ := key_inj (r := []) (.inl rfl) (.inr ⟨_, rfl⟩) (by simpa using h)
   cases c
  ·obtain ⟨a, b⟩ := keyL_inj h
   exact ⟨a, b, fun e => absurd e hx⟩
/-! ### Looking up -/
theorem lk_app {S T : List (List UInt8 × Nat)} {s : List UInt8} {o : Nat} (h : lk S s = some o) : lk (S ++ T) s = some o := by
 unfold lk at *
 rw [List.find?_append]
 cases hf : S.find? (fun p => decide (p.1 = s)) with
 | none => rw [hf] at h; cases h
 | some q => rw [hf] at h; simpa using h
theorem lk_new {S : List (List UInt8 × Nat)} {s : List UInt8} {o : Nat} (h : lk S s = none) : lk (S ++ [(s, o)]) s = some o := by
 unfold lk at *
 rw [List.find?_append]
 cases hf : S.find? (fun p => decide (p.1 = s)) with
 | none => simp
 | some q => rw [hf] at h; cases h
theorem lk_mem2 {S : List (List UInt8 × Nat)} {s : List UInt8} {v : Nat} (h : lk S s = some v) : (s, v) ∈ S := by
 unfold lk at h
 cases hf : S.find? (fun p => decide (p.1 = s)) with
 | none => rw [hf] at h; cases h
 | some q =>
  rw [hf] at h
  have h1 := List.find?_some hf
  have h2 := List.mem_of_find?_eq_some hf
  simp at h h1
  rw [← h, ← h1]; exact h2
theorem mv_spec {N : List Nd} {ρ : Nat → Nat} : ∀ (us : List Nat) (p0 : SO), (∀ s o, lk p0.1 s = some o → lk (us.foldl (mvStep N ρ) p0).1 s = some o) ∧
  (∀ q ∈ (us.foldl (mvStep N ρ) p0).1, q ∈ p0.1 ∨ (q.2 ∈ us ∧ q.1 = sigL (nth N q.2) q.2 ρ)) ∧
  (∀ t ∈ p0.2, t ∈ (us.foldl (mvStep N ρ) p0).2) ∧
  (∀ t ∈ (us.foldl (mvStep N ρ) p0).2, t ∈ p0.2 ∨ (t.a ∈ us ∧ t.b ≠ t.a ∧ t.why = -1 ∧ lk (us.foldl (mvStep N ρ) p0).1 (sigL (nth N t.a) t.a ρ) = some t.b)) ∧
  (∀ u ∈ us, ∃ o, lk (us.foldl (mvStep N ρ) p0).1 (sigL (nth N u) u ρ) = some o ∧ (o = u ∨ ρ o = ρ u ∨ ⟨u, o, -1⟩ ∈ (us.foldl (mvStep N ρ) p0).2))
 | [], p0 => ⟨fun _ _ h => h, fun _ h => .inl h, fun _ h => h, fun _ h => .inl h, fun _ h => by cases h⟩
 | u :: us, p0 => by
  have st : (∀ s o, lk p0.1 s = some o → lk (mvStep N ρ p0 u).1 s = some o) ∧ (∀ q ∈ (mvStep N ρ p0 u).1, q ∈ p0.1 ∨ (q.2 = u ∧ q.1 = sigL (nth N q.2) q.2 ρ)) ∧ (∀ t ∈ p0.2, t ∈ (mvStep N ρ p0 u).2) ∧
    (∀ t ∈ (mvStep N ρ p0 u).2, t ∈ p0.2 ∨ (t.a = u ∧ t.b ≠ t.a ∧ t.why = -1 ∧ lk (mvStep N ρ p0 u).1 (sigL (nth N t.a) t.a ρ) = some t.b)) ∧
    (∃ o, lk (mvStep N ρ p0 u).1 (sigL (nth N u) u ρ) = some o ∧ (o = u ∨ ρ o = ρ u ∨ ⟨u, o, -1⟩ ∈ (mvStep N ρ p0 u).2)) := by
   unfold mvStep
   split
   ·rename_i o ho
    split
    ·rename_i e
     exact ⟨fun _ _ h => h, fun _ h => .inl h, fun _ h => h, fun _ h => .inl h, o, ho, .inl e⟩
    ·rename_i hne
     refine ⟨fun _ _ h => h, fun _ h => .inl h, ?_, ?_, o, ho, ?_⟩
     ·intro t ht; simp only; split
      ·exact ht
      ·exact List.mem_append_left _ ht
     ·intro t ht
      simp only at ht
      split at ht
      ·exact .inl ht
      ·rcases List.mem_append.1 ht with ht | ht
       ·exact .inl ht
       ·rw [List.mem_singleton] at ht; subst ht; exact .inr ⟨rfl, hne, rfl, ho⟩
     ·simp only
      split
      ·rename_i e; exact .inr (.inl e)
      ·exact .inr (.inr (by simp))
   ·rename_i ho
    refine ⟨fun _ _ h => lk_app h, ?_, fun _ h => h, fun _ h => .inl h, u, lk_new ho, .inl rfl⟩
    intro q hq
    rcases List.mem_append.1 hq with hq | hq
    ·exact .inl hq
    ·rw [List.mem_singleton] at hq; subst hq; exact .inr ⟨rfl, rfl⟩
  obtain ⟨a1, a2, a3, a4, o, a5, a6⟩ := st
  obtain ⟨b1, b2, b3, b4, b5⟩ := mv_spec us (mvStep N ρ p0 u)
  refine ⟨fun s o h => b1 s o (a1 s o h), fun q hq => ?_, fun t ht => b3 t (a3 t ht), fun t ht => ?_, fun v hv => ?_⟩
  ·rcases b2 q hq with h | h
   ·rcases a2 q h with h | h
    ·exact .inl h
    ·exact .inr ⟨by rw [h.1]; simp, h.2⟩
   ·exact .inr ⟨by simp [h.1], h.2⟩
  ·rcases b4 t ht with h | h
   ·rcases a4 t h with h | ⟨h1, h2, h3, h4⟩
    ·exact .inl h
    ·exact .inr ⟨by rw [h1]; simp, h2, h3, b1 _ _ h4⟩
   ·exact .inr ⟨by simp [h.1], h.2⟩
  ·rcases List.mem_cons.1 hv with e | e
   ·subst e; refine ⟨o, b1 _ _ a5, ?_⟩
    rcases a6 with h | h | h
    ·exact .inl h
    ·exact .inr (.inl h)
    ·exact .inr (.inr (b3 _ h))
   ·exact b5 v e
end Go.Proofs.YtjabgfnljbnmmaaDoor
set_option linter.unusedSimpArgs false
set_option linter.unusedVariables false
namespace Go.Proofs.YtjabgfnljbnmmaaDoor
open Go.Ax
/-- The closure of a relation. -/
inductive Cn (R : Nat → Nat → Prop) : Nat → Nat → Prop
 | refl {a} : Cn R a a
 | base {a b} (h : R a b) : Cn R a b
 | symm {a b} (h : Cn R a b) : Cn R b a
 | trans {a b c} (h1 : Cn R a b) (h2 : Cn R b c) : Cn R a c
theorem Cn.mono {R S : Nat → Nat → Prop} (h : ∀ a b, R a b → Cn S a b) {a b} (hc : Cn R a b) : Cn S a b := by
 induction hc with
 | refl => exact .refl
 | base h' => exact h _ _ h'
 | symm _ ih => exact .symm ih
 | trans _ _ i1 i2 => exact .trans i1 i2
/-- Same now, or to be made so. -/
def Q (ρ : Nat → Nat) (T : List Pr) : Nat → Nat → Prop := Cn fun a b => ρ a = ρ b ∨ ∃ p ∈ T, p.a = a ∧ p.b = b
/-- Joined so far. -/
def Hc (H : List Pr) : Nat → Nat → Prop := Cn fun a b => ∃ p ∈ H, p.a = a ∧ p.b = b
theorem Q_nil {ρ a b} (h : Q ρ [] a b) : ρ a = ρ b := by
 unfold Q at h
 induction h with
 | refl => rfl
 | base h => rcases h with h | ⟨p, hp, _⟩
             ·exact h
             ·cases hp
 | symm _ ih => exact ih.symm
 | trans _ _ i1 i2 => exact i1.trans i2
theorem Hc.app {H K a b} (h : Hc H a b) : Hc (H ++ K) a b := Cn.mono (fun _ _ ⟨p, hp, h⟩ => .base ⟨p, List.mem_append_left _ hp, h⟩) h
def Cong (N : List Nd) (R : Nat → Nat → Prop) (u v : Nat) : Prop :=
 (nth N u).f = (nth N v).f ∧ (nth N u).a.length = (nth N v).a.length ∧ (nth N u).a ≠ [] ∧ ∀ j, j < (nth N u).a.length → R (nth (nth N u).a j) (nth (nth N v).a j)
theorem Cong.mono {N R S u v} (h : Cong N R u v) (hs : ∀ a b, R a b → S a b) : Cong N S u v := ⟨h.1, h.2.1, h.2.2.1, fun j hj => hs _ _ (h.2.2.2 j hj)⟩
theorem Cong.swap {N R u v} (h : Cong N R u v) (hs : ∀ a b, R a b → R b a) : Cong N R v u := by
 obtain ⟨h1, h2, h3, h4⟩ := h
 refine ⟨h1.symm, h2.symm, ?_, fun j hj => hs _ _ (h4 j (by omega))⟩
 intro e; apply h3; apply List.eq_nil_of_length_eq_zero; rw [h2, e]; rfl
/-- Why two nodes are the same. -/
def Just (N : List Nd) (E : List (Nat × Nat)) (H : List Pr) (p : Pr) : Prop :=
 (0 ≤ p.why ∧ p.why.toNat < E.length ∧ (nth E p.why.toNat = (p.a, p.b) ∨ nth E p.why.toNat = (p.b, p.a))) ∨ (p.why < 0 ∧ Cong N (Hc H) p.a p.b)
theorem Just.app {N E H K p} (h : Just N E H p) : Just N E (H ++ K) p := by
 rcases h with h | ⟨h1, h2⟩
 ·exact .inl h
 ·exact .inr ⟨h1, h2.mono fun _ _ h => h.app⟩
theorem Just.swap {N E H a b w} (h : Just N E H ⟨a, b, w⟩) : Just N E H ⟨b, a, w⟩ := by
 rcases h with ⟨h1, h2, h3⟩ | ⟨h1, h2⟩
 ·exact .inl ⟨h1, h2, h3.symm⟩
 ·exact .inr ⟨h1, h2.swap fun _ _ h => .symm h⟩
theorem Rt.root {P a r k} (h : Rt P a r k) : r < P.length ∧ nth P r = r := by
 induction h with
 | stop h e => exact ⟨h, e⟩
 | step _ _ _ ih => exact ih
theorem Rt.set {P : List Nat} {x y v r k : Nat} (hx : nth P x = x) (hxl : x < P.length) (hy : nth P y = y) (hyl : y < P.length) (hxy : x ≠ y) (h : Rt P v r k) : ∃ k', Rt (P.set x y) v (if r = x then y else r) k' := by
 have hyy : Rt (P.set x y) y y 0 := .stop (by simpa using hyl) (by rw [nth_set_ne hxy]; exact hy)
 induction h with
 | @stop v h e =>
  by_cases hv : v = x
  ·subst hv
   rw [if_pos rfl]
   exact ⟨1, .step (by simpa using h) (by rw [nth_set_self h]; exact hxy.symm) (by rw [nth_set_self h]; exact hyy)⟩
  ·rw [if_neg hv]
   exact ⟨0, .stop (by simpa using h) (by rw [nth_set_ne (Ne.symm hv)]; exact e)⟩
 | @step v r k h e hs ih =>
  have hv : v ≠ x := fun e' => e (by rw [e']; exact hx)
  obtain ⟨k', hk⟩ := ih
  exact ⟨k' + 1, .step (by simpa using h) (by rw [nth_set_ne (Ne.symm hv)]; exact e) (by rw [nth_set_ne (Ne.symm hv)]; exact hk)⟩
theorem Rt.app {P Z : List Nat} {v r k : Nat} (h : Rt P v r k) : Rt (P ++ Z) v r k := by
 induction h with
 | stop h e => exact .stop (by simp; omega) (by rw [nth_app h]; exact e)
 | step h e _ ih => exact .step (by simp; omega) (by rw [nth_app h]; exact e) (by rw [nth_app h]; exact ih)
/-! ### Sizes -/
abbrev lens (U : List (List Nat)) : Nat := (U.map List.length).sum
theorem lens_set {U : List (List Nat)} {i : Nat} {l : List Nat} (h : i < U.length) : lens (U.set i l) + (nth U i).length = lens U + l.length := by
 induction U generalizing i with
 | nil => simp at h
 | cons u U ih =>
  cases i with
  | zero => simp [lens, nth]; omega
  | succ i =>
   have := ih (i := i) (by simpa using h)
   simp [lens, nth] at this ⊢
   omega
theorem lens_nth {U : List (List Nat)} {i : Nat} : (nth U i).length ≤ lens U := by
 by_cases h : i < U.length
 ·have := lens_set (l := []) h
  simp at this; omega
 ·rw [nth_out (by omega)]; simp [default]
theorem move_get {U : List (List Nat)} {x y : Nat} (hx : x < U.length) (hy : y < U.length) (hxy : x ≠ y) (z : Nat) : nth ((U.set y (nth U y ++ nth U x)).set x []) z = if z = x then [] else if z = y then nth U y ++ nth U x else nth U z := by
 by_cases h1 : z = x
 ·subst h1; rw [if_pos rfl, nth_set_self (by simpa using hx)]
 ·rw [if_neg h1, nth_set_ne (Ne.symm h1)]
  by_cases h2 : z = y
  ·subst h2; rw [if_pos rfl, nth_set_self hy]
  ·rw [if_neg h2, nth_set_ne (Ne.symm h2)]
theorem move_lens {U : List (List Nat)} {x y : Nat} (hx : x < U.length) (hy : y < U.length) (hxy : x ≠ y) : lens ((U.set y (nth U y ++ nth U x)).set x []) = lens U := by
 have h1 := lens_set (U := U.set y (nth U y ++ nth U x)) (l := []) (i := x) (by simpa using hx)
 have h2 := lens_set (l := nth U y ++ nth U x) hy
 rw [nth_set_ne hxy.symm] at h1
 simp only [List.length_append, List.length_nil] at h1 h2
 omega
/-! ### What holds of a graph -/
structure Inv (G : GS) (ρ : Nat → Nat) (T H : List Pr) : Prop where
 lp : G.P.length = G.N.length
 lc : G.C.length = G.N.length
 lu : G.U.length = G.N.length
 ld : G.D.length = G.N.length
 sm : G.N.length ≤ 1000
 nf : ∀ u, u < G.N.length → (nth G.N u).f.length ≤ 140737488355328 ∧ (nth G.N u).a.length ≤ 100 ∧ ∀ a ∈ (nth G.N u).a, a < u
 rt : ∀ a, a < G.N.length → ∃ k, Rt G.P a (ρ a) k
 rl : ∀ a, a < G.N.length → ρ a < G.N.length ∧ ρ (ρ a) = ρ a
 cm : ∀ r, r < G.N.length → ρ r = r → ∀ a, a ∈ nth G.C r ↔ a < G.N.length ∧ ρ a = r
 cs : lens G.C ≤ G.N.length
 um : ∀ u, u < G.N.length → ∀ a ∈ (nth G.N u).a, u ∈ nth G.U (ρ a)
 ul : ∀ z, ∀ u ∈ nth G.U z, u < G.N.length
 us : lens G.U ≤ 100 * G.N.length
 se : ∀ q ∈ G.S, q.2 < G.N.length ∧ ∃ τ : Nat → Nat, q.1 = sigL (nth G.N q.2) q.2 τ ∧ ∀ a ∈ (nth G.N q.2).a, τ a < G.N.length ∧ ρ (τ a) = ρ a
 sc : ∀ u, u < G.N.length → ∃ o, lk G.S (sigL (nth G.N u) u ρ) = some o ∧ Q ρ T o u
 eb : ∀ e ∈ G.E, e.1 < G.N.length ∧ e.2 < G.N.length ∧ Q ρ T e.1 e.2
 tj : ∀ p ∈ T, p.a < G.N.length ∧ p.b < G.N.length ∧ Just G.N G.E H p
 de : ∃ t : Nat → Nat, ∀ v, v < G.N.length → (∃ k, En G.D v (t v) k) ∧ ρ (t v) = ρ v ∧ ∀ w, w < G.N.length → ρ w = ρ v → t w = t v
 hl : ∀ p ∈ H, E1 G.D p.a p.b p.why ∨ E1 G.D p.b p.a p.why
 hb : ∀ u v w, E1 G.D u v w → ⟨u, v, w⟩ ∈ H ∨ ⟨v, u, w⟩ ∈ H
 hj : ∀ k, k < H.length → (nth H k).a < G.N.length ∧ (nth H k).b < G.N.length ∧ Just G.N G.E (H.take k) (nth H k)
 hr : ∀ a b, a < G.N.length → b < G.N.length → ρ a = ρ b → Hc H a b
theorem Q.mono {ρ ρ' : Nat → Nat} {T T' : List Pr} (h1 : ∀ a b, ρ a = ρ b → ρ' a = ρ' b) (h2 : ∀ p ∈ T, Q ρ' T' p.a p.b) {a b} (h : Q ρ T a b) : Q ρ' T' a b := by
 unfold Q at *
 refine Cn.mono (fun a b h => ?_) h
 rcases h with h | ⟨p, hp, e1, e2⟩
 ·exact .base (.inl (h1 _ _ h))
 ·rw [← e1, ← e2]; exact h2 p hp
theorem Inv.pop {G ρ p T H} (h : Inv G ρ (p :: T) H) (he : ρ p.a = ρ p.b) : Inv G ρ T H := by
 have hq : ∀ {a b}, Q ρ (p :: T) a b → Q ρ T a b := fun hq => Q.mono (fun _ _ h => h) (fun q hq => by
  rcases List.mem_cons.1 hq with e | e
  ·rw [e]; exact .base (.inl he)
  ·exact .base (.inr ⟨q, e, rfl, rfl⟩)) hq
 exact { h with
  sc := fun u hu => let ⟨o, h1, h2⟩ := h.sc u hu; ⟨o, h1, hq h2⟩
  eb := fun e he => let ⟨h1, h2, h3⟩ := h.eb e he; ⟨h1, h2, hq h3⟩
  tj := fun q hq => h.tj q (by simp [hq]) }
def mergeρ (ρ : Nat → Nat) (a b v : Nat) : Nat := if ρ v = ρ a then ρ b else ρ v
theorem sig_congr {x : Nd} {n : Nat} {ρ τ : Nat → Nat} (h : ∀ a ∈ x.a, ρ a = τ a) : sigL x n ρ = sigL x n τ := by
 unfold sigL
 split
 ·rfl
 ·congr 1; exact List.map_congr_left h
end Go.Proofs.YtjabgfnljbnmmaaDoor
set_option linter.unusedSimpArgs false
set_option linter.unusedVariables false
set_option maxHeartbeats 4000000
namespace Go.Proofs.YtjabgfnljbnmmaaDoor
open Go.Ax
/-- a's class goes into b's. -/
theorem Inv.join {G : GS} {ρ : Nat → Nat} {p : Pr} {T H : List Pr} {a b : Nat} (h : Inv G ρ (p :: T) H) (ha : a < G.N.length) (hb : b < G.N.length) (hne : ρ a ≠ ρ b)
  (hj : Just G.N G.E H ⟨a, b, p.why⟩) (hp : (p.a = a ∧ p.b = b) ∨ (p.a = b ∧ p.b = a)) :
  ∃ D1 kt, Turn G.D ed0 a D1 kt ∧
   (∀ u ∈ nth G.U (ρ a), NOk (joinG G (ρ a) (ρ b) a b p.why D1) (mergeρ ρ a b) u ∧ ∃ k, Rt (joinG G (ρ a) (ρ b) a b p.why D1).P u (mergeρ ρ a b u) k) ∧
   (∀ q ∈ G.S, ∃ k, Rt (joinG G (ρ a) (ρ b) a b p.why D1).P q.2 (mergeρ ρ a b q.2) k) ∧
   Inv (movedG (joinG G (ρ a) (ρ b) a b p.why D1) (ρ a) (ρ b) (mergeρ ρ a b)) (mergeρ ρ a b) (T ++ (mvAll G.N (mergeρ ρ a b) (nth G.U (ρ a)) G.S).2) (H ++ [⟨a, b, p.why⟩]) := by
 obtain ⟨ρ', hρ'⟩ : ∃ ρ', ρ' = mergeρ ρ a b := ⟨_, rfl⟩
 rw [← hρ']
 obtain ⟨x, hx⟩ : ∃ x, x = ρ a := ⟨_, rfl⟩
 obtain ⟨y, hy⟩ : ∃ y, y = ρ b := ⟨_, rfl⟩
 rw [← hx, ← hy]
 have hxy : x ≠ y := by rw [hx, hy]; exact hne
 have e1 : ∀ v, ρ v = x → ρ' v = y := fun v hv => by rw [hρ']; simp only [mergeρ]; rw [if_pos (by rw [hv, hx]), hy]
 have e2 : ∀ v, ρ v ≠ x → ρ' v = ρ v := fun v hv => by rw [hρ']; simp only [mergeρ]; rw [if_neg (by rw [← hx]; exact hv)]
 have ef : ∀ v w, ρ v = ρ w → ρ' v = ρ' w := fun v w hvw => by
  by_cases hv : ρ v = x
  ·rw [e1 v hv, e1 w (by rw [← hvw]; exact hv)]
  ·rw [e2 v hv, e2 w (by rw [← hvw]; exact hv), hvw]
 have hxl : x < G.N.length := by rw [hx]; exact (h.rl a ha).1
 have hyl : y < G.N.length := by rw [hy]; exact (h.rl b hb).1
 have hxx : ρ x = x := by rw [hx]; exact (h.rl a ha).2
 have hyy : ρ y = y := by rw [hy]; exact (h.rl b hb).2
 have hax : ρ' a = y := e1 a hx.symm
 have hbx : ρ' b = y := by rw [e2 b (by rw [← hy]; exact hxy.symm), hy]
 have hy' : ρ' y = y := by rw [e2 y (by rw [hyy]; exact hxy.symm), hyy]
 have rl' : ∀ v, v < G.N.length → ρ' v < G.N.length ∧ ρ' (ρ' v) = ρ' v := fun v hv => by
  by_cases hvx : ρ v = x
  ·rw [e1 v hvx]; exact ⟨hyl, hy'⟩
  ·rw [e2 v hvx]
   obtain ⟨g1, g2⟩ := h.rl v hv
   exact ⟨g1, by rw [e2 _ (by rw [g2]; exact hvx), g2]⟩
 have hPx : nth G.P x = x := by obtain ⟨k, hk⟩ := h.rt a ha; rw [hx]; exact hk.root.2
 have hPy : nth G.P y = y := by obtain ⟨k, hk⟩ := h.rt b hb; rw [hy]; exact hk.root.2
 have rt' : ∀ v, v < G.N.length → ∃ k, Rt (G.P.set x y) v (ρ' v) k := fun v hv => by
  obtain ⟨k, hk⟩ := h.rt v hv
  obtain ⟨k', hk'⟩ := hk.set hPx (by rw [h.lp]; exact hxl) hPy (by rw [h.lp]; exact hyl) hxy
  refine ⟨k', ?_⟩
  by_cases hvx : ρ v = x
  ·rw [e1 v hvx]; rw [if_pos hvx] at hk'; exact hk'
  ·rw [e2 v hvx]; rw [if_neg hvx] at hk'; exact hk'
 -- the edges
 obtain ⟨t, ht⟩ := h.de
 have hEn : Ends G.D := fun v hv => by
  obtain ⟨⟨k, hk⟩, _⟩ := ht v (by rw [← h.ld]; exact hv); exact ⟨_, _, hk⟩
 obtain ⟨⟨ka, hka⟩, hta, htaw⟩ := ht a ha
 obtain ⟨⟨kb, hkb⟩, htb, htbw⟩ := ht b hb
 obtain ⟨D1, nT, hT, hE1, h1, h2⟩ := turn_ex ka G.D ed0 a (t a) hEn hka (fun e => by cases e)
 have hl1 : D1.length = G.N.length := by rw [hT.len, h.ld]
 have hin : ∀ v, v < G.N.length → ρ v = x → ∃ k, En D1 v a k := fun v hv hvx => by
  obtain ⟨⟨k, hk⟩, _⟩ := ht v hv
  rw [htaw v hv (by rw [hvx, hx])] at hk
  exact h2 v k hk a (fun _ => rfl) (fun e => by cases e)
 have hout : ∀ v, v < G.N.length → ρ v ≠ x → ∃ k, En D1 v (t v) k := fun v hv hvx => by
  obtain ⟨⟨k, hk⟩, hr, _⟩ := ht v hv
  refine h1 v (t v) k hk ?_
  intro e
  apply hvx
  rw [← hr, e, hta, hx]
 obtain ⟨k0, ha0⟩ := hin a ha hx.symm
 obtain ⟨kb0, hb0⟩ := hout b hb (by rw [← hy]; exact hxy.symm)
 have htba : t b ≠ a := fun e => by rw [e] at htb; exact hne htb
 obtain ⟨ez, kz, hz, _, hz2⟩ := set_end (last := ⟨b, p.why, true⟩) ha0 (fun _ => ⟨t b, kb0, hb0, htba⟩)
 obtain ⟨_, hz3⟩ := hz2 rfl
 have hez : ez = t b := (hz3.uniq hb0).1
 subst hez
 have hend : (nth D1 a).some = false := ha0.fin.2
 have hD2a : nth (D1.set a ⟨b, p.why, true⟩) a = ⟨b, p.why, true⟩ := nth_set_self (by rw [hl1]; exact ha)
 have hlk : ∀ u v w, (E1 D1 u v w ∨ E1 D1 v u w) ↔ (E1 G.D u v w ∨ E1 G.D v u w) := fun u v w => by
  rw [hT.lk u v w]
  constructor
  ·rintro (h | ⟨_, h⟩ | ⟨_, h⟩)
   ·exact h
   ·cases h
   ·cases h
  ·exact .inl
 have hs1 : ∀ u v w, E1 (D1.set a ⟨b, p.why, true⟩) u v w ↔ (u ≠ a ∧ E1 D1 u v w) ∨ (u = a ∧ (⟨b, p.why, true⟩ : Ed) = ⟨v, w, true⟩) := fun u v w => E1.set (by rw [hl1]; exact ha)
 have hno : ∀ v w, ¬ E1 D1 a v w := fun v w hv => by rw [hv.2] at hend; cases hend
 -- the uses
 have hUx : x < G.U.length := by rw [h.lu]; exact hxl
 have hUy : y < G.U.length := by rw [h.lu]; exact hyl
 obtain ⟨m1, m2, m3, m4, m5⟩ := mv_spec (N := G.N) (ρ := ρ') (nth G.U x) (G.S, [])
 have hq : ∀ {u v}, Q ρ (p :: T) u v → Q ρ' (T ++ (mvAll G.N ρ' (nth G.U x) G.S).2) u v := fun hq => Q.mono ef (fun q hq => by
  rcases List.mem_cons.1 hq with e | e
  ·rw [e]
   refine .base (.inl ?_)
   rcases hp with ⟨g1, g2⟩ | ⟨g1, g2⟩ <;> rw [g1, g2, hax, hbx]
  ·exact .base (.inr ⟨q, List.mem_append_left _ e, rfl, rfl⟩)) hq
 have se' : ∀ q ∈ (mvAll G.N ρ' (nth G.U x) G.S).1, q.2 < G.N.length ∧ ∃ τ : Nat → Nat, q.1 = sigL (nth G.N q.2) q.2 τ ∧ ∀ a ∈ (nth G.N q.2).a, τ a < G.N.length ∧ ρ' (τ a) = ρ' a := fun q hqm => by
  rcases m2 q hqm with g | ⟨g1, g2⟩
  ·obtain ⟨s1, τ, s2, s3⟩ := h.se q g
   exact ⟨s1, τ, s2, fun a ha => ⟨(s3 a ha).1, ef _ _ (s3 a ha).2⟩⟩
  ·have := h.ul _ _ g1
   exact ⟨this, ρ', g2, fun a ha => rl' a (Nat.lt_trans ((h.nf _ this).2.2 a ha) this)⟩
 have hr' : ∀ v w, v < G.N.length → w < G.N.length → ρ' v = ρ' w → Hc (H ++ [⟨a, b, p.why⟩]) v w := fun v w hv hw hvw => by
  have hab : Hc (H ++ [⟨a, b, p.why⟩]) a b := .base ⟨⟨a, b, p.why⟩, by simp, rfl, rfl⟩
  by_cases hvx : ρ v = x
  ·by_cases hwx : ρ w = x
   ·exact (h.hr v w hv hw (by rw [hvx, hwx])).app
   ·rw [e1 v hvx, e2 w hwx] at hvw
    exact .trans (h.hr v a hv ha (by rw [hvx, hx])).app (.trans hab (h.hr b w hb hw (by rw [← hvw, hy])).app)
  ·by_cases hwx : ρ w = x
   ·rw [e2 v hvx, e1 w hwx] at hvw
    exact .trans (h.hr v b hv hb (by rw [hvw, hy])).app (.trans (.symm hab) (h.hr a w ha hw (by rw [hwx, hx])).app)
   ·rw [e2 v hvx, e2 w hwx] at hvw
    exact (h.hr v w hv hw hvw).app
 have tn : ∀ q ∈ (mvAll G.N ρ' (nth G.U x) G.S).2, q.a < G.N.length ∧ q.b < G.N.length ∧ Just G.N G.E (H ++ [⟨a, b, p.why⟩]) q := fun q hqm => by
  rcases m4 q hqm with g | ⟨g1, g2, g3, g4⟩
  ·cases g
  ·have hqa := h.ul _ _ g1
   obtain ⟨s1, τ, s2, s3⟩ := se' _ (lk_mem2 g4)
   simp only at s1 s2 s3
   obtain ⟨i1, i2, i3⟩ := sig_inj s2
   have hlen : (nth G.N q.a).a.length = (nth G.N q.b).a.length := by have := congrArg List.length i2; simpa using this
   refine ⟨hqa, s1, .inr ⟨by rw [g3]; decide, i1, hlen, fun e => g2 (i3 e).symm, fun j hj => ?_⟩⟩
   have hj2 : j < (nth G.N q.b).a.length := by omega
   have m1 := nth_mem hj
   have m2 := nth_mem hj2
   have l1 := Nat.lt_trans ((h.nf _ hqa).2.2 _ m1) hqa
   have l2 := Nat.lt_trans ((h.nf _ s1).2.2 _ m2) s1
   have hτ : ρ' (nth (nth G.N q.a).a j) = τ (nth (nth G.N q.b).a j) := by
    have := congrArg (fun l => l[j]?) i2
    simp only [List.getElem?_map, List.getElem?_eq_getElem hj, List.getElem?_eq_getElem hj2, Option.map_some, Option.some.injEq] at this
    simpa [nth, hj, hj2] using this
   refine hr' _ _ l1 l2 ?_
   rw [← (rl' _ l1).2, hτ, (s3 _ m2).2]
 refine ⟨D1, nT, hT, fun u hu => ?_, fun q hqm => rt' _ (h.se q hqm).1, ?_⟩
 ·have hul := h.ul _ _ hu
  obtain ⟨n1, n2, n3⟩ := h.nf u hul
  have hsm := h.sm
  exact ⟨⟨hul, by omega, n1, Nat.le_trans n2 (by decide), fun c hc => rt' c (Nat.lt_trans (n3 c hc) hul), fun c hc => by have := (rl' c (Nat.lt_trans (n3 c hc) hul)).1; omega⟩, rt' u hul⟩
 ·have hCx : x < G.C.length := by rw [h.lc]; exact hxl
  have hCy : y < G.C.length := by rw [h.lc]; exact hyl
  have gU := move_get hUx hUy hxy
  have gC := move_get hCx hCy hxy
  exact
  { lp := by simp [movedG, joinG, h.lp]
    lc := by simp [movedG, joinG, h.lc]
    lu := by simp [movedG, joinG, h.lu]
    ld := by simp [movedG, joinG, hl1]
    sm := h.sm
    nf := h.nf
    rt := rt'
    rl := rl'
    cm := fun r hr hrr v => by
     have hrx : ρ r ≠ x := fun e => by
      rw [e1 r e] at hrr; rw [← hrr, hyy] at e; exact hxy e.symm
     have hrr2 : ρ r = r := by rw [e2 r hrx] at hrr; exact hrr
     have hrx2 : r ≠ x := by rw [hrr2] at hrx; exact hrx
     show v ∈ nth ((G.C.set y (nth G.C y ++ nth G.C x)).set x []) r ↔ _
     rw [gC r, if_neg hrx2]
     by_cases hry : r = y
     ·subst hry
      rw [if_pos rfl, List.mem_append, h.cm _ hr hrr2, h.cm _ hxl hxx]
      show _ ↔ v < G.N.length ∧ _
      constructor
      ·rintro (⟨g1, g2⟩ | ⟨g1, g2⟩)
       ·exact ⟨g1, by rw [e2 v (by rw [g2]; exact hrx2), g2]⟩
       ·exact ⟨g1, e1 v g2⟩
      ·rintro ⟨g1, g2⟩
       by_cases hvx : ρ v = x
       ·exact .inr ⟨g1, hvx⟩
       ·exact .inl ⟨g1, by rw [e2 v hvx] at g2; exact g2⟩
     ·rw [if_neg hry, h.cm _ hr hrr2]
      show _ ↔ v < G.N.length ∧ _
      constructor
      ·rintro ⟨g1, g2⟩; exact ⟨g1, by rw [e2 v (by rw [g2]; exact hrx2), g2]⟩
      ·rintro ⟨g1, g2⟩
       refine ⟨g1, ?_⟩
       by_cases hvx : ρ v = x
       ·rw [e1 v hvx] at g2; exact absurd g2.symm hry
       ·rw [e2 v hvx] at g2; exact g2
    cs := by show lens ((G.C.set y (nth G.C y ++ nth G.C x)).set x []) ≤ G.N.length; rw [move_lens hCx hCy hxy]; exact h.cs
    um := fun u hu c hc => by
     show u ∈ nth ((G.U.set y (nth G.U y ++ nth G.U x)).set x []) (ρ' c)
     have hm := h.um u hu c hc
     by_cases hcx : ρ c = x
     ·rw [e1 c hcx, gU, if_neg hxy.symm, if_pos rfl]; rw [hcx] at hm; exact List.mem_append_right _ hm
     ·rw [e2 c hcx, gU, if_neg hcx]
      split
      ·rename_i e; rw [e] at hm; exact List.mem_append_left _ hm
      ·exact hm
    ul := fun z u hu => by
     have hu : u ∈ nth ((G.U.set y (nth G.U y ++ nth G.U x)).set x []) z := hu
     show u < G.N.length
     rw [gU z] at hu
     split at hu
     ·cases hu
     ·split at hu
      ·rcases List.mem_append.1 hu with g | g <;> exact h.ul _ _ g
      ·exact h.ul _ _ hu
    us := by show lens ((G.U.set y (nth G.U y ++ nth G.U x)).set x []) ≤ 100 * G.N.length; rw [move_lens hUx hUy hxy]; exact h.us
    se := se'
    sc := fun u hu => by
     by_cases hux : u ∈ nth G.U x
     ·obtain ⟨o, o1, o2⟩ := m5 u hux
      refine ⟨o, o1, ?_⟩
      rcases o2 with g | g | g
      ·rw [g]; exact .refl
      ·exact .base (.inl g)
      ·exact .symm (.base (.inr ⟨_, List.mem_append_right _ g, rfl, rfl⟩))
     ·obtain ⟨o, o1, o2⟩ := h.sc u hu
      refine ⟨o, ?_, hq o2⟩
      have : sigL (nth G.N u) u ρ' = sigL (nth G.N u) u ρ := sig_congr fun c hc => e2 c fun e => hux (by have := h.um u hu c hc; rw [e] at this; exact this)
      show lk (mvAll G.N ρ' (nth G.U x) G.S).1 (sigL (nth G.N u) u ρ') = some o
      rw [this]
      exact m1 _ _ o1
    eb := fun e he => let ⟨g1, g2, g3⟩ := h.eb e he; ⟨g1, g2, hq g3⟩
    tj := fun q hqm => by
     rcases List.mem_append.1 hqm with g | g
     ·obtain ⟨g1, g2, g3⟩ := h.tj q (by simp [g]); exact ⟨g1, g2, g3.app⟩
     ·exact tn q g
    de := by
     refine ⟨fun v => if ρ v = x then t b else t v, fun v hv => ⟨?_, ?_, fun w hw hwv => ?_⟩⟩
     ·show ∃ k, En (D1.set a ⟨b, p.why, true⟩) v (if ρ v = x then t b else t v) k
      split
      ·rename_i hvx
       obtain ⟨k, hk⟩ := hin v hv hvx
       rcases hk.set (a := a) (last := ⟨b, p.why, true⟩) with g | ⟨g, _⟩
       ·have := g.fin.2; rw [hD2a] at this; cases this
       ·exact g _ _ hz
      ·rename_i hvx
       obtain ⟨k, hk⟩ := hout v hv hvx
       rcases hk.set (a := a) (last := ⟨b, p.why, true⟩) with g | ⟨_, j, _, g⟩
       ·exact ⟨_, g⟩
       ·exfalso
        have e : t v = a := (g.uniq ha0).1
        have := (ht v hv).2.1
        rw [e] at this
        exact hvx (by rw [← this, hx])
     ·show ρ' (if ρ v = x then t b else t v) = ρ' v
      split
      ·rename_i hvx; rw [e1 v hvx, e2 _ (by rw [htb, ← hy]; exact hxy.symm), htb, hy]
      ·rename_i hvx; exact ef _ _ (ht v hv).2.1
     ·show (if ρ w = x then t b else t w) = (if ρ v = x then t b else t v)
      by_cases hvx : ρ v = x
      ·by_cases hwx : ρ w = x
       ·rw [if_pos hvx, if_pos hwx]
       ·rw [if_pos hvx, if_neg hwx]
        rw [e1 v hvx, e2 w hwx] at hwv
        exact htbw w hw (by rw [hwv, hy])
      ·by_cases hwx : ρ w = x
       ·rw [if_neg hvx, if_pos hwx]
        rw [e2 v hvx, e1 w hwx] at hwv
        exact (htbw v hv (by rw [← hwv, hy])).symm
       ·rw [if_neg hvx, if_neg hwx]
        rw [e2 v hvx, e2 w hwx] at hwv
        exact (ht v hv).2.2 w hw hwv
    hl := fun q hqm => by
     show E1 (D1.set a ⟨b, p.why, true⟩) q.a q.b q.why ∨ E1 (D1.set a ⟨b, p.why, true⟩) q.b q.a q.why
     rw [hs1, hs1]
     rcases List.mem_append.1 hqm with g | g
     ·rcases (hlk _ _ _).2 (h.hl q g) with g | g
      ·exact .inl (.inl ⟨fun e => hno _ _ (by rw [e] at g; exact g), g⟩)
      ·exact .inr (.inl ⟨fun e => hno _ _ (by rw [e] at g; exact g), g⟩)
     ·rw [List.mem_singleton] at g; subst g
      exact .inl (.inr ⟨rfl, rfl⟩)
    hb := fun u v w huv => by
     have huv : E1 (D1.set a ⟨b, p.why, true⟩) u v w := huv
     rw [hs1] at huv
     rcases huv with ⟨_, g⟩ | ⟨g1, g2⟩
     ·rcases (hlk u v w).1 (.inl g) with g | g
      ·rcases h.hb _ _ _ g with g | g
       ·exact .inl (List.mem_append_left _ g)
       ·exact .inr (List.mem_append_left _ g)
      ·rcases h.hb _ _ _ g with g | g
       ·exact .inr (List.mem_append_left _ g)
       ·exact .inl (List.mem_append_left _ g)
     ·subst g1
      injection g2 with g3 g4
      subst g3 g4
      exact .inl (List.mem_append_right _ (by simp))
    hj := fun k hk => by
     simp at hk
     by_cases hkl : k < H.length
     ·rw [nth_app hkl, List.take_append_of_le_length (by omega)]
      exact h.hj k hkl
     ·have : k = H.length := by omega
      subst this
      rw [nth_last, List.take_append_of_le_length (Nat.le_refl _), List.take_length]
      exact ⟨ha, hb, hj⟩
    hr := hr' }
end Go.Proofs.YtjabgfnljbnmmaaDoor
set_option linter.unusedSimpArgs false
set_option linter.unusedVariables false
set_option maxHeartbeats 4000000
namespace Go.Proofs.YtjabgfnljbnmmaaDoor
open Go.Ax
/-- What a merge leaves as it was. -/
def Keep (G G' : GS) : Prop := G'.N = G.N ∧ G'.E = G.E ∧ G'.W = G.W ∧ G'.bw = G.bw ∧ G'.bs = G.bs
theorem Keep.refl (G : GS) : Keep G G := ⟨rfl, rfl, rfl, rfl, rfl⟩
theorem merge_ex (m : Nat) (T : List Pr) (G : GS) (ρ : Nat → Nat) (H : List Pr) (L : List Nat) (hL : L.length ≤ m) (hR : ∀ r, r < G.N.length → ρ r = r → r ∈ L) (hT : T.length + 100000 * m ≤ 1000000000000)
  (h : Inv G ρ T H) : ∃ G' n ρ' H', MRun G T G' n ∧ Inv G' ρ' [] H' ∧ Keep G G' ∧ (∀ a b, ρ a = ρ b → ρ' a = ρ' b) := by
 match T, h with
 | [], h => exact ⟨G, 0, ρ, H, .nil G, h, Keep.refl G, fun _ _ e => e⟩
 | p :: T, h =>
  obtain ⟨pa, pb, pj⟩ := h.tj p (by simp)
  obtain ⟨ka, hka⟩ := h.rt p.a pa
  obtain ⟨kb, hkb⟩ := h.rt p.b pb
  by_cases he : ρ p.a = ρ p.b
  ·obtain ⟨G', n, ρ', H', h1, h2, h3, h4⟩ := merge_ex m T G ρ H L hL hR (by simp at hT; omega) (h.pop he)
   exact ⟨G', n + 1, ρ', H', .same hka (by rw [he]; exact hkb) h1, h2, h3, h4⟩
  ·have key : ∀ a b, a < G.N.length → b < G.N.length → ρ a ≠ ρ b → Just G.N G.E H ⟨a, b, p.why⟩ → ((p.a = a ∧ p.b = b) ∨ (p.a = b ∧ p.b = a)) → orient G.C (ρ p.a) (ρ p.b) p = (ρ a, ρ b, a, b) →
     ∃ G' n ρ' H', MRun G (p :: T) G' n ∧ Inv G' ρ' [] H' ∧ Keep G G' ∧ (∀ a b, ρ a = ρ b → ρ' a = ρ' b) := by
    intro a b ha hb hne hj hp ho
    obtain ⟨D1, kt, h1, h2, h3, h4⟩ := h.join ha hb hne hj hp
    have hrl := h.rl a ha
    have hmem : ρ a ∈ L := hR _ hrl.1 hrl.2
    have hm : 1 ≤ L.length := List.length_pos_of_mem hmem
    have hel : (L.erase (ρ a)).length = L.length - 1 := List.length_erase_of_mem hmem
    have hus : (nth G.U (ρ a)).length ≤ 100000 := by
     have l1 := lens_nth (U := G.U) (i := ρ a)
     have l2 := h.us
     have l3 := h.sm
     omega
    have hol := mvAll_len (N := G.N) (ρ := mergeρ ρ a b) (S := G.S) (us := nth G.U (ρ a))
    have hlU := h.lu
    have hlC := h.lc
    have hlP := h.lp
    have hlD := h.ld
    have g1 := (h.rl p.a pa).1
    have g2 := (h.rl p.b pb).1
    obtain ⟨G', n, ρ', H', i1, i2, i3, i4⟩ := merge_ex (m - 1) (T ++ (mvAll G.N (mergeρ ρ a b) (nth G.U (ρ a)) G.S).2) _ _ _ (L.erase (ρ a)) (by omega)
     (fun r hr hrr => by
      have hrx : ρ r ≠ ρ a := fun e => by
       simp only [mergeρ] at hrr
       rw [if_pos e] at hrr
       have := (h.rl b hb).2
       rw [hrr] at this
       rw [this] at e
       exact hne (by rw [← e, ← hrr])
      have hrr2 : ρ r = r := by simp only [mergeρ] at hrr; rw [if_neg hrx] at hrr; exact hrr
      exact (List.mem_erase_of_ne (by rw [hrr2] at hrx; exact hrx)).2 (hR r hr hrr2))
     (by rw [List.length_append]; simp only [List.length_cons] at hT; omega) h4
    have hsm := h.sm
    refine ⟨G', n + 1, ρ', H', .join hka hkb he (by omega) (by omega) (by omega) (by omega) (by omega) (by omega) ho (by omega) h1 h2 h3 (fun z => ?_) (fun z => ?_) ?_ i1, i2, i3, fun v w e => i4 _ _ ?_⟩
    ·have l1 := lens_nth (U := G.U) (i := z); have l2 := h.us; omega
    ·have l1 := lens_nth (U := G.C) (i := z); have l2 := h.cs; omega
    ·simp only [List.length_cons] at hT; omega
    ·simp only [mergeρ, e]
   by_cases hc : (nth G.C (ρ p.b)).length < (nth G.C (ρ p.a)).length
   ·exact key p.b p.a pb pa (Ne.symm he) pj.swap (.inr ⟨rfl, rfl⟩) (by simp [orient, hc])
   ·exact key p.a p.b pa pb he pj (.inl ⟨rfl, rfl⟩) (by simp [orient, hc])
termination_by (m, T.length)
decreasing_by
 ·exact Prod.Lex.right _ (by simp)
 ·exact Prod.Lex.left _ _ (by omega)
/-! ### What follows from equations -/
inductive Eqv (N : List Nd) (E : List (Nat × Nat)) : Nat → Nat → Prop
 | refl {a} : Eqv N E a a
 | symm {a b} (h : Eqv N E a b) : Eqv N E b a
 | trans {a b c} (h1 : Eqv N E a b) (h2 : Eqv N E b c) : Eqv N E a c
 | eqn {a b} (h : (a, b) ∈ E) : Eqv N E a b
 | cong {i k} (hi : i < N.length) (hk : k < N.length) (hf : (nth N i).f = (nth N k).f) (hl : (nth N i).a.length = (nth N k).a.length) (h0 : (nth N i).a ≠ [])
   (h : ∀ j, j < (nth N i).a.length → Eqv N E (nth (nth N i).a j) (nth (nth N k).a j)) : Eqv N E i k
theorem nth_memE {E : List (Nat × Nat)} {j : Nat} (h : j < E.length) : nth E j ∈ E := nth_mem h
theorem hist_sound {N : List Nd} {E : List (Nat × Nat)} {H : List Pr} (hj : ∀ k, k < H.length → (nth H k).a < N.length ∧ (nth H k).b < N.length ∧ Just N E (H.take k) (nth H k)) :
  ∀ (n k : Nat), k ≤ n → k ≤ H.length → ∀ a b, Hc (H.take k) a b → Eqv N E a b := by
 intro n
 induction n with
 | zero =>
  intro k hk hkl a b h
  have : k = 0 := by omega
  subst this
  unfold Hc at h
  induction h with
  | refl => exact .refl
  | base h => obtain ⟨p, hp, _⟩ := h; simp at hp
  | symm _ ih => exact .symm ih
  | trans _ _ i1 i2 => exact .trans i1 i2
 | succ n ih =>
  intro k hk hkl a b h
  unfold Hc at h
  induction h with
  | refl => exact .refl
  | symm _ ih => exact .symm ih
  | trans _ _ i1 i2 => exact .trans i1 i2
  | base h =>
   obtain ⟨p, hp, e1, e2⟩ := h
   rw [← e1, ← e2]
   obtain ⟨i, hi, hpi⟩ := List.mem_take_iff_getElem.1 hp
   have hil : i < H.length := by omega
   have hn : nth H i = p := by rw [← hpi]; simp [nth, hil]
   obtain ⟨g1, g2, g3⟩ := hj i hil
   rw [hn] at g1 g2 g3
   rcases g3 with ⟨w1, w2, w3⟩ | ⟨w1, c1, c2, c3, c4⟩
   ·have hm := nth_memE w2
    rcases w3 with w3 | w3
    ·rw [w3] at hm; exact .eqn hm
    ·rw [w3] at hm; exact .symm (.eqn hm)
   ·exact .cong g1 g2 c1 c2 c3 fun j hj => ih i (by omega) (by omega) _ _ (c4 j hj)
theorem Inv.sound {G ρ H} (h : Inv G ρ [] H) {a b : Nat} (ha : a < G.N.length) (hb : b < G.N.length) (he : ρ a = ρ b) : Eqv G.N G.E a b :=
 hist_sound h.hj H.length H.length (Nat.le_refl _) (Nat.le_refl _) a b (by rw [List.take_length]; exact h.hr a b ha hb he)
theorem Inv.complete {G ρ H} (h : Inv G ρ [] H) {a b : Nat} (he : Eqv G.N G.E a b) : ρ a = ρ b := by
 induction he with
 | refl => rfl
 | symm _ ih => exact ih.symm
 | trans _ _ i1 i2 => exact i1.trans i2
 | eqn h' => exact Q_nil (h.eb _ h').2.2
 | @cong i k hi hk hf hl h0 _ ih =>
  obtain ⟨o, o1, o2⟩ := h.sc i hi
  obtain ⟨q, q1, q2⟩ := h.sc k hk
  have h0k : (nth G.N k).a ≠ [] := fun e => h0 (List.eq_nil_of_length_eq_zero (by rw [hl, e]; rfl))
  have : sigL (nth G.N i) i ρ = sigL (nth G.N k) k ρ := by
   simp only [sigL]
   rw [if_neg h0, if_neg h0k, hf]
   congr 1
   apply List.ext_getElem (by simpa using hl)
   intro j h1 h2
   simp at h1 h2
   have := ih j h1
   simpa [nth, h1, h2] using this
  rw [this, q1] at o1
  cases o1
  exact (Q_nil o2).symm.trans (Q_nil q2)
end Go.Proofs.YtjabgfnljbnmmaaDoor
set_option linter.unusedSimpArgs false
set_option linter.unusedVariables false
set_option maxHeartbeats 4000000
namespace Go.Proofs.YtjabgfnljbnmmaaDoor
open Go.Ax
theorem useAll_get {ρ : Nat → Nat} {n : Nat} : ∀ (xs : List Nat) (U : List (List Nat)), (∀ a ∈ xs, ρ a < U.length) →
  (∀ z u, u ∈ nth U z → u ∈ nth (useAll ρ n xs U) z) ∧ (∀ a ∈ xs, n ∈ nth (useAll ρ n xs U) (ρ a)) ∧ (∀ z u, u ∈ nth (useAll ρ n xs U) z → u ∈ nth U z ∨ u = n) ∧ lens (useAll ρ n xs U) = lens U + xs.length
 | [], U, _ => ⟨fun z u h => h, ⟨fun a h => (by cases h), ⟨fun z u h => Or.inl h, rfl⟩⟩⟩
 | x :: xs, U, hx => by
  have hxU := hx x (by simp)
  have hg : ∀ z, nth (U.set (ρ x) (nth U (ρ x) ++ [n])) z = if z = ρ x then nth U (ρ x) ++ [n] else nth U z := fun z => by
   by_cases e : z = ρ x
   ·rw [if_pos e, e, nth_set_self hxU]
   ·rw [if_neg e, nth_set_ne (Ne.symm e)]
  have hl := lens_set (l := nth U (ρ x) ++ [n]) hxU
  rw [List.length_append] at hl
  simp only [List.length_cons, List.length_nil] at hl
  obtain ⟨h1, h2, h3, h4⟩ := useAll_get xs (U.set (ρ x) (nth U (ρ x) ++ [n])) (fun a ha => by rw [List.length_set]; exact hx a (by simp [ha]))
  have hu : useAll ρ n (x :: xs) U = useAll ρ n xs (U.set (ρ x) (nth U (ρ x) ++ [n])) := rfl
  rw [hu]
  have m1 : ∀ z u, u ∈ nth U z → u ∈ nth (U.set (ρ x) (nth U (ρ x) ++ [n])) z := fun z u hzu => by
   rw [hg]; split
   ·rename_i e; rw [e] at hzu; exact List.mem_append_left _ hzu
   ·exact hzu
  refine ⟨fun z u hzu => h1 z u (m1 z u hzu), fun a ha => ?_, fun z u hzu => ?_, ?_⟩
  ·rcases List.mem_cons.1 ha with e | e
   ·rw [e]; exact h1 _ _ (by rw [hg, if_pos rfl]; simp)
   ·exact h2 a e
  ·rcases h3 z u hzu with g | g
   ·rw [hg] at g
    split at g
    ·rename_i e
     rcases List.mem_append.1 g with g | g
     ·rw [e]; exact .inl g
     ·right; simpa using g
    ·exact .inl g
   ·exact .inr g
  ·rw [h4, List.length_cons]; omega
theorem map_nth {f g : Nat → Nat} {xs ys : List Nat} {j : Nat} (h : xs.map f = ys.map g) (hj : j < xs.length) (hj2 : j < ys.length) : f (nth xs j) = g (nth ys j) := by
 have := congrArg (fun l => l[j]?) h
 simp only [List.getElem?_map, List.getElem?_eq_getElem hj, List.getElem?_eq_getElem hj2, Option.map_some, Option.some.injEq] at this
 rw [getElem_nthN hj, getElem_nthN hj2] at this
 exact this
theorem lens_app {U V : List (List Nat)} : lens (U ++ V) = lens U + lens V := by simp [lens]
theorem En.app {D Z : List Ed} {v e k : Nat} (h : En D v e k) : En (D ++ Z) v e k := by
 induction h with
 | stop h hs => exact .stop (by simp; omega) (by rw [nth_app h]; exact hs)
 | step h hs _ ih => exact .step (by simp; omega) (by rw [nth_app h]; exact hs) (by rw [nth_app h]; exact ih)
theorem Just.addN {N : List Nd} {E H p x} (h : Just N E H p) (ha : p.a < N.length) (hb : p.b < N.length) : Just (N ++ [x]) E H p := by
 rcases h with h | ⟨h1, h2⟩
 ·exact .inl h
 ·refine .inr ⟨h1, ?_⟩
  unfold Cong at *
  rw [nth_app ha, nth_app hb]; exact h2
def extρ (ρ : Nat → Nat) (n v : Nat) : Nat := if v < n then ρ v else v
theorem enter_ex {G : GS} {ρ : Nat → Nat} {H : List Pr} {x : Nd} {W : List (List UInt8 × Nat)} (h : Inv G ρ [] H) (hn : G.N.length < 1000) (hf : x.f.length ≤ 140737488355328) (hl : x.a.length ≤ 100) (hx : ∀ a ∈ x.a, a < G.N.length) :
  ∃ G' ρ' H', EnterTo { G with N := G.N ++ [x], W := W } G.N.length (extρ ρ G.N.length) G' ∧ NOk (enter0 { G with N := G.N ++ [x], W := W } G.N.length) (extρ ρ G.N.length) G.N.length ∧
   (∀ a ∈ (nth (G.N ++ [x]) G.N.length).a, extρ ρ G.N.length a < G.N.length + 1) ∧ (∀ j z, (nth (useAll (extρ ρ G.N.length) G.N.length ((nth (G.N ++ [x]) G.N.length).a.take j) (G.U ++ [[]])) z).length ≤ 100000000) ∧
   Inv G' ρ' [] H' ∧ Keep { G with N := G.N ++ [x], W := W } G' ∧ (∀ a b, a < G.N.length → b < G.N.length → ρ a = ρ b → ρ' a = ρ' b) := by
 obtain ⟨n, hn0⟩ : ∃ n, n = G.N.length := ⟨_, rfl⟩
 obtain ⟨ρ1, hρ1⟩ : ∃ ρ1, ρ1 = extρ ρ n := ⟨_, rfl⟩
 rw [← hn0, ← hρ1]
 rw [← hn0] at hn hx
 have e1 : ∀ v, v < n → ρ1 v = ρ v := fun v hv => by rw [hρ1]; exact if_pos hv
 have e2 : ρ1 n = n := by rw [hρ1]; exact if_neg (Nat.lt_irrefl _)
 have hrl : ∀ v, v < n → ρ v < n ∧ ρ (ρ v) = ρ v := fun v hv => by have := h.rl v (by rw [← hn0]; exact hv); rw [← hn0] at this; exact this
 have hN1 : nth (G.N ++ [x]) n = x := nth_lastE hn0.symm
 have hN2 : ∀ v, v < n → nth (G.N ++ [x]) v = nth G.N v := fun v hv => nth_app (by rw [← hn0]; exact hv)
 have hlN : (G.N ++ [x]).length = n + 1 := by simp [hn0]
 have hlU : G.U.length = n := by rw [h.lu, hn0]
 have hlC : G.C.length = n := by rw [h.lc, hn0]
 have hlP : G.P.length = n := by rw [h.lp, hn0]
 have hlD : G.D.length = n := by rw [h.ld, hn0]
 have hargs : ∀ v, v < n → ∀ a ∈ (nth G.N v).a, a < n := fun v hv a ha => Nat.lt_trans ((h.nf v (by rw [← hn0]; exact hv)).2.2 a ha) hv
 have hsig : ∀ v, v < n → sigL (nth (G.N ++ [x]) v) v ρ1 = sigL (nth G.N v) v ρ := fun v hv => by
  rw [hN2 v hv]; exact sig_congr fun a ha => e1 a (hargs v hv a ha)
 have rl1 : ∀ v, v < n + 1 → ρ1 v < n + 1 ∧ ρ1 (ρ1 v) = ρ1 v := fun v hv => by
  by_cases hvn : v < n
  ·rw [e1 v hvn]
   obtain ⟨g1, g2⟩ := hrl v hvn
   exact ⟨by omega, by rw [e1 _ g1, g2]⟩
  ·have : v = n := by omega
   subst this; rw [e2, e2]; exact ⟨hv, rfl⟩
 have rt1 : ∀ v, v < n + 1 → ∃ k, Rt (G.P ++ [n]) v (ρ1 v) k := fun v hv => by
  by_cases hvn : v < n
  ·rw [e1 v hvn]
   obtain ⟨k, hk⟩ := h.rt v (by rw [← hn0]; exact hvn)
   exact ⟨k, hk.app⟩
  ·have : v = n := by omega
   subst this; rw [e2]; exact ⟨0, .stop (by simp [hlP]) (nth_lastE hlP)⟩
 have hD1 : nth (G.D ++ [ed0]) n = ed0 := nth_lastE hlD
 have hE1 : ∀ u v w, E1 (G.D ++ [ed0]) u v w ↔ E1 G.D u v w := fun u v w => by
  unfold E1
  by_cases hu : u < n
  ·rw [nth_app (by rw [hlD]; exact hu)]; simp [hlD]; omega
  ·constructor
   ·rintro ⟨g1, g2⟩
    simp [hlD] at g1
    have : u = n := by omega
    subst this
    rw [hD1] at g2; cases g2
   ·rintro ⟨g1, g2⟩; omega
 obtain ⟨u1, u2, u3, u4⟩ := useAll_get (ρ := ρ1) (n := n) x.a (G.U ++ [[]]) (fun a ha => by rw [e1 a (hx a ha)]; simp [hlU]; have := (hrl a (hx a ha)).1; omega)
 have hU0 : ∀ z, z < n → nth (G.U ++ [[]]) z = nth G.U z := fun z hz => nth_app (by rw [hlU]; exact hz)
 have hU1 : nth (G.U ++ [[]]) n = [] := nth_lastE hlU
 have hU2 : ∀ z u, u ∈ nth (G.U ++ [[]]) z → u < n := fun z u hu => by
  by_cases hz : z < n
  ·rw [hU0 z hz] at hu; have := h.ul _ _ hu; rw [← hn0] at this; exact this
  ·by_cases hz2 : z = n
   ·rw [hz2, hU1] at hu; cases hu
   ·rw [nth_out (by simp [hlU]; omega)] at hu; cases hu
 have hus := h.us
 rw [← hn0] at hus
 have hcs := h.cs
 rw [← hn0] at hcs
 have hlU0 : lens (G.U ++ [[]]) = lens G.U := by rw [lens_app]; simp [lens]
 have hnok : NOk (enter0 { G with N := G.N ++ [x], W := W } n) ρ1 n := by
  refine ⟨by show n < (G.N ++ [x]).length; omega, by omega, ?_, ?_, ?_, ?_⟩
  ·show (nth (G.N ++ [x]) n).f.length ≤ _; rw [hN1]; exact hf
  ·show (nth (G.N ++ [x]) n).a.length ≤ _; rw [hN1]; omega
  ·show ∀ a ∈ (nth (G.N ++ [x]) n).a, ∃ k, Rt (G.P ++ [n]) a (ρ1 a) k; rw [hN1]; exact fun a ha => rt1 a (by have := hx a ha; omega)
  ·show ∀ a ∈ (nth (G.N ++ [x]) n).a, ρ1 a ≤ 1000000; rw [hN1]; exact fun a ha => by have := (rl1 a (by have := hx a ha; omega)).1; omega
 have hlt : ∀ a ∈ (nth (G.N ++ [x]) n).a, ρ1 a < n + 1 := by rw [hN1]; exact fun a ha => (rl1 a (by have := hx a ha; omega)).1
 have hul : ∀ j z, (nth (useAll ρ1 n ((nth (G.N ++ [x]) n).a.take j) (G.U ++ [[]])) z).length ≤ 100000000 := fun j z => by
  rw [hN1]
  obtain ⟨_, _, _, g⟩ := useAll_get (ρ := ρ1) (n := n) (x.a.take j) (G.U ++ [[]]) (fun a ha => by
   have ha := List.mem_of_mem_take ha
   rw [e1 a (hx a ha)]; simp [hlU]; have := (hrl a (hx a ha)).1; omega)
  have l1 := lens_nth (U := useAll ρ1 n (x.a.take j) (G.U ++ [[]])) (i := z)
  have l2 : (x.a.take j).length ≤ 100 := by rw [List.length_take]; omega
  omega
 -- what holds ahead of what follows
 have inv : ∀ (S' : List (List UInt8 × Nat)) (T : List Pr), (∀ s o, lk G.S s = some o → lk S' s = some o) → (∀ q ∈ S', q ∈ G.S ∨ q = (sigL x n ρ1, n)) → (∃ o, lk S' (sigL x n ρ1) = some o ∧ Q ρ1 T o n) →
   (∀ p ∈ T, p.a < n + 1 ∧ p.b < n + 1 ∧ Just (G.N ++ [x]) G.E H p) → Inv { enter1 { G with N := G.N ++ [x], W := W } n ρ1 with S := S' } ρ1 T H := fun S' T s1 s2 s3 tj => by
  have hUeq : useAll ρ1 n (nth (G.N ++ [x]) n).a (G.U ++ [[]]) = useAll ρ1 n x.a (G.U ++ [[]]) := by rw [hN1]
  exact
  { lp := by show (G.P ++ [n]).length = (G.N ++ [x]).length; simp [hlP, hlN]
    lc := by show (G.C ++ [[n]]).length = (G.N ++ [x]).length; simp [hlC, hlN]
    lu := by show (useAll ρ1 n (nth (G.N ++ [x]) n).a (G.U ++ [[]])).length = (G.N ++ [x]).length; rw [useAll_len]; simp [hlU, hlN]
    ld := by show (G.D ++ [ed0]).length = (G.N ++ [x]).length; simp [hlD, hlN]
    sm := by show (G.N ++ [x]).length ≤ 1000; omega
    nf := fun u hu => by
     have hu : u < (G.N ++ [x]).length := hu
     rw [hlN] at hu
     show (nth (G.N ++ [x]) u).f.length ≤ 140737488355328 ∧ (nth (G.N ++ [x]) u).a.length ≤ 100 ∧ ∀ a ∈ (nth (G.N ++ [x]) u).a, a < u
     by_cases hun : u < n
     ·rw [hN2 u hun]; exact h.nf u (by rw [← hn0]; exact hun)
     ·have : u = n := by omega
      subst this; rw [hN1]; exact ⟨hf, hl, hx⟩
    rt := fun v hv => rt1 v (by have hv : v < (G.N ++ [x]).length := hv; omega)
    rl := fun v hv => by
     have hv : v < (G.N ++ [x]).length := hv
     show ρ1 v < (G.N ++ [x]).length ∧ _
     rw [hlN] at hv ⊢
     exact rl1 v hv
    cm := fun r hr hrr v => by
     have hr : r < (G.N ++ [x]).length := hr
     show v ∈ nth (G.C ++ [[n]]) r ↔ v < (G.N ++ [x]).length ∧ ρ1 v = r
     rw [hlN] at hr ⊢
     by_cases hrn : r < n
     ·rw [nth_app (by rw [hlC]; exact hrn), h.cm r (by rw [← hn0]; exact hrn) (by rw [← e1 r hrn]; exact hrr), ← hn0]
      constructor
      ·rintro ⟨g1, g2⟩; exact ⟨by omega, by rw [e1 v g1, g2]⟩
      ·rintro ⟨g1, g2⟩
       by_cases hvn : v < n
       ·exact ⟨hvn, by rw [← e1 v hvn]; exact g2⟩
       ·have : v = n := by omega
        subst this; rw [e2] at g2; omega
     ·have : r = n := by omega
      subst this
      rw [nth_lastE hlC, List.mem_singleton]
      constructor
      ·rintro rfl; exact ⟨by omega, e2⟩
      ·rintro ⟨g1, g2⟩
       by_cases hvn : v < r
       ·rw [e1 v hvn] at g2; have := (hrl v hvn).1; omega
       ·omega
    cs := by show lens (G.C ++ [[n]]) ≤ (G.N ++ [x]).length; rw [lens_app, hlN]; simp [lens] at *; omega
    um := fun u hu a ha => by
     have hu : u < (G.N ++ [x]).length := hu
     replace ha : a ∈ (nth (G.N ++ [x]) u).a := ha
     show u ∈ nth (useAll ρ1 n (nth (G.N ++ [x]) n).a (G.U ++ [[]])) (ρ1 a)
     rw [hUeq]
     rw [hlN] at hu
     by_cases hun : u < n
     ·rw [hN2 u hun] at ha
      have han := hargs u hun a ha
      have := h.um u (by rw [← hn0]; exact hun) a ha
      rw [e1 a han]
      exact u1 _ _ (by rw [hU0 _ (hrl a han).1]; exact this)
     ·have : u = n := by omega
      subst this; rw [hN1] at ha; exact u2 a ha
    ul := fun z u hu => by
     have hu : u ∈ nth (useAll ρ1 n (nth (G.N ++ [x]) n).a (G.U ++ [[]])) z := hu
     show u < (G.N ++ [x]).length
     rw [hUeq] at hu
     rw [hlN]
     rcases u3 z u hu with g | g
     ·have := hU2 z u g; omega
     ·omega
    us := by
     show lens (useAll ρ1 n (nth (G.N ++ [x]) n).a (G.U ++ [[]])) ≤ 100 * (G.N ++ [x]).length
     rw [hUeq, u4, hlU0, hlN]; omega
    se := fun q hq => by
     show q.2 < (G.N ++ [x]).length ∧ ∃ τ : Nat → Nat, q.1 = sigL (nth (G.N ++ [x]) q.2) q.2 τ ∧ ∀ a ∈ (nth (G.N ++ [x]) q.2).a, τ a < (G.N ++ [x]).length ∧ ρ1 (τ a) = ρ1 a
     rw [hlN]
     rcases s2 q hq with g | g
     ·obtain ⟨g1, τ, g2, g3⟩ := h.se q g
      rw [← hn0] at g1
      refine ⟨by omega, τ, by rw [hN2 _ g1]; exact g2, ?_⟩
      rw [hN2 _ g1]
      intro a ha
      obtain ⟨i1, i2⟩ := g3 a ha
      rw [← hn0] at i1
      exact ⟨by omega, by rw [e1 _ i1, e1 a (hargs _ g1 a ha), i2]⟩
     ·rw [g]
      refine ⟨by show n < n + 1; omega, ρ1, ?_⟩
      show sigL x n ρ1 = sigL (nth (G.N ++ [x]) n) n ρ1 ∧ ∀ a ∈ (nth (G.N ++ [x]) n).a, ρ1 a < n + 1 ∧ ρ1 (ρ1 a) = ρ1 a
      rw [hN1]
      exact ⟨rfl, fun a ha => rl1 a (by have := hx a ha; omega)⟩
    sc := fun u hu => by
     have hu : u < (G.N ++ [x]).length := hu
     show ∃ o, lk S' (sigL (nth (G.N ++ [x]) u) u ρ1) = some o ∧ Q ρ1 T o u
     rw [hlN] at hu
     by_cases hun : u < n
     ·rw [hsig u hun]
      obtain ⟨o, o1, o2⟩ := h.sc u (by rw [← hn0]; exact hun)
      have ho := (h.se _ (lk_mem2 o1)).1
      rw [← hn0] at ho
      exact ⟨o, s1 _ _ o1, .base (.inl (by rw [e1 o ho, e1 u hun]; exact Q_nil o2))⟩
     ·have : u = n := by omega
      subst this; rw [hN1]; exact s3
    eb := fun e he => by
     show e.1 < (G.N ++ [x]).length ∧ e.2 < (G.N ++ [x]).length ∧ Q ρ1 T e.1 e.2
     rw [hlN]
     obtain ⟨g1, g2, g3⟩ := h.eb e he
     rw [← hn0] at g1 g2
     exact ⟨by omega, by omega, .base (.inl (by rw [e1 _ g1, e1 _ g2]; exact Q_nil g3))⟩
    tj := fun p hp => by
     show p.a < (G.N ++ [x]).length ∧ p.b < (G.N ++ [x]).length ∧ _
     rw [hlN]; exact tj p hp
    de := by
     obtain ⟨t, ht⟩ := h.de
     have ht' : ∀ v, v < n → (∃ k, En G.D v (t v) k) ∧ ρ (t v) = ρ v ∧ ∀ w, w < n → ρ w = ρ v → t w = t v := fun v hv => by
      have := ht v (by rw [← hn0]; exact hv); rw [← hn0] at this; exact this
     have htn : ∀ v, v < n → t v < n := fun v hv => by obtain ⟨⟨k, hk⟩, _⟩ := ht' v hv; have := hk.fin.1; rw [hlD] at this; exact this
     refine ⟨fun v => if v < n then t v else v, fun v hv => ?_⟩
     have hv : v < (G.N ++ [x]).length := hv
     rw [hlN] at hv
     show (∃ k, En (G.D ++ [ed0]) v (if v < n then t v else v) k) ∧ ρ1 (if v < n then t v else v) = ρ1 v ∧ ∀ w, w < (G.N ++ [x]).length → ρ1 w = ρ1 v → (if w < n then t w else w) = (if v < n then t v else v)
     rw [hlN]
     by_cases hvn : v < n
     ·rw [if_pos hvn]
      obtain ⟨⟨k, hk⟩, g2, g3⟩ := ht' v hvn
      refine ⟨⟨k, hk.app⟩, by rw [e1 _ (htn v hvn), e1 v hvn, g2], fun w hw hwv => ?_⟩
      by_cases hwn : w < n
      ·rw [if_pos hwn]; exact g3 w hwn (by rw [← e1 w hwn, ← e1 v hvn]; exact hwv)
      ·have : w = n := by omega
       subst this; rw [e2, e1 v hvn] at hwv; have := (hrl v hvn).1; omega
     ·have : v = n := by omega
      subst this
      rw [if_neg (Nat.lt_irrefl _)]
      refine ⟨⟨0, .stop (by simp [hlD]) (by rw [hD1])⟩, rfl, fun w hw hwv => ?_⟩
      by_cases hwn : w < v
      ·rw [e2, e1 w hwn] at hwv; have := (hrl w hwn).1; omega
      ·rw [if_neg hwn]; omega
    hl := fun p hp => by
     show E1 (G.D ++ [ed0]) _ _ _ ∨ E1 (G.D ++ [ed0]) _ _ _
     rw [hE1, hE1]; exact h.hl p hp
    hb := fun u v w huv => h.hb u v w ((hE1 u v w).1 huv)
    hj := fun k hk => by
     show (nth H k).a < (G.N ++ [x]).length ∧ (nth H k).b < (G.N ++ [x]).length ∧ Just (G.N ++ [x]) G.E _ _
     obtain ⟨g1, g2, g3⟩ := h.hj k hk
     rw [hlN]
     exact ⟨by omega, by omega, g3.addN g1 g2⟩
    hr := fun a b ha hb hab => by
     have ha : a < (G.N ++ [x]).length := ha
     have hb : b < (G.N ++ [x]).length := hb
     rw [hlN] at ha hb
     by_cases han : a < n
     ·by_cases hbn : b < n
      ·rw [e1 a han, e1 b hbn] at hab
       exact h.hr a b (by omega) (by omega) hab
      ·have : b = n := by omega
       subst this; rw [e1 a han, e2] at hab; have := (hrl a han).1; omega
     ·have : a = n := by omega
      subst this
      by_cases hbn : b < a
      ·rw [e1 b hbn, e2] at hab; have := (hrl b hbn).1; omega
      ·have : b = a := by omega
       subst this; exact .refl }
 cases hlkS : lk G.S (sigL x n ρ1) with
 | none =>
  refine ⟨{ enter1 { G with N := G.N ++ [x], W := W } n ρ1 with S := G.S ++ [(sigL x n ρ1, n)] }, ρ1, H, ?_, hnok, hlt, hul, inv _ [] (fun s o => lk_app) (fun q hq => ?_) ⟨n, lk_new hlkS, .refl⟩ (fun p hp => by cases hp), ⟨rfl, rfl, rfl, rfl, rfl⟩, fun a b ha hb hab => by rw [e1 a ha, e1 b hb, hab]⟩
  ·have : EnterTo { G with N := G.N ++ [x], W := W } n ρ1 _ := .fresh (by show lk G.S (sigL (nth (G.N ++ [x]) n) n ρ1) = none; rw [hN1]; exact hlkS)
   have e : (sigL (nth (G.N ++ [x]) n) n ρ1) = sigL x n ρ1 := by rw [hN1]
   simp only [e] at this
   exact this
  ·rcases List.mem_append.1 hq with g | g
   ·exact .inl g
   ·exact .inr (by simpa using g)
 | some o =>
  obtain ⟨g1, τ, g2, g3⟩ := h.se _ (lk_mem2 hlkS)
  simp only at g1 g2 g3
  rw [← hn0] at g1
  obtain ⟨i1, i2, i3⟩ := sig_inj g2
  have hlen : x.a.length = (nth G.N o).a.length := by have := congrArg List.length i2; simpa using this
  have h0 : x.a ≠ [] := fun e => by have := i3 e; omega
  have hI : Inv (enter1 { G with N := G.N ++ [x], W := W } n ρ1) ρ1 [⟨n, o, -1⟩] H := inv G.S [⟨n, o, -1⟩] (fun s o h => h) (fun q hq => .inl hq) ⟨o, hlkS, .symm (.base (.inr ⟨⟨n, o, -1⟩, List.mem_singleton.2 rfl, rfl, rfl⟩))⟩ (fun p hp => by
   rw [List.mem_singleton] at hp; subst hp
   refine ⟨by show n < n + 1; omega, by show o < n + 1; omega, .inr ⟨by show (-1 : Int) < 0; decide, ?_⟩⟩
   show Cong (G.N ++ [x]) (Hc H) n o
   unfold Cong
   rw [hN1, hN2 o g1]
   refine ⟨i1, hlen, h0, fun j hj => ?_⟩
   have hj2 : j < (nth G.N o).a.length := by omega
   have hτ : ρ1 (nth x.a j) = τ (nth (nth G.N o).a j) := map_nth i2 hj hj2
   have l1 := hx _ (nth_mem hj)
   have l2 := hargs o g1 _ (nth_mem hj2)
   refine h.hr _ _ (by omega) (by omega) ?_
   rw [← (g3 _ (nth_mem hj2)).2, ← hτ, e1 _ l1, (hrl _ l1).2])
  obtain ⟨G', k, ρ', H', m1, m2, m3, m4⟩ := merge_ex (n + 1) [⟨n, o, -1⟩] (enter1 { G with N := G.N ++ [x], W := W } n ρ1) ρ1 H (List.range (n + 1)) (by rw [List.length_range]; exact Nat.le_refl _) (fun r hr _ => by
    have hr : r < (G.N ++ [x]).length := hr
    rw [List.mem_range]; omega) (by show 1 + 100000 * (n + 1) ≤ 1000000000000; omega) hI
  refine ⟨G', ρ', H', .like (by show lk G.S (sigL (nth (G.N ++ [x]) n) n ρ1) = some o; rw [hN1]; exact hlkS) m1, hnok, hlt, hul, m2, m3, fun a b ha hb hab => m4 a b (by rw [e1 a ha, e1 b hb, hab])⟩
end Go.Proofs.YtjabgfnljbnmmaaDoor
set_option linter.unusedSimpArgs false
set_option linter.unusedVariables false
set_option maxHeartbeats 4000000
namespace Go.Proofs.YtjabgfnljbnmmaaDoor
open Go.Ax
theorem Just.addE {N : List Nd} {E Z H p} (h : Just N E H p) : Just N (E ++ Z) H p := by
 rcases h with ⟨h1, h2, h3⟩ | h
 ·exact .inl ⟨h1, by rw [List.length_append]; omega, by rw [nth_app h2]; exact h3⟩
 ·exact .inr h
theorem equal_ex {G : GS} {ρ : Nat → Nat} {H : List Pr} {a b : Nat} (h : Inv G ρ [] H) (ha : a < G.N.length) (hb : b < G.N.length) :
  ∃ G' k ρ' H', MRun { G with E := G.E ++ [(a, b)] } [⟨a, b, G.E.length⟩] G' k ∧ Inv G' ρ' [] H' ∧ Keep { G with E := G.E ++ [(a, b)] } G' ∧ (∀ u v, ρ u = ρ v → ρ' u = ρ' v) := by
 have hI : Inv { G with E := G.E ++ [(a, b)] } ρ [⟨a, b, G.E.length⟩] H := { h with
  sc := fun u hu => let ⟨o, h1, h2⟩ := h.sc u hu; ⟨o, h1, .base (.inl (Q_nil h2))⟩
  eb := fun e he => by
   rcases List.mem_append.1 he with g | g
   ·obtain ⟨h1, h2, h3⟩ := h.eb e g; exact ⟨h1, h2, .base (.inl (Q_nil h3))⟩
   ·rw [List.mem_singleton] at g; subst g
    exact ⟨ha, hb, .base (.inr ⟨_, List.mem_singleton.2 rfl, rfl, rfl⟩)⟩
  tj := fun p hp => by
   rw [List.mem_singleton] at hp; subst hp
   refine ⟨ha, hb, .inl ⟨?_, ?_, .inl ?_⟩⟩
   ·show (0 : Int) ≤ (G.E.length : Int); omega
   ·show (G.E.length : Int).toNat < (G.E ++ [(a, b)]).length; simp
   ·show nth (G.E ++ [(a, b)]) (G.E.length : Int).toNat = _
    rw [show (G.E.length : Int).toNat = G.E.length from rfl, nth_last]
  hj := fun k hk => let ⟨h1, h2, h3⟩ := h.hj k hk; ⟨h1, h2, h3.addE⟩ }
 exact merge_ex 1000 [⟨a, b, G.E.length⟩] _ ρ H (List.range G.N.length) (by rw [List.length_range]; exact h.sm) (fun r hr _ => List.mem_range.2 hr) (by show 1 + 100000 * 1000 ≤ 1000000000000; omega) hI
/-- A graph without terms. -/
def Bare (G : GS) : Prop := G.N = [] ∧ G.E = [] ∧ G.P = [] ∧ G.C = [] ∧ G.U = [] ∧ G.D = [] ∧ G.S = []
theorem Bare.inv {G : GS} (h : Bare G) : Inv G id [] [] := by
 obtain ⟨hN, hE, hP, hC, hU, hD, hS⟩ := h
 have no : ∀ {v}, ¬ v < G.N.length := fun {v} hv => by rw [hN] at hv; cases hv
 have nU : ∀ z, nth G.U z = [] := fun z => by rw [hU]; rfl
 exact
 { lp := by rw [hP, hN]; rfl
   lc := by rw [hC, hN]; rfl
   lu := by rw [hU, hN]; rfl
   ld := by rw [hD, hN]; rfl
   sm := by rw [hN]; exact Nat.zero_le _
   nf := fun u hu => absurd hu no
   rt := fun u hu => absurd hu no
   rl := fun u hu => absurd hu no
   cm := fun u hu => absurd hu no
   cs := by rw [hC, hN]; exact Nat.le_refl _
   um := fun u hu => absurd hu no
   ul := fun z u hu => by rw [nU] at hu; cases hu
   us := by rw [hU, hN]; exact Nat.le_refl _
   se := fun q hq => by rw [hS] at hq; cases hq
   sc := fun u hu => absurd hu no
   eb := fun q hq => by rw [hE] at hq; cases hq
   tj := fun q hq => by cases hq
   de := ⟨id, fun u hu => absurd hu no⟩
   hl := fun q hq => by cases hq
   hb := fun u v w h => by have := h.1; rw [hD] at this; cases this
   hj := fun k hk => by cases hk
   hr := fun u v hu => absurd hu no }
theorem resetG_bare (G : GS) : Bare (resetG G) := ⟨rfl, rfl, rfl, rfl, rfl, rfl, rfl⟩
/-- Roots tell what follows. -/
theorem Inv.iff {G ρ H} (h : Inv G ρ [] H) {a b : Nat} (ha : a < G.N.length) (hb : b < G.N.length) : ρ a = ρ b ↔ Eqv G.N G.E a b := ⟨h.sound ha hb, h.complete⟩
/-! ### The least of a class -/
/-- The least of the nodes that are the same. -/
def IsLeast (N : List Nd) (E : List (Nat × Nat)) (a m : Nat) : Prop := m < N.length ∧ Eqv N E a m ∧ ∀ b, b < N.length → Eqv N E a b → m ≤ b
theorem IsLeast.uniq {N E a m m'} (h : IsLeast N E a m) (h' : IsLeast N E a m') : m = m' := by
 have := h.2.2 m' h'.1 h'.2.1
 have := h'.2.2 m h.1 h.2.1
 omega
end Go.Proofs.YtjabgfnljbnmmaaDoor
set_option linter.unusedSimpArgs false
set_option linter.unusedVariables false
set_option maxHeartbeats 4000000
namespace Go.Proofs.YtjabgfnljbnmmaaDoor
open Go.Ax
/-- Classes told by their least nodes. -/
structure RInv (N : List Nd) (E : List (Nat × Nat)) (c : List Nat) : Prop where
 len : c.length = N.length
 le : ∀ v, v < N.length → nth c v ≤ v
 idem : ∀ v, v < N.length → nth c (nth c v) = nth c v
 sound : ∀ v w, v < N.length → w < N.length → nth c v = nth c w → Eqv N E v w
theorem joinF_get {c : List Nat} {a b v : Nat} (h : v < c.length) : nth (joinF c a b) v = if nth c v = max (nth c a) (nth c b) then min (nth c a) (nth c b) else nth c v := by
 simp only [joinF, nth, List.getD_eq_getElem?_getD, List.getElem?_map, List.getElem?_eq_getElem h, Option.map_some, Option.getD_some]
theorem RInv.join {N E c a b} (h : RInv N E c) (ha : a < N.length) (hb : b < N.length) (he : Eqv N E a b) :
  RInv N E (joinF c a b) ∧ nth (joinF c a b) a = nth (joinF c a b) b ∧ (∀ v w, v < N.length → w < N.length → nth c v = nth c w → nth (joinF c a b) v = nth (joinF c a b) w) ∧
   (∀ v, v < N.length → nth (joinF c a b) v = v → nth c v = v ∧ (nth c a ≠ nth c b → v ≠ max (nth c a) (nth c b))) := by
 have hg : ∀ v, v < N.length → nth (joinF c a b) v = if nth c v = max (nth c a) (nth c b) then min (nth c a) (nth c b) else nth c v := fun v hv => joinF_get (by rw [h.len]; exact hv)
 have la := h.le a ha
 have lb := h.le b hb
 have ia := h.idem a ha
 have ib := h.idem b hb
 have hmin : nth c (min (nth c a) (nth c b)) = min (nth c a) (nth c b) := by
  rcases Nat.le_total (nth c a) (nth c b) with g | g
  ·rw [Nat.min_eq_left g]; exact ia
  ·rw [Nat.min_eq_right g]; exact ib
 have hab : ∀ v, v < N.length → (nth c v = max (nth c a) (nth c b) ∨ nth c v = min (nth c a) (nth c b)) → Eqv N E v a := fun v hv hc => by
  have : nth c v = nth c a ∨ nth c v = nth c b := by omega
  rcases this with g | g
  ·exact h.sound v a hv ha g
  ·exact .trans (h.sound v b hv hb g) (.symm he)
 refine ⟨⟨by rw [joinF_len, h.len], fun v hv => ?_, fun v hv => ?_, fun v w hv hw hvw => ?_⟩, ?_, fun v w hv hw hvw => by rw [hg v hv, hg w hw, hvw], fun v hv hvv => ?_⟩
 ·rw [hg v hv]
  have := h.le v hv
  split <;> omega
 ·rw [hg v hv]
  have := h.le v hv
  split
  ·rename_i e
   rw [hg _ (by omega), hmin]
   split <;> rfl
  ·rename_i e
   rw [hg _ (by omega), h.idem v hv, if_neg e]
 ·rw [hg v hv, hg w hw] at hvw
  by_cases e1 : nth c v = max (nth c a) (nth c b)
  ·rw [if_pos e1] at hvw
   by_cases e2 : nth c w = max (nth c a) (nth c b)
   ·exact h.sound v w hv hw (by rw [e1, e2])
   ·rw [if_neg e2] at hvw
    exact .trans (hab v hv (.inl e1)) (.symm (hab w hw (.inr hvw.symm)))
  ·rw [if_neg e1] at hvw
   by_cases e2 : nth c w = max (nth c a) (nth c b)
   ·rw [if_pos e2] at hvw
    exact .trans (hab v hv (.inr hvw)) (.symm (hab w hw (.inl e2)))
   ·rw [if_neg e2] at hvw
    exact h.sound v w hv hw hvw
 ·rw [hg a ha, hg b hb]
  split <;> split <;> omega
 ·rw [hg v hv] at hvv
  split at hvv
  ·rename_i e
   have : nth c v = v := by rw [← hvv]; exact hmin
   exact ⟨this, fun hne => by omega⟩
  ·rename_i e
   exact ⟨hvv, fun _ e2 => e (by rw [hvv]; exact e2)⟩
/-- At most m nodes stand for themselves. -/
def Few (N : List Nd) (c : List Nat) (m : Nat) : Prop := ∃ L : List Nat, L.length ≤ m ∧ ∀ v, v < N.length → nth c v = v → v ∈ L
theorem Few.join {N E c m a b} (h : RInv N E c) (hf : Few N c m) (ha : a < N.length) (hb : b < N.length) (he : Eqv N E a b) (hne : nth c a ≠ nth c b) : 1 ≤ m ∧ Few N (joinF c a b) (m - 1) := by
 obtain ⟨L, hl, hL⟩ := hf
 obtain ⟨_, _, _, h4⟩ := h.join ha hb he
 have la := h.le a ha
 have lb := h.le b hb
 have hM : nth c (max (nth c a) (nth c b)) = max (nth c a) (nth c b) := by
  rcases Nat.le_total (nth c a) (nth c b) with g | g
  ·rw [Nat.max_eq_right g]; exact h.idem b hb
  ·rw [Nat.max_eq_left g]; exact h.idem a ha
 have hm := hL _ (by omega) hM
 have h1 : 1 ≤ L.length := List.length_pos_of_mem hm
 refine ⟨by omega, L.erase (max (nth c a) (nth c b)), by rw [List.length_erase_of_mem hm]; omega, fun v hv hvv => ?_⟩
 obtain ⟨g1, g2⟩ := h4 v hv hvv
 exact (List.mem_erase_of_ne (g2 hne)).2 (hL v hv g1)
theorem Few.mono {N c m m'} (h : Few N c m) (hm : m ≤ m') : Few N c m' := let ⟨L, h1, h2⟩ := h; ⟨L, by omega, h2⟩
/-- What one look, or many, at pairs brings. -/
structure Stp (N : List Nd) (E : List (Nat × Nat)) (s s' : CM) (m : Nat) : Prop where
 inv : RInv N E s'.1
 few : ∃ m', m' ≤ m ∧ Few N s'.1 m' ∧ (s'.2 = true → s.2 = true ∨ m' < m)
 grow : ∀ v w, v < N.length → w < N.length → nth s.1 v = nth s.1 w → nth s'.1 v = nth s'.1 w
 same : s'.2 = false → s' = s
theorem Stp.refl {N E s m} (h : RInv N E s.1) (hf : Few N s.1 m) : Stp N E s s m := ⟨h, ⟨m, Nat.le_refl _, hf, fun h => .inl h⟩, fun _ _ _ _ h => h, fun _ => rfl⟩
theorem like_cong {N c i k} (hl : likeF N c i k = true) : Cong N (fun a b => nth c a = nth c b) i k := by
 have := of_decide_eq_true hl
 exact ⟨this.1, this.2.1, this.2.2.1, this.2.2.2⟩
theorem pStep_spec {N E i k m} {s : CM} (hN : ∀ u, u < N.length → ∀ a ∈ (nth N u).a, a < u) (h : RInv N E s.1) (hf : Few N s.1 m) (hi : i < N.length) (hk : k < N.length) : Stp N E s (pStep N i s k) m := by
 unfold pStep
 split
 ·rename_i hc
  obtain ⟨c1, c2, c3, c4⟩ := like_cong hc.2
  have he : Eqv N E i k := .cong hi hk c1 c2 c3 fun j hj => h.sound _ _ (Nat.lt_trans (hN i hi _ (nth_mem hj)) hi) (Nat.lt_trans (hN k hk _ (nth_mem (by omega))) hk) (c4 j hj)
  obtain ⟨j1, j2, j3, j4⟩ := h.join hi hk he
  obtain ⟨f1, f2⟩ := hf.join h hi hk he hc.1
  exact ⟨j1, ⟨m - 1, by omega, f2, fun _ => .inr (by omega)⟩, j3, fun h => by cases h⟩
 ·exact Stp.refl h hf
theorem Stp.trans {N E s s1 s2 m} (h1 : Stp N E s s1 m) (h2 : ∀ m', Few N s1.1 m' → Stp N E s1 s2 m') : Stp N E s s2 m := by
 obtain ⟨m', a1, a2, a3⟩ := h1.few
 have h2 := h2 m' a2
 obtain ⟨m'', b1, b2, b3⟩ := h2.few
 refine ⟨h2.inv, ⟨m'', by omega, b2, fun h => ?_⟩, fun v w hv hw e => h2.grow v w hv hw (h1.grow v w hv hw e), fun h => ?_⟩
 ·rcases b3 h with g | g
  ·rcases a3 g with g | g
   ·exact .inl g
   ·exact .inr (by omega)
  ·exact .inr (by omega)
 ·have e := h2.same h
  rw [e] at h ⊢
  exact h1.same h
theorem pK_spec {N E i} {s : CM} (hN : ∀ u, u < N.length → ∀ a ∈ (nth N u).a, a < u) (hi : i < N.length) : ∀ (k m : Nat), k ≤ N.length → RInv N E s.1 → Few N s.1 m → Stp N E s (pK N i s k) m
 | 0, m, _, h, hf => Stp.refl h hf
 | k + 1, m, hk, h, hf => by
  rw [pK_succ]
  have ih := pK_spec hN hi k m (by omega) h hf
  exact ih.trans fun m' hm' => pStep_spec hN ih.inv hm' hi (by omega)
theorem pI_spec {N E} {s : CM} (hN : ∀ u, u < N.length → ∀ a ∈ (nth N u).a, a < u) : ∀ (i m : Nat), i ≤ N.length → RInv N E s.1 → Few N s.1 m → Stp N E s (pI N s i) m
 | 0, m, _, h, hf => Stp.refl h hf
 | i + 1, m, hi, h, hf => by
  rw [pI_succ]
  have ih := pI_spec hN i m (by omega) h hf
  exact ih.trans fun m' hm' => pK_spec hN (by omega) i m' (by omega) ih.inv hm'
/-- Where nothing was joined all pairs were looked at. -/
theorem pK_none {N i} {c : List Nat} : ∀ (k : Nat), (pK N i (c, false) k).2 = false → pK N i (c, false) k = (c, false) ∧ ∀ q, q < k → nth c i = nth c q ∨ likeF N c i q = false
 | 0, _ => ⟨rfl, fun q hq => by cases hq⟩
 | k + 1, h => by
  rw [pK_succ] at h ⊢
  unfold pStep at h ⊢
  split at h
  ·cases h
  ·rename_i hc
   obtain ⟨g1, g2⟩ := pK_none k h
   rw [g1] at hc
   rw [if_neg (by rw [g1]; exact hc)]
   refine ⟨g1, fun q hq => ?_⟩
   by_cases e : q = k
   ·subst e
    simp only [not_and] at hc
    by_cases e : nth c i = nth c q
    ·exact .inl e
    ·right; have := hc e; simpa using this
   ·exact g2 q (by omega)
theorem pI_none {N} {c : List Nat} : ∀ (i : Nat), (pI N (c, false) i).2 = false → pI N (c, false) i = (c, false) ∧ ∀ p, p < i → ∀ q, q < p → nth c p = nth c q ∨ likeF N c p q = false
 | 0, _ => ⟨rfl, fun q hq => by cases hq⟩
 | i + 1, h => by
  rw [pI_succ] at h ⊢
  have hmono : ∀ (s : CM) k, (pK N i s k).2 = false → s.2 = false := fun s k => by
   induction k with
   | zero => exact fun h => h
   | succ k ih =>
    rw [pK_succ]
    unfold pStep
    split
    ·intro h; cases h
    ·exact ih
  have h0 := hmono _ _ h
  obtain ⟨g1, g2⟩ := pI_none i h0
  rw [g1] at h ⊢
  obtain ⟨k1, k2⟩ := pK_none i h
  refine ⟨k1, fun p hp q hq => ?_⟩
  by_cases e : p = i
  ·subst e; exact k2 q hq
  ·exact g2 p (by omega) q hq
/-- All classes are told. -/
def Told (N : List Nd) (E : List (Nat × Nat)) (c : List Nat) : Prop := RInv N E c ∧ ∀ a b, Eqv N E a b → nth c a = nth c b
theorem told_of {N E c} (h : RInv N E c) (he : ∀ e ∈ E, nth c e.1 = nth c e.2) (hp : ∀ p, p < N.length → ∀ q, q < p → nth c p = nth c q ∨ likeF N c p q = false) : Told N E c := by
 refine ⟨h, fun a b hab => ?_⟩
 induction hab with
 | refl => rfl
 | symm _ ih => exact ih.symm
 | trans _ _ i1 i2 => exact i1.trans i2
 | eqn h => exact he _ h
 | @cong i k hi hk hf hl h0 _ ih =>
  have h0k : (nth N k).a ≠ [] := fun e => h0 (List.eq_nil_of_length_eq_zero (by rw [hl, e]; rfl))
  rcases Nat.lt_trichotomy i k with g | g | g
  ·rcases hp k hk i g with e | e
   ·exact e.symm
   ·have : likeF N c k i = true := decide_eq_true ⟨hf.symm, hl.symm, h0k, fun j hj => (ih j (by omega)).symm⟩
    rw [this] at e; cases e
  ·rw [g]
  ·rcases hp i hi k g with e | e
   ·exact e
   ·have : likeF N c i k = true := decide_eq_true ⟨hf, hl, h0, ih⟩
    rw [this] at e; cases e
theorem crun_ex {N E} (hN : ∀ u, u < N.length → ∀ a ∈ (nth N u).a, a < u) : ∀ (m : Nat) (c : List Nat), RInv N E c → Few N c m → (∀ e ∈ E, e.1 < N.length ∧ e.2 < N.length ∧ nth c e.1 = nth c e.2) → ∃ c' k, CRun N c c' k ∧ Told N E c' := by
 intro m
 induction m with
 | zero =>
  intro c h hf he
  have sp := pI_spec (s := (c, false)) hN N.length 0 (Nat.le_refl _) h hf
  have hfl : (pI N (c, false) N.length).2 = false := by
   cases hb : (pI N (c, false) N.length).2 with
   | false => rfl
   | true =>
    obtain ⟨m', a1, a2, a3⟩ := sp.few
    rcases a3 hb with g | g
    ·cases g
    ·omega
  obtain ⟨g1, g2⟩ := pI_none _ hfl
  refine ⟨_, _, .done hfl, ?_⟩
  rw [g1]
  exact told_of h (fun e he' => (he e he').2.2) g2
 | succ m ih =>
  intro c h hf he
  have sp := pI_spec (s := (c, false)) hN N.length (m + 1) (Nat.le_refl _) h hf
  cases hfl : (pI N (c, false) N.length).2 with
  | false =>
   obtain ⟨g1, g2⟩ := pI_none _ hfl
   refine ⟨_, _, .done hfl, ?_⟩
   rw [g1]
   exact told_of h (fun e he' => (he e he').2.2) g2
  | true =>
   obtain ⟨m', a1, a2, a3⟩ := sp.few
   have : m' ≤ m := by
    rcases a3 hfl with g | g
    ·cases g
    ·omega
   obtain ⟨c', k, h1, h2⟩ := ih _ sp.inv (a2.mono this) (fun e he' => let ⟨x, y, z⟩ := he e he'; ⟨x, y, sp.grow _ _ x y z⟩)
   exact ⟨c', k + 1, .again hfl h1, h2⟩
theorem eqAll_spec {N E} : ∀ (F : List (Nat × Nat)) (c : List Nat), (∀ e ∈ F, e ∈ E) → (∀ e ∈ F, e.1 < N.length ∧ e.2 < N.length) → RInv N E c →
  RInv N E (eqAll c F) ∧ (∀ e ∈ F, nth (eqAll c F) e.1 = nth (eqAll c F) e.2) ∧ (∀ v w, v < N.length → w < N.length → nth c v = nth c w → nth (eqAll c F) v = nth (eqAll c F) w)
 | [], c, _, _, h => ⟨h, ⟨fun e h => (by cases h), fun _ _ _ _ h => h⟩⟩
 | e :: F, c, hF, hb, h => by
  obtain ⟨b1, b2⟩ := hb e (by simp)
  obtain ⟨j1, j2, j3, _⟩ := h.join b1 b2 (.eqn (hF e (by simp)))
  obtain ⟨i1, i2, i3⟩ := eqAll_spec F (joinF c e.1 e.2) (fun x hx => hF x (by simp [hx])) (fun x hx => hb x (by simp [hx])) j1
  have hu : eqAll c (e :: F) = eqAll (joinF c e.1 e.2) F := rfl
  rw [hu]
  refine ⟨i1, fun x hx => ?_, fun v w hv hw hvw => i3 v w hv hw (j3 v w hv hw hvw)⟩
  rcases List.mem_cons.1 hx with g | g
  ·rw [g]; exact i3 _ _ b1 b2 j2
  ·exact i2 x g
theorem nth_range {n v : Nat} (h : v < n) : nth (List.range n) v = v := by unfold nth; rw [List.getD_eq_getElem?_getD, List.getElem?_range h]; rfl
theorem closed_ex {N : List Nd} {E : List (Nat × Nat)} (hN : ∀ u, u < N.length → ∀ a ∈ (nth N u).a, a < u) (hE : ∀ e ∈ E, e.1 < N.length ∧ e.2 < N.length) : ∃ c k, CRun N (eqAll (List.range N.length) E) c k ∧ Told N E c := by
 have h0 : RInv N E (List.range N.length) := ⟨by simp, fun v hv => by rw [nth_range hv]; exact Nat.le_refl _, fun v hv => by rw [nth_range hv, nth_range hv], fun v w hv hw e => by rw [nth_range hv, nth_range hw] at e; rw [e]; exact .refl⟩
 obtain ⟨i1, i2, i3⟩ := eqAll_spec E _ (fun _ h => h) hE h0
 exact crun_ex hN N.length _ i1 ⟨List.range N.length, by simp, fun v hv _ => List.mem_range.2 hv⟩ (fun e he => ⟨(hE e he).1, (hE e he).2, i2 e he⟩)
theorem Told.least {N E c} (h : Told N E c) {a : Nat} (ha : a < N.length) : IsLeast N E a (nth c a) := by
 have l := h.1.le a ha
 refine ⟨by omega, h.1.sound _ _ ha (by omega) (h.1.idem a ha).symm, fun b hb he => ?_⟩
 rw [h.2 _ _ he]; exact h.1.le b hb
theorem Told.iff {N E c} (h : Told N E c) {a b : Nat} (ha : a < N.length) (hb : b < N.length) : nth c a = nth c b ↔ Eqv N E a b := ⟨h.1.sound a b ha hb, h.2 a b⟩
end Go.Proofs.YtjabgfnljbnmmaaDoor
set_option linter.unusedSimpArgs false
set_option linter.unusedVariables false
set_option maxHeartbeats 4000000
namespace Go.Proofs.YtjabgfnljbnmmaaDoor
open Go.Ax
/-! ### Ways along the edges -/
inductive Pa (D : List Ed) (P : Nat → Prop) : Nat → Nat → Prop
 | refl {x} : Pa D P x x
 | step {x y} (h : x < D.length) (hs : (nth D x).some = true) (hp : P x) (hr : Pa D P (nth D x).to y) : Pa D P x y
theorem Pa.mono {D P Q x y} (h : Pa D P x y) (hq : ∀ z, P z → Q z) : Pa D Q x y := by
 induction h with
 | refl => exact .refl
 | step h hs hp _ ih => exact .step h hs (hq _ hp) ih
theorem Pa.both {D P Q x y} (h : Pa D P x y) (h' : Pa D Q x y) : Pa D (fun z => P z ∧ Q z) x y := by
 induction h with
 | refl => exact .refl
 | step h hs hp _ ih => cases h' with
  | refl => exact .refl
  | step _ _ hq hr => exact .step h hs ⟨hp, hq⟩ (ih hr)
theorem Pa.split {D P Q x y z} (h : Pa D P x y) (h' : Pa D Q x z) : Pa D P x z ∨ Pa D Q y z := by
 induction h with
 | refl => exact .inr h'
 | step h hs hp _ ih => cases h' with
  | refl => exact .inl .refl
  | step _ _ hq hr => rcases ih hr with g | g
                      ·exact .inl (.step h hs hp g)
                      ·exact .inr g
theorem Pa.en {D P x y z k} (h : Pa D P x y) (he : En D y z k) : ∃ j, k ≤ j ∧ En D x z j ∧ (j = k → x = y) := by
 induction h with
 | refl => exact ⟨k, Nat.le_refl _, he, fun _ => rfl⟩
 | step h hs hp _ ih =>
  obtain ⟨j, h1, h2, _⟩ := ih he
  exact ⟨j + 1, by omega, .step h hs h2, fun e => by omega⟩
theorem Pa.en2 {D P x y z k} (h : Pa D P x y) (he : En D x z k) : ∃ j, En D y z j := by
 induction h generalizing k with
 | refl => exact ⟨k, he⟩
 | step h hs _ _ ih => cases he with
  | stop _ hs' => rw [hs] at hs'; cases hs'
  | step _ _ hr => exact ih hr
theorem nodup_len : ∀ (n : Nat) (l : List Nat), l.Nodup → (∀ x ∈ l, x < n) → l.length ≤ n
 | 0, [], _, _ => Nat.le_refl _
 | 0, x :: l, _, h => absurd (h x (by simp)) (Nat.not_lt_zero _)
 | n + 1, l, hd, h => by
  have := nodup_len n (l.erase n) (hd.erase n) (fun x hx => by
   have h1 := h x (List.mem_of_mem_erase hx)
   have h2 : x ≠ n := fun e => by rw [e] at hx; exact hd.not_mem_erase hx
   omega)
  by_cases hn : n ∈ l
  ·rw [List.length_erase_of_mem hn] at this; omega
  ·rw [List.erase_of_not_mem hn] at this; omega
/-- All nodes upwards are kept. -/
theorem up_ex {D : List Ed} {x e k} (h : En D x e k) : ∀ (M : List Nat), x ∈ M → M.Nodup → (∀ y ∈ M, ∃ j, k ≤ j ∧ En D y e j) → (∀ y ∈ M, y < D.length) →
  ∃ M', Up D M x M' k ∧ (∀ P y, Pa D P x y → y ∈ M') ∧ M'.length = M.length + k ∧ M'.length ≤ D.length ∧ (∀ y ∈ M', y ∈ M ∨ Pa D (fun _ => True) x y) := by
 induction h with
 | @stop v h hs =>
  intro M hx hd _ hM
  refine ⟨M, .stop h hs, fun P y hp => ?_, rfl, nodup_len _ _ hd hM, fun y hy => .inl hy⟩
  cases hp with
  | refl => exact hx
  | step _ hs' _ _ => rw [hs] at hs'; cases hs'
 | @step v e k h hs hr ih =>
  intro M hx hd hj hM
  have hn : (nth D v).to ∉ M := fun hm => by
   obtain ⟨j, h1, h2⟩ := hj _ hm
   have := (h2.uniq hr).2
   omega
  obtain ⟨M', h1, h2, h3, h4, h5⟩ := ih (M ++ [(nth D v).to]) (by simp) (by
    rw [List.nodup_append]
    refine ⟨hd, by simp, fun a ha b hb => ?_⟩
    rw [List.mem_singleton] at hb; subst hb
    intro e; rw [e] at ha; exact hn ha) (fun y hy => by
    rcases List.mem_append.1 hy with g | g
    ·obtain ⟨j, a, b⟩ := hj y g; exact ⟨j, by omega, b⟩
    ·rw [List.mem_singleton] at g; rw [g]; exact ⟨k, Nat.le_refl _, hr⟩) (fun y hy => by
    rcases List.mem_append.1 hy with g | g
    ·exact hM y g
    ·rw [List.mem_singleton] at g; rw [g]; exact hr.lt)
  refine ⟨M', .step h hs hn h1, fun P y hp => ?_, by rw [h3, List.length_append]; simp; omega, h4, fun y hy => ?_⟩
  ·cases hp with
   | refl =>
    have : ∀ {M x M' k}, Up D M x M' k → ∀ y ∈ M, y ∈ M' := fun {M x M' k} hu => by
     induction hu with
     | stop => exact fun y hy => hy
     | step _ _ _ _ ih => exact fun y hy => ih y (by simp [hy])
    exact this h1 _ (by simp [hx])
   | step _ _ _ hr' => exact h2 P y hr'
  ·rcases h5 y hy with g | g
   ·rcases List.mem_append.1 g with g | g
    ·exact .inl g
    ·rw [List.mem_singleton] at g; rw [g]; exact .inr (.step h hs trivial .refl)
   ·exact .inr (.step h hs trivial g)
theorem meet_ex {D : List Ed} {M : List Nat} {b e k} (h : En D b e k) (he : e ∈ M) : ∃ m l, Meet D M b m l ∧ m ∈ M ∧ Pa D (fun _ => True) b m ∧ ∀ P z, Pa D P b z → z ∈ M → Pa D P b m ∧ Pa D P m z := by
 induction h with
 | stop h hs => exact ⟨_, 0, .here he, he, .refl, fun P z hz _ => ⟨.refl, hz⟩⟩
 | @step v e k h hs hr ih =>
  by_cases hv : v ∈ M
  ·exact ⟨v, 0, .here hv, hv, .refl, fun P z hz _ => ⟨.refl, hz⟩⟩
  ·obtain ⟨m, l, h1, h2, h3, h4⟩ := ih he
   refine ⟨m, l + 1, .step h hv h1, h2, .step h hs trivial h3, fun P z hz hzM => ?_⟩
   cases hz with
   | refl => exact absurd hzM hv
   | step _ _ hp hr' => obtain ⟨g1, g2⟩ := h4 P z hr' hzM; exact ⟨.step h hs hp g1, g2⟩
/-- An edge is told for: its equation is needed, or its arguments are pairs. -/
def Cv (N : List Nd) (D : List Ed) (need : List Bool) (S : Nat × Nat → Prop) (y : Nat) : Prop :=
 (0 ≤ (nth D y).why → nth need (nth D y).why.toNat = true) ∧ ((nth D y).why < 0 → ∀ j, j < (nth N y).a.length → S (nth (nth N y).a j, nth (nth N (nth D y).to).a j))
theorem Cv.mono {N D need need' S S' y} (h : Cv N D need S y) (hn : ∀ i, nth need i = true → nth need' i = true) (hs : ∀ q, S q → S' q) : Cv N D need' S' y := ⟨fun w => hn _ (h.1 w), fun w j hj => hs _ (h.2 w j hj)⟩
/-- What is known of edges. -/
structure EdOk (N : List Nd) (n : Nat) (D : List Ed) (R : Nat → Nat → Prop) : Prop where
 dl : D.length = N.length
 sm : N.length ≤ 1000
 al : ∀ u, u < N.length → (nth N u).a.length ≤ 100 ∧ ∀ a ∈ (nth N u).a, a < N.length
 ok : ∀ v, v < D.length → (nth D v).some = true → (nth D v).to < N.length ∧ ((0 ≤ (nth D v).why ∧ (nth D v).why.toNat < n) ∨ ((nth D v).why < 0 ∧ Cong N R v (nth D v).to))
theorem zip_mem {xs ys : List Nat} {j : Nat} (h : j < xs.length) (h2 : j < ys.length) : (nth xs j, nth ys j) ∈ xs.zip ys := by
 have : (xs.zip ys)[j]? = some (nth xs j, nth ys j) := by
  rw [List.getElem?_zip_eq_some]
  exact ⟨by rw [List.getElem?_eq_getElem h, getElem_nthN h], by rw [List.getElem?_eq_getElem h2, getElem_nthN h2]⟩
 exact List.mem_of_getElem? this
theorem mem_zip {xs ys : List Nat} {q : Nat × Nat} (h : q ∈ xs.zip ys) : ∃ j, j < xs.length ∧ j < ys.length ∧ q = (nth xs j, nth ys j) := by
 obtain ⟨j, hj⟩ := List.mem_iff_getElem?.1 h
 obtain ⟨h1, h2⟩ := List.getElem?_zip_eq_some.1 hj
 obtain ⟨l1, e1⟩ := List.getElem?_eq_some_iff.1 h1
 obtain ⟨l2, e2⟩ := List.getElem?_eq_some_iff.1 h2
 exact ⟨j, l1, l2, by rw [← getElem_nthN l1, ← getElem_nthN l2, e1, e2]⟩
/-- The way from x to m exists, and tells for each edge on it. -/
theorem way_ex {N n D R} (hE : EdOk N n D R) {m : Nat} : ∀ (k x e : Nat) (need : List Bool) (out : List (Nat × Nat)), En D x e k → Pa D (fun _ => True) x m → need.length = n → out.length + 100 * k ≤ 1000000000 →
  ∃ need' out' l, Way N D m x need out need' out' l ∧ need'.length = n ∧ (∀ i, nth need i = true → nth need' i = true) ∧ (∀ q ∈ out, q ∈ out') ∧ (∀ q ∈ out', q ∈ out ∨ (q.1 < N.length ∧ q.2 < N.length ∧ R q.1 q.2)) ∧
   out'.length ≤ out.length + 100 * k ∧ Pa D (Cv N D need' (fun q => q ∈ out')) x m := by
 intro k
 induction k with
 | zero =>
  intro x e need out hx hp hl ho
  cases hp with
  | refl => exact ⟨need, out, 0, .stop, hl, fun _ h => h, fun _ h => h, fun _ h => .inl h, by omega, .refl⟩
  | step h hs _ _ => cases hx with
   | stop _ hs' => rw [hs] at hs'; cases hs'
 | succ k ih =>
  intro x e need out hx hp hl ho
  by_cases hxm : x = m
  ·subst hxm; exact ⟨need, out, 0, .stop, hl, fun _ h => h, fun _ h => h, fun _ h => .inl h, by omega, .refl⟩
  ·cases hp with
   | refl => exact absurd rfl hxm
   | step h hs _ hr =>
    cases hx with
    | step _ _ hx' =>
     obtain ⟨o1, o2⟩ := hE.ok x h hs
     rcases o2 with ⟨w1, w2⟩ | ⟨w1, c1, c2, c3, c4⟩
     ·obtain ⟨need', out', l, a1, a2, a3, a4, a5, a6, a7⟩ := ih (nth D x).to e (need.set (nth D x).why.toNat true) out hx' hr (by rw [List.length_set]; exact hl) (by omega)
      have hself : nth (need.set (nth D x).why.toNat true) (nth D x).why.toNat = true := nth_set_self (by rw [hl]; exact w2)
      refine ⟨need', out', l + 1, .eqn hxm h w1 (by rw [hl]; exact w2) a1, a2, fun i hi => a3 i ?_, a4, a5, by omega, .step h hs ⟨fun _ => a3 _ hself, fun hn => by omega⟩ a7⟩
      by_cases hi2 : (nth D x).why.toNat = i
      ·rw [← hi2]; exact hself
      ·rw [nth_set_ne hi2]; exact hi
     ·have hxN : x < N.length := by rw [← hE.dl]; exact h
      obtain ⟨l1, l2⟩ := hE.al x hxN
      obtain ⟨l3, l4⟩ := hE.al _ o1
      have hz : ((nth N x).a.zip (nth N (nth D x).to).a).length ≤ 100 := by rw [List.length_zip]; omega
      obtain ⟨need', out', l, a1, a2, a3, a4, a5, a6, a7⟩ := ih (nth D x).to e need (out ++ (nth N x).a.zip (nth N (nth D x).to).a) hx' hr hl (by rw [List.length_append]; omega)
      refine ⟨need', out', l + 1, .cong hxm h w1 hxN o1 (by omega) (by omega) a1, a2, a3, fun q hq => a4 q (List.mem_append_left _ hq), fun q hq => ?_, by rw [List.length_append] at a6; omega, .step h hs ⟨fun hn => by omega, fun _ j hj => a4 _ (List.mem_append_right _ (zip_mem hj (by omega)))⟩ a7⟩
      rcases a5 q hq with g | g
      ·rcases List.mem_append.1 g with g | g
       ·exact .inl g
       ·obtain ⟨j, j1, j2, rfl⟩ := mem_zip g
        exact .inr ⟨l2 _ (nth_mem j1), l4 _ (nth_mem j2), c4 j j1⟩
      ·exact .inr g
/-- A pair is told for. -/
def Wy (N : List Nd) (D : List Ed) (need : List Bool) (S : Nat × Nat → Prop) (p : Nat × Nat) : Prop :=
 ∃ m, Pa D (Cv N D need S) p.1 m ∧ Pa D (Cv N D need S) p.2 m ∧ ∀ P e, Pa D P p.1 e → Pa D P p.2 e → Pa D P p.1 m ∧ Pa D P p.2 m
theorem Wy.mono {N D need need' S S' p} (h : Wy N D need S p) (hn : ∀ i, nth need i = true → nth need' i = true) (hs : ∀ q, S q → S' q) : Wy N D need' S' p := by
 obtain ⟨m, h1, h2, h3⟩ := h
 exact ⟨m, h1.mono fun z hz => hz.mono hn hs, h2.mono fun z hz => hz.mono hn hs, h3⟩
theorem all_ex {N n D R} (hE : EdOk N n D R) (hR : ∀ u v, u < N.length → v < N.length → R u v → ∃ e k l, En D u e k ∧ En D v e l) (m : Nat) (todo seen : List (Nat × Nat)) (need : List Bool) (L : List (Nat × Nat)) (hL : L.length ≤ m)
  (hLm : ∀ p : Nat × Nat, p.1 < N.length → p.2 < N.length → p ∉ seen → p ∈ L) (ht : ∀ p ∈ todo, p.1 < N.length ∧ p.2 < N.length ∧ R p.1 p.2) (hn : need.length = n) (hb : todo.length + m * 200000 ≤ 1000000000000)
  (hw : ∀ p ∈ seen, Wy N D need (fun q => q.1 = q.2 ∨ q ∈ seen ∨ q ∈ todo) p) :
  ∃ seen' need' k, All N D seen need todo seen' need' k ∧ (∀ p ∈ seen', Wy N D need' (fun q => q.1 = q.2 ∨ q ∈ seen') p) ∧ (∀ p ∈ todo, p.1 = p.2 ∨ p ∈ seen') ∧ (∀ p ∈ seen, p ∈ seen') ∧ need'.length = n := by
 rcases List.eq_nil_or_concat todo with h0 | ⟨td, p, h0⟩
 ·rw [h0] at hw ⊢
  exact ⟨seen, need, 0, .nil, fun p hp => (hw p hp).mono (fun _ h => h) (fun q hq => by
   rcases hq with h | h | h
   ·exact .inl h
   ·exact .inr h
   ·cases h), fun p hp => (by cases hp), fun p hp => hp, hn⟩
 ·rw [List.concat_eq_append] at h0
  have hlen : (td ++ [p]).length = td.length + 1 := by simp
  have hld : td.length < todo.length := by rw [h0]; simp
  rw [h0] at ht hb hw ⊢
  obtain ⟨p1, p2, p3⟩ := ht p (by simp)
  by_cases hs : p.1 = p.2 ∨ p ∈ seen
  ·obtain ⟨seen', need', k, h1, h2, h3, h4, h5⟩ := all_ex hE hR m td seen need L hL hLm (fun q hq => ht q (by simp [hq])) hn (by omega) (fun q hq => (hw q hq).mono (fun _ h => h) (fun q hq => by
    rcases hq with h | h | h
    ·exact .inl h
    ·exact .inr (.inl h)
    ·rcases List.mem_append.1 h with h | h
     ·exact .inr (.inr h)
     ·rw [List.mem_singleton] at h; subst h
      rcases hs with h | h
      ·exact .inl h
      ·exact .inr (.inl h)))
   refine ⟨seen', need', k + 1, .skip hs (by omega) h1, h2, fun q hq => ?_, h4, h5⟩
   rcases List.mem_append.1 hq with h | h
   ·exact h3 q h
   ·rw [List.mem_singleton] at h; subst h
    rcases hs with h | h
    ·exact .inl h
    ·exact .inr (h4 _ h)
  ·simp only [not_or] at hs
   obtain ⟨s1, s2⟩ := hs
   have hpL := hLm p p1 p2 s2
   have hLpos : 1 ≤ L.length := List.length_pos_of_mem hpL
   obtain ⟨e, ka, kb, ea, eb⟩ := hR _ _ p1 p2 p3
   obtain ⟨M, u1, u2, u3, u4, u5⟩ := up_ex ea [p.1] (by simp) (by simp) (fun y hy => by rw [List.mem_singleton] at hy; rw [hy]; exact ⟨ka, Nat.le_refl _, ea⟩) (fun y hy => by rw [List.mem_singleton] at hy; rw [hy, hE.dl]; exact p1)
   obtain ⟨_, _, _, _, v4, _⟩ := up_ex eb [p.2] (by simp) (by simp) (fun y hy => by rw [List.mem_singleton] at hy; rw [hy]; exact ⟨kb, Nat.le_refl _, eb⟩) (fun y hy => by rw [List.mem_singleton] at hy; rw [hy, hE.dl]; exact p2)
   have pae : ∀ {x e k}, En D x e k → Pa D (fun _ => True) x e := fun h => by
    induction h with
    | stop => exact .refl
    | step h hs _ ih => exact .step h hs trivial ih
   have heM : e ∈ M := u2 _ _ (pae ea)
   obtain ⟨mt, lm, m1, m2, m3, m4⟩ := meet_ex eb heM
   have hpm : Pa D (fun _ => True) p.1 mt := by
    rcases u5 mt m2 with g | g
    ·rw [List.mem_singleton] at g; rw [g]; exact .refl
    ·exact g
   have hsm := hE.sm
   have hdl := hE.dl
   have hka : ka ≤ 1000 := by simp at u3; omega
   have hkb : kb ≤ 1000 := by
    rename_i v3; simp at v3; omega
   obtain ⟨need1, o1, k1, w1, w2, w3, w4, w5, w6, w7⟩ := way_ex hE ka p.1 e need [] ea hpm hn (by simp; omega)
   obtain ⟨need2, o2, k2, x1, x2, x3, x4, x5, x6, x7⟩ := way_ex hE kb p.2 e need1 [] eb m3 w2 (by simp; omega)
   simp at w6 x6
   have first : ∀ P e', Pa D P p.1 e' → Pa D P p.2 e' → Pa D P p.1 mt ∧ Pa D P p.2 mt := fun P e' h1 h2 => by
    obtain ⟨g1, g2⟩ := m4 P e' h2 (u2 P e' h1)
    refine ⟨?_, g1⟩
    rcases h1.split hpm with g | g
    ·exact g
    ·obtain ⟨k, hz⟩ := h1.en2 ea
     obtain ⟨j, j1, j2, j3⟩ := g2.en hz
     obtain ⟨j', j4, j5, j6⟩ := g.en j2
     have := (j5.uniq hz).2
     have : mt = e' := j3 (by omega)
     rw [this]; exact h1
   have hmul : (m - 1) * 200000 + 200000 ≤ m * 200000 := by omega
   obtain ⟨seen', need', k, h1, h2, h3, h4, h5⟩ := all_ex hE hR (m - 1) (td ++ o1 ++ o2) (seen ++ [p]) need2 (L.erase p) (by rw [List.length_erase_of_mem hpL]; omega)
    (fun q q1 q2 hq => by
     simp only [List.mem_append, List.mem_singleton, not_or] at hq
     exact (List.mem_erase_of_ne hq.2).2 (hLm q q1 q2 hq.1))
    (fun q hq => by
     rcases List.mem_append.1 hq with hq | hq
     ·rcases List.mem_append.1 hq with hq | hq
      ·exact ht q (by simp [hq])
      ·rcases w5 q hq with g | g
       ·cases g
       ·exact g
     ·rcases x5 q hq with g | g
      ·cases g
      ·exact g) x2 (by simp only [List.length_append]; omega)
    (fun q hq => by
     rcases List.mem_append.1 hq with hq | hq
     ·exact (hw q hq).mono (fun i hi => x3 i (w3 i hi)) (fun r hr => by
       rcases hr with h | h | h
       ·exact .inl h
       ·exact .inr (.inl (by simp [h]))
       ·rcases List.mem_append.1 h with h | h
        ·exact .inr (.inr (by simp [h]))
        ·exact .inr (.inl (by simp at h; simp [h])))
     ·rw [List.mem_singleton] at hq; subst hq
      exact ⟨mt, w7.mono fun z hz => hz.mono x3 (fun r hr => .inr (.inr (by simp [hr]))), x7.mono fun z hz => hz.mono (fun _ h => h) (fun r hr => .inr (.inr (by simp [hr]))), first⟩)
   refine ⟨seen', need', k + 1, .step s1 s2 u1 m1 w1 x1 (by omega) h1, h2, fun q hq => ?_, fun q hq => h4 q (by simp [hq]), h5⟩
   rcases List.mem_append.1 hq with h | h
   ·exact h3 q (by simp [h])
   ·rw [List.mem_singleton] at h; subst h; exact .inr (h4 _ (by simp))
termination_by (m, todo.length)
decreasing_by
 all_goals first | (apply Prod.Lex.right; omega) | (apply Prod.Lex.left; omega)
end Go.Proofs.YtjabgfnljbnmmaaDoor
set_option linter.unusedSimpArgs false
set_option linter.unusedVariables false
set_option maxHeartbeats 4000000
namespace Go.Proofs.YtjabgfnljbnmmaaDoor
open Go.Ax
theorem hc_rho {G ρ H} (h : Inv G ρ [] H) {k a b} (hk : k ≤ H.length) (hc : Hc (H.take k) a b) : ρ a = ρ b :=
 h.complete (hist_sound h.hj k k (Nat.le_refl _) hk a b hc)
theorem mem_nth {α : Type} [Inhabited α] {l : List α} {x : α} (h : x ∈ l) : ∃ i, i < l.length ∧ nth l i = x := by
 obtain ⟨i, hi, e⟩ := List.mem_iff_getElem.1 h
 exact ⟨i, hi, by simp [nth, hi, e]⟩
/-- Each edge has its reason. -/
theorem Inv.edge {G ρ H} (h : Inv G ρ [] H) {v : Nat} (hv : v < G.D.length) (hs : (nth G.D v).some = true) :
  ∃ i, i < H.length ∧ (nth H i = ⟨v, (nth G.D v).to, (nth G.D v).why⟩ ∨ nth H i = ⟨(nth G.D v).to, v, (nth G.D v).why⟩) ∧ (nth G.D v).to < G.N.length ∧ Just G.N G.E (H.take i) ⟨v, (nth G.D v).to, (nth G.D v).why⟩ := by
 have e1 : E1 G.D v (nth G.D v).to (nth G.D v).why := ⟨hv, by rw [← hs]⟩
 rcases h.hb _ _ _ e1 with g | g
 ·obtain ⟨i, hi, e⟩ := mem_nth g
  obtain ⟨g1, g2, g3⟩ := h.hj i hi
  rw [e] at g1 g2 g3
  exact ⟨i, hi, .inl e, g2, g3⟩
 ·obtain ⟨i, hi, e⟩ := mem_nth g
  obtain ⟨g1, g2, g3⟩ := h.hj i hi
  rw [e] at g1 g2 g3
  exact ⟨i, hi, .inr e, g1, g3.swap⟩
theorem Inv.edOk {G ρ H} (h : Inv G ρ [] H) : EdOk G.N G.E.length G.D (fun a b => ρ a = ρ b) where
 dl := h.ld
 sm := h.sm
 al := fun u hu => ⟨(h.nf u hu).2.1, fun a ha => Nat.lt_trans ((h.nf u hu).2.2 a ha) hu⟩
 ok := fun v hv hs => by
  obtain ⟨i, hi, _, g2, g3⟩ := h.edge hv hs
  refine ⟨g2, ?_⟩
  rcases g3 with ⟨w1, w2, _⟩ | ⟨w1, w2⟩
  ·exact .inl ⟨w1, w2⟩
  ·exact .inr ⟨w1, w2.mono fun a b hab => hc_rho h (Nat.le_of_lt hi) hab⟩
def Pk (D : List Ed) (H : List Pr) (k y : Nat) : Prop := ∃ i, i < k ∧ i < H.length ∧ (nth H i = ⟨y, (nth D y).to, (nth D y).why⟩ ∨ nth H i = ⟨(nth D y).to, y, (nth D y).why⟩)
def Ek (D : List Ed) (H : List Pr) (k v e : Nat) : Prop := Pa D (Pk D H k) v e ∧ ¬ (e < D.length ∧ (nth D e).some = true ∧ Pk D H k e)
theorem Ek.step {D H k v e} (h : v < D.length) (hs : (nth D v).some = true) (hp : Pk D H k v) : Ek D H k v e ↔ Ek D H k (nth D v).to e := by
 constructor
 ·rintro ⟨h1, h2⟩
  cases h1 with
  | refl => exact absurd ⟨h, hs, hp⟩ h2
  | step _ _ _ hr => exact ⟨hr, h2⟩
 ·rintro ⟨h1, h2⟩
  exact ⟨.step h hs hp h1, h2⟩
theorem Ek.ex {D H k v e j} (h : En D v e j) : ∃ e', Ek D H k v e' := by
 induction h with
 | @stop v h hs => exact ⟨v, .refl, fun hc => by rw [hs] at hc; cases hc.2.1⟩
 | @step v e j h hs hr ih =>
  by_cases hp : Pk D H k v
  ·obtain ⟨e', he⟩ := ih; exact ⟨e', (Ek.step h hs hp).2 he⟩
  ·exact ⟨v, .refl, fun hc => hp hc.2.2⟩
theorem Ek.conn {D : List Ed} {H : List Pr} {k : Nat} (hl : ∀ p ∈ H, E1 D p.a p.b p.why ∨ E1 D p.b p.a p.why) {u v : Nat} (h : Hc (H.take k) u v) : ∀ e, Ek D H k u e ↔ Ek D H k v e := by
 unfold Hc at h
 induction h with
 | refl => exact fun _ => Iff.rfl
 | symm _ ih => exact fun e => (ih e).symm
 | trans _ _ i1 i2 => exact fun e => (i1 e).trans (i2 e)
 | base h =>
  obtain ⟨p, hp, e1, e2⟩ := h
  intro e
  rw [← e1, ← e2]
  obtain ⟨i, hi, hpi⟩ := List.mem_take_iff_getElem.1 hp
  have hil : i < H.length := by omega
  have hn : nth H i = p := by rw [← hpi]; simp [nth, hil]
  rcases hl p (List.mem_of_mem_take hp) with ⟨g1, g2⟩ | ⟨g1, g2⟩
  ·have := Ek.step (H := H) (k := k) (e := e) g1 (by rw [g2]) ⟨i, by omega, hil, .inl (by rw [g2, hn])⟩
   rw [g2] at this; exact this
  ·have := Ek.step (H := H) (k := k) (e := e) g1 (by rw [g2]) ⟨i, by omega, hil, .inr (by rw [g2, hn])⟩
   rw [g2] at this; exact this.symm
theorem expl_sound {G ρ H} (h : Inv G ρ [] H) {need : List Bool} {S : Nat × Nat → Prop} {E' : List (Nat × Nat)} (hE' : ∀ i, i < G.E.length → nth need i = true → nth G.E i ∈ E')
  (hS : ∀ p, S p → p.1 = p.2 ∨ Wy G.N G.D need S p) : ∀ (n k : Nat), k ≤ n → k ≤ H.length → ∀ p : Nat × Nat, S p → p.1 < G.N.length → p.2 < G.N.length → Hc (H.take k) p.1 p.2 → Eqv G.N E' p.1 p.2 := by
 intro n
 induction n with
 | zero =>
  intro k hk hkl p hp h1 h2 hc
  have : k = 0 := by omega
  subst this
  have : p.1 = p.2 := by
   unfold Hc at hc
   generalize p.1 = u at hc
   generalize p.2 = v at hc
   induction hc with
   | refl => rfl
   | base h => obtain ⟨q, hq, _⟩ := h; simp at hq
   | symm _ ih => exact ih.symm
   | trans _ _ i1 i2 => exact i1.trans i2
  rw [this]; exact .refl
 | succ n ih =>
  intro k hk hkl p hp h1 h2 hc
  rcases hS p hp with e | ⟨m, m1, m2, m3⟩
  ·rw [e]; exact .refl
  ·obtain ⟨t, ht⟩ := h.de
   obtain ⟨⟨j, hj⟩, _⟩ := ht _ h1
   obtain ⟨e, he⟩ := Ek.ex (H := H) (k := k) hj
   have he2 := (Ek.conn h.hl hc e).1 he
   obtain ⟨n1, n2⟩ := m3 _ e he.1 he2.1
   have edge : ∀ y, y < G.D.length → (nth G.D y).some = true → Pk G.D H k y → Cv G.N G.D need S y → Eqv G.N E' y (nth G.D y).to := fun y hy hys hyp hyc => by
    obtain ⟨i, i1, i2, i3⟩ := hyp
    obtain ⟨j1, j2, j3⟩ := h.hj i i2
    have hjust : Just G.N G.E (H.take i) ⟨y, (nth G.D y).to, (nth G.D y).why⟩ ∧ (nth G.D y).to < G.N.length := by
     rcases i3 with g | g
     ·rw [g] at j1 j2 j3; exact ⟨j3, j2⟩
     ·rw [g] at j1 j2 j3; exact ⟨j3.swap, j1⟩
    obtain ⟨hjust, hto⟩ := hjust
    have hyN : y < G.N.length := by rw [← h.ld]; exact hy
    rcases hjust with ⟨w1, w2, w3⟩ | ⟨w1, c1, c2, c3, c4⟩
    ·have hm := hE' _ w2 (hyc.1 w1)
     simp only at w3 hm
     rcases w3 with w3 | w3
     ·rw [w3] at hm; exact .eqn hm
     ·rw [w3] at hm; exact .symm (.eqn hm)
    ·refine .cong hyN hto c1 c2 c3 fun j hj => ?_
     exact ih i (by omega) (by omega) (_, _) (hyc.2 w1 j hj) (Nat.lt_trans ((h.nf y hyN).2.2 _ (nth_mem hj)) hyN) (Nat.lt_trans ((h.nf _ hto).2.2 _ (nth_mem (by simp only at c2; omega))) hto) (c4 j hj)
   have walk : ∀ {x z}, Pa G.D (fun y => Pk G.D H k y ∧ Cv G.N G.D need S y) x z → Eqv G.N E' x z := fun hw => by
    induction hw with
    | refl => exact .refl
    | step h hs hp _ ih => exact .trans (edge _ h hs hp.1 hp.2) ih
   exact .trans (walk (n1.both m1)) (.symm (walk (n2.both m2)))
theorem Inv.expl {G ρ H a b} (h : Inv G ρ [] H) (ha : a < G.N.length) (hb : b < G.N.length) (he : ρ a = ρ b) :
  ∃ seen need k, All G.N G.D [] (List.replicate G.E.length false) [(a, b)] seen need k ∧ ∀ E', (∀ i, i < G.E.length → nth need i = true → nth G.E i ∈ E') → Eqv G.N E' a b := by
 have hsm := h.sm
 have hn2 : G.N.length * G.N.length ≤ 1000000 := Nat.mul_le_mul hsm hsm
 obtain ⟨seen, need, k, h1, h2, h3, h4, h5⟩ := all_ex h.edOk (fun u v hu hv huv => by
   obtain ⟨t, ht⟩ := h.de
   obtain ⟨⟨k, hk⟩, _, g⟩ := ht u hu
   obtain ⟨⟨l, hl⟩, _⟩ := ht v hv
   rw [g v hv huv.symm] at hl
   exact ⟨_, k, l, hk, hl⟩) 1000000 [(a, b)] [] (List.replicate G.E.length false)
  ((List.range (G.N.length * G.N.length)).map fun i => (i / G.N.length, i % G.N.length)) (by simpa using hn2)
  (fun p p1 p2 _ => by
   rw [List.mem_map]
   refine ⟨p.1 * G.N.length + p.2, ?_, ?_⟩
   ·rw [List.mem_range]
    have : (p.1 + 1) * G.N.length ≤ G.N.length * G.N.length := Nat.mul_le_mul_right _ p1
    rw [Nat.add_mul] at this; omega
   ·have hpos : 0 < G.N.length := by omega
    rw [Nat.mul_comm, Nat.mul_add_div hpos, Nat.mul_add_mod, Nat.div_eq_of_lt p2, Nat.mod_eq_of_lt p2]; rfl)
  (fun p hp => by rw [List.mem_singleton] at hp; subst hp; exact ⟨ha, hb, he⟩) (by simp) (by simp) (fun p hp => by cases hp)
 refine ⟨seen, need, k, h1, fun E' hE' => ?_⟩
 have hS : ∀ p : Nat × Nat, (p.1 = p.2 ∨ p ∈ seen) → p.1 = p.2 ∨ Wy G.N G.D need (fun q => q.1 = q.2 ∨ q ∈ seen) p := fun p hp => by
  rcases hp with g | g
  ·exact .inl g
  ·exact .inr (h2 p g)
 exact expl_sound h hE' hS H.length H.length (Nat.le_refl _) (Nat.le_refl _) (a, b) (h3 _ (by simp)) ha hb (by rw [List.take_length]; exact h.hr a b ha hb he)
end Go.Proofs.YtjabgfnljbnmmaaDoor
