/- A part of the proof of a law of this seat: no condition. -/
import Derived.Test.YtblmmaecklgbhaaAxFn
set_option linter.unusedVariables false
set_option linter.unusedSimpArgs false
namespace Go.Ax
attribute [local simp] look_cons

def eszB (P : Program) (d : TypeDesc) : Option (Nat × Nat) → Bool
  | none => true
  | some (n, b) => match d with
    | .slice e => match P.info? e with
      | some j => j.size == n && j.bytes == b && (match j.zero with | some z => z.cells.size == n | none => false) && decide (0 < n) && decide (0 < b)
      | none => false
    | _ => false
def fldB (P : Program) : List Field → List (Nat × Nat) → Bool
  | [], [] => true
  | f :: fs, (o, n) :: r => (match P.info? f.type with | some i => f.offset == o && i.size == n && decide (n ≠ 0) | none => false) && fldB P fs r
  | _, _ => false
def zeroB (ti : TI) : Option Value → Bool
  | some z => zcs ti.zero z.cells.toList && (!ti.isAgg || (match z with | .agg _ => true | _ => false))
  | none => false
def eqB (P : Program) (t : TypeId) (d : TypeDesc) : List Nat → Bool
  | [1] => (match d with | .bool => true | _ => false)
  | [3] => (match d with | .pointer _ => true | _ => false)
  | 10 :: ks => (match d with
    | .struct fs => fs.size == ks.length && !P.stoodInHeld t && !P.eqGuardType P.depth t && (fs.toList.zip ks).zipIdx.all fun x => x.1.1.name != "_" && x.1.1.offset == x.2 && (match P.underlying x.1.1.type with | some d => basicD x.1.2 d | none => false)
    | _ => false)
  | [] => true
  | _ => false
theorem eqB_ok {P : Program} {t : TypeId} {d : TypeDesc} {k : List Nat} (hd : P.underlying t = some d) (h : eqB P t d k = true) : EqOk P t k := by
  refine ⟨fun e => ?_, fun e => ?_, fun ks e => ?_⟩
  · subst e
    simp [eqB] at h
    cases d <;> simp at h
    exact hd
  · subst e
    simp [eqB] at h
    cases d <;> simp at h
    exact ⟨_, hd⟩
  · subst e
    simp only [eqB] at h
    cases d <;> simp only [Bool.false_eq_true] at h
    rename_i fs
    simp only [Bool.and_eq_true, Bool.not_eq_true', beq_iff_eq, List.all_eq_true] at h
    obtain ⟨⟨⟨h1, h2⟩, h3⟩, h4⟩ := h
    refine ⟨fs, hd, h1, h2, h3, fun i fd n hi hn => ?_⟩
    have := h4 ((fd, n), i) (by rw [List.mem_zipIdx_iff_getElem?]; simp only; rw [List.getElem?_zip_eq_some]; exact ⟨hi, hn⟩)
    obtain ⟨⟨g1, g2⟩, g3⟩ := this
    refine ⟨by simpa using g1, g2, ?_⟩
    cases hu : P.underlying fd.type with
    | none => rw [hu] at g3; simp at g3
    | some d => rw [hu] at g3; exact ⟨d, rfl, g3⟩
def ezB (P : Program) (d : TypeDesc) (ez : List V) : Bool :=
  ez.isEmpty || match d with
    | .slice e => match P.info? e with
      | some i => match i.zero with | some z => zcs ez z.cells.toList | none => false
      | none => false
    | _ => false
def arrB (P : Program) (d : TypeDesc) : Option (Nat × Nat) → Bool
  | none => true
  | some (n, k) => match d with
    | .array m e => m == n && match P.info? e with | some i => i.size == k | none => false
    | _ => false
def keyB (P : Program) (k : Nat) (ke : TypeId) : Bool :=
  match P.underlying ke with
  | some (.int _) => k == 2
  | some .string => k == 4
  | some (.array m e) => k == 100 && m == 2 && (match P.underlying e with | some (.int _) => true | _ => false) && (match P.info? e with | some i => i.size == 1 | none => false)
  | _ => false
def kvB (P : Program) (d : TypeDesc) : Option (Nat × V) → Bool
  | none => true
  | some (k, z) => match d with
    | .map ke e => keyB P k ke && z.pure1 && match P.info? e with
      | some i => match i.zero with | some zz => zc z zz | none => false
      | none => false
    | _ => false
def ikB (d : TypeDesc) : Option IntKind → Bool
  | none => true
  | some k => match d with | .int k' => k == k' | _ => false
def isBB (P : Program) (d : TypeDesc) (b : Bool) : Bool :=
  !b || match d with
    | .slice e => match P.underlying e with | some (.int .u8) => true | _ => false
    | _ => false
def moreB (P : Program) (d : TypeDesc) (ti : TI) : Bool := ezB P d ti.ez && arrB P d ti.arr && kvB P d ti.kv && ikB d ti.ik && isBB P d ti.isB
theorem keyB_ok {P : Program} {k : Nat} {ke : TypeId} (h : keyB P k ke = true) : KeyOk P k ke := by
  unfold keyB at h
  split at h
  · rename_i i hu
    simp at h
    subst h
    exact ⟨fun _ => ⟨i, hu⟩, by simp, by simp, .inl rfl⟩
  · rename_i hu
    simp at h
    subst h
    exact ⟨by simp, fun _ => hu, by simp, .inr (.inl rfl)⟩
  · rename_i m e hu
    simp only [Bool.and_eq_true, beq_iff_eq] at h
    obtain ⟨⟨⟨rfl, rfl⟩, h3⟩, h4⟩ := h
    refine ⟨by simp, by simp, fun _ => ?_, .inr (.inr rfl)⟩
    cases hi : P.info? e with
    | none => rw [hi] at h4; simp at h4
    | some j =>
      rw [hi] at h4
      cases hue : P.underlying e with
      | none => rw [hue] at h3; simp at h3
      | some d =>
        rw [hue] at h3
        cases d <;> simp at h3
        rename_i i
        exact ⟨e, i, j, hu, hue, hi, by simpa using h4⟩
  · simp at h
def tiB (P : Program) (t : TypeId) (ti : TI) : Bool :=
  match P.info? t, P.underlying t with
  | some i, some d =>
    i.size == ti.size && zeroB ti i.zero && (ti.isAgg || ti.size == 1) && ti.isAgg == aggD d && eszB P d ti.esz &&
    (match d with | .struct fs => fldB P fs.toList ti.flds | _ => ti.flds.isEmpty) &&
    (!ti.isStr || (match d with | .string => true | _ => false)) && eqB P t d ti.eqk && moreB P d ti
  | _, _ => false

theorem fldB_get {P : Program} : ∀ {fs : List Field} {l : List (Nat × Nat)}, fldB P fs l = true → fs.length = l.length ∧
    ∀ k (hk : k < fs.length) (hk' : k < l.length), ∃ i, P.info? fs[k].type = some i ∧ l[k] = (fs[k].offset, i.size) ∧ i.size ≠ 0
  | [], [], _ => ⟨rfl, by simp⟩
  | f :: fs, (o, n) :: l, h => by
    simp only [fldB, Bool.and_eq_true] at h
    obtain ⟨h1, h2⟩ := h
    obtain ⟨g1, g2⟩ := fldB_get h2
    refine ⟨by simp [g1], fun k hk hk' => ?_⟩
    cases k with
    | zero =>
      cases hi : P.info? f.type with
      | none => rw [hi] at h1; simp at h1
      | some i =>
        rw [hi] at h1
        simp at h1
        obtain ⟨⟨rfl, rfl⟩, h3⟩ := h1
        exact ⟨i, hi, rfl, h3⟩
    | succ k => exact g2 k (by simpa using hk) (by simpa using hk')
  | [], _ :: _, h => by simp [fldB] at h
  | _ :: _, [], h => by simp [fldB] at h

theorem tiB_ok {P : Program} {t : TypeId} {ti : TI} (h : tiB P t ti = true) : TIok P t ti := by
  unfold tiB at h
  split at h
  · rename_i i d hi hd
    simp only [Bool.and_eq_true] at h
    obtain ⟨⟨⟨⟨⟨⟨⟨⟨h1, h2⟩, h3⟩, h4⟩, h5⟩, h6⟩, h7⟩, h8⟩, h9⟩ := h
    simp only [moreB, Bool.and_eq_true] at h9
    obtain ⟨⟨⟨⟨m1, m2⟩, m3⟩, m4⟩, m5⟩ := h9
    refine ⟨?_, ⟨d, hd, by simpa using h4⟩, ?_, ?_, ?_, ?_, ?_, ?_, ?_, ?_, ?_, ?_⟩
    · cases hz : i.zero with
      | none => rw [hz] at h2; simp [zeroB] at h2
      | some z =>
        rw [hz] at h2
        simp only [zeroB, Bool.and_eq_true, Bool.or_eq_true, Bool.not_eq_true'] at h2
        refine ⟨i, z, hi, by simpa using h1, hz, h2.1, fun ha => ?_, fun ha => ?_⟩
        · rcases h2.2 with h | h
          · rw [ha] at h; simp at h
          · cases z <;> simp at h
            exact ⟨_, rfl⟩
        · rw [ha] at h3
          simpa using h3
    · intro n b he
      rw [he] at h5
      simp only [eszB] at h5
      cases d <;> simp at h5
      rename_i e
      cases hj : P.info? e with
      | none => rw [hj] at h5; simp at h5
      | some j =>
        rw [hj] at h5
        simp at h5
        obtain ⟨⟨⟨⟨a1, a2⟩, a3⟩, a4⟩, a5⟩ := h5
        cases hz : j.zero with
        | none => rw [hz] at a3; simp at a3
        | some z =>
          rw [hz] at a3
          simp at a3
          exact ⟨e, j, z, hd, hj, a1, a2, hz, a3, a4, a5⟩
    · intro f off n hf
      cases d <;> simp at h6
      all_goals try (rw [h6] at hf; simp at hf; done)
      rename_i fs
      obtain ⟨g1, g2⟩ := fldB_get h6
      obtain ⟨hlt, he⟩ := List.getElem?_eq_some_iff.1 hf
      obtain ⟨j, k1, k2, k3⟩ := g2 f (by rw [g1]; exact hlt) hlt
      rw [he] at k2
      simp at k2
      obtain ⟨rfl, rfl⟩ := k2
      have hfl : f < fs.size := by have := g1; simp at this; omega
      refine ⟨fs, fs[f], j, hd, by simp [hfl], ?_, ?_, rfl, k3⟩
      · simp
      · simpa using k1
    · intro fs hfs k fd hk
      rw [hd] at hfs
      injection hfs with hfs
      subst hfs
      simp at h6
      obtain ⟨g1, g2⟩ := fldB_get h6
      obtain ⟨hlt, he⟩ := Array.getElem?_eq_some_iff.1 hk
      have hl2 : k < ti.flds.length := by rw [← g1]; simpa using hlt
      obtain ⟨j, k1, k2, k3⟩ := g2 k (by simpa using hlt) hl2
      simp only [Array.getElem_toList, he] at k1 k2
      exact ⟨j, k1, by rw [List.getElem?_eq_getElem hl2, k2]⟩
    · intro hs
      rw [hs] at h7
      cases d <;> simp at h7
      exact hd
    · exact eqB_ok hd h8
    · intro n b he hez
      simp only [ezB, Bool.or_eq_true, List.isEmpty_iff] at m1
      rcases m1 with m1 | m1
      · exact absurd m1 hez
      · cases d <;> simp at m1
        rename_i e
        cases hj : P.info? e with
        | none => rw [hj] at m1; simp at m1
        | some j =>
          rw [hj] at m1
          simp only at m1
          cases hz : j.zero with
          | none => rw [hz] at m1; simp at m1
          | some z =>
            rw [hz] at m1
            exact ⟨e, j, z, hd, hj, hz, m1⟩
    · intro n k he
      rw [he] at m2
      simp only [arrB] at m2
      cases d <;> simp at m2
      rename_i m e
      obtain ⟨rfl, m2⟩ := m2
      cases hj : P.info? e with
      | none => rw [hj] at m2; simp at m2
      | some j =>
        rw [hj] at m2
        exact ⟨e, j, hd, hj, by simpa using m2⟩
    · intro k z he
      rw [he] at m3
      simp only [kvB] at m3
      cases d <;> simp at m3
      rename_i ke e
      obtain ⟨⟨m3, m6⟩, m7⟩ := m3
      cases hj : P.info? e with
      | none => rw [hj] at m7; simp at m7
      | some j =>
        rw [hj] at m7
        simp only at m7
        cases hz : j.zero with
        | none => rw [hz] at m7; simp at m7
        | some zz =>
          rw [hz] at m7
          exact ⟨ke, e, j, zz, hd, keyB_ok m3, hj, hz, m7, m6⟩
    · intro k he
      rw [he] at m4
      simp only [ikB] at m4
      cases d <;> simp at m4
      rw [m4]
      exact hd
    · intro he
      rw [he] at m5
      simp only [isBB, Bool.not_true, Bool.false_or] at m5
      cases d <;> simp at m5
      rename_i e
      refine ⟨e, hd, ?_⟩
      cases hu : P.underlying e with
      | none => rw [hu] at m5; simp at m5
      | some d' =>
        rw [hu] at m5
        revert m5
        split
        · rename_i e'
          injection e' with e'
          intro _
          rw [e']
        · intro m5; simp at m5
  · simp at h

def tabT (l : List (Nat × TI)) (t : Nat) : Option TI := l.lookup t
theorem tab_ok {P : Program} {l : List (Nat × TI)} (h : (l.all fun x => tiB P x.1 x.2) = true) : TabOk P (tabT l) := by
  intro t ti ht
  have : (t, ti) ∈ l := by
    unfold tabT at ht
    induction l with
    | nil => simp at ht
    | cons x l ih =>
      obtain ⟨u, v⟩ := x
      simp only [List.lookup] at ht
      split at ht
      · rename_i he
        simp at he ht
        subst he; subst ht
        simp
      · simp only [List.all_cons, Bool.and_eq_true] at h
        exact List.mem_cons_of_mem _ (ih h.2 ht)
  exact tiB_ok (by simpa using List.all_eq_true.1 h _ this)
end Go.Ax
