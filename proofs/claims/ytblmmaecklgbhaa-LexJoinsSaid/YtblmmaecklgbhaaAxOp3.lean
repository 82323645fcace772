/- A part of the proof of a law of this seat: no condition. -/
import Derived.Test.YtblmmaecklgbhaaAxOp2
set_option linter.unusedVariables false
set_option linter.unusedSimpArgs false
namespace Go.Ax
attribute [local simp] look_cons
section
variable {P : Program} {T : Nat → Option TI} {M : Mode} {H H' : Heap} {μ μ' : Oid → Option Nat} {F : Fr} {st st' : St} {tm tm' : Nat → Value} {w w' : World} {ρ : Operand → Value}

theorem evs_rep (hr : Rel H μ F st tm w) (hρ : Env ρ tm) {xs : List Operand} {vs : List V} (h : (evs xs).run st = some vs) :
    vs.length = xs.length ∧ ∀ j (hj : j < vs.length) (hj' : j < xs.length), RepS H μ vs[j] (ρ xs[j]) ∧ (ev xs[j]).run st = some vs[j] := by
  induction xs generalizing vs with
  | nil => simp [evs, Rd.run] at h; subst h; simp
  | cons x xs ih =>
    obtain ⟨v, hv, h⟩ := rd_bind _ _ _ h
    obtain ⟨us, hus, h⟩ := rd_bind _ _ _ h
    have := rd_pure h
    subst this
    obtain ⟨h1, h2⟩ := ih hus
    refine ⟨by simp [h1], fun j hj hj' => ?_⟩
    cases j with
    | zero => exact ⟨ev_rep hr hρ hv, hv⟩
    | succ j => exact h2 j (by simpa using hj) (by simpa using hj')
theorem evOpt_rep (hr : Rel H μ F st tm w) (hρ : Env ρ tm) {x : Option Operand} {v : Option V} (h : (evOpt x).run st = some v) :
    (x = none ∧ v = none) ∨ ∃ y u, x = some y ∧ v = some u ∧ RepS H μ u (ρ y) := by
  cases x with
  | none => simp [evOpt, Rd.run] at h; exact .inl ⟨rfl, h.symm⟩
  | some y =>
    obtain ⟨u, hu, h⟩ := rd_bind _ _ _ h
    have := rd_pure h
    subst this
    exact .inr ⟨y, u, rfl, rfl, ev_rep hr hρ hu⟩


theorem list1 {α : Type} {l : Array α} (h : l.toList.length = 1) : ∃ x, l = #[x] := by
  obtain ⟨l⟩ := l
  match l, h with
  | [x], _ => exact ⟨x, rfl⟩
theorem list2 {α : Type} {l : Array α} (h : l.toList.length = 2) : ∃ x y, l = #[x, y] := by
  obtain ⟨l⟩ := l
  match l, h with
  | [x, y], _ => exact ⟨x, y, rfl⟩
theorem good_len (hT : TabOk P T) (hr : Rel H μ F st tm w) (hρ : Env ρ tm) {o : Oper} {args : Array Operand} {at' : Array TypeId}
    (ho : o.op = .call { callee := .builtin .len, args := args, argTypes := at' }) {l : List Wr}
    (h : (opS T M o).run st = some (.ws l)) : Good P H μ F tm w o.dst (st.app l) (execOp ρ o) := by
  unfold opS at h
  rw [ho] at h
  replace h := rd_bind _ _ _ h
  obtain ⟨vs, hvs, h⟩ := h
  obtain ⟨h1, h2⟩ := evs_rep hr hρ hvs
  replace h := rd_bind _ _ _ h
  obtain ⟨t, ht, h⟩ := h
  have ht := rd_rOpt ht
  replace h := rd_bind _ _ _ h
  obtain ⟨ti, hti, h⟩ := h
  have hti := hT _ _ (rd_rOpt hti)
  split at h
  · rename_i s
    obtain ⟨x, rfl⟩ := list1 (h1.symm)
    have e1 := (h2 0 (by simp) (by simp)).1.str
    simp at e1
    split at h
    · rename_i hs
      have := rd_pure h
      injection this with this
      subst this
      refine good_val (v := .int .i64 s.length) hr ?_ rep_int rfl
      simp [execOp, ho, resolve, invoke, builtin, Builtin.len_, ht, e1, runUnder (hti.str hs), goInt, bytes_size]
    · simp [Rd.run] at h
  · rename_i sz u n
    obtain ⟨x, rfl⟩ := list1 (h1.symm)
    have e1 := (h2 0 (by simp) (by simp)).1
    simp at e1
    split at h
    · rename_i hs
      have := rd_pure h
      injection this with this
      subst this
      obtain ⟨⟨p, q⟩, hp⟩ := Option.isSome_iff_exists.1 hs
      obtain ⟨e, ie, z, g1, _⟩ := hti.esz _ _ hp
      refine good_val (v := .int .i64 n) hr ?_ rep_int rfl
      rcases e1.sl with ⟨e3, e2⟩ | ⟨b, c, e2, _⟩
      · subst e3
        simp [execOp, ho, resolve, invoke, builtin, Builtin.len_, ht, e2, runUnder g1, goInt]
      · simp [execOp, ho, resolve, invoke, builtin, Builtin.len_, ht, e2, runUnder g1, goInt]
    · simp [Rd.run] at h
  · rename_i v hv0 _
    obtain ⟨x, rfl⟩ := list1 (h1.symm)
    have e1 := (h2 0 (by simp) (by simp)).1
    simp at e1
    replace h := rd_bind _ _ _ h
    obtain ⟨⟨sz, xs⟩, he, h⟩ := h
    have he := rd_rOpt he
    dsimp only at h
    split at h
    · rename_i hs
      have := rd_pure h
      injection this with this
      subst this
      obtain ⟨⟨p, q⟩, hp⟩ := Option.isSome_iff_exists.1 hs
      obtain ⟨e, ie, z, g1, _⟩ := hti.esz _ _ hp
      refine good_val (v := .int .i64 xs.length) hr ?_ rep_int rfl
      rcases e1.elems he with ⟨e2, e3⟩ | ⟨b, off, c, e2, _, _⟩
      · subst e3
        simp [execOp, ho, resolve, invoke, builtin, Builtin.len_, ht, e2, runUnder g1, goInt]
      · simp [execOp, ho, resolve, invoke, builtin, Builtin.len_, ht, e2, runUnder g1, goInt]
    · simp [Rd.run] at h
  · simp [Rd.run] at h

theorem bound_run {n : Int} {y : Nat} {c : BoundsCode} (h0 : 0 ≤ n) (h1 : n ≤ y) (w : World) : (Instr.sliceBound (.int .i64 n) y c).run P w = .ok n.toNat w := by
  simp [Instr.sliceBound, asIntOf, h0, h1]

theorem bounds_run (isS : Bool) (len cap : Nat) (lo hi : Option Value) (nl nh : Int) (hlo : lo = none ∧ nl = 0 ∨ lo = some (.int .i64 nl))
    (hhi : hi = none ∧ nh = len ∨ hi = some (.int .i64 nh)) (b0 : 0 ≤ nl) (b1 : nl ≤ nh) (b2 : nh ≤ len) (b3 : len ≤ cap) (w : World) :
    (Instr.sliceBounds isS len cap lo hi none).run P w = .ok (nl.toNat, nh.toNat, cap) w := by
  have b4 : nh ≤ (cap : Int) := by omega
  have b5 : 0 ≤ nh := by omega
  have b6 : (nh.toNat : Int) = nh := by omega
  rcases hlo with ⟨rfl, rfl⟩ | rfl <;> rcases hhi with ⟨rfl, rfl⟩ | rfl
  · simp [Instr.sliceBounds]
  · simp [Instr.sliceBounds, Instr.sliceBound, asIntOf, b4, b5]
  · simp [Instr.sliceBounds, Instr.sliceBound, asIntOf, b0, b1]
  · simp [Instr.sliceBounds, Instr.sliceBound, asIntOf, b0, b1, b4, b5, b6]
theorem bndS_run (hr : Rel H μ F st tm w) (hρ : Env ρ tm) {lo : Option Operand} {vl : Option V} (h : (evOpt lo).run st = some vl) {d : Nat} {n : Int} (hn : bndS d vl = some n) :
    lo.map ρ = none ∧ n = d ∨ lo.map ρ = some (.int .i64 n) := by
  rcases evOpt_rep hr hρ h with ⟨rfl, rfl⟩ | ⟨y, u, rfl, rfl, hu⟩
  · simp [bndS] at hn
    exact .inl ⟨rfl, hn.symm⟩
  · unfold bndS at hn
    split at hn
    · rename_i he; simp at he
    · rename_i m he
      injection he with he
      subst he
      injection hn with hn
      subst hn
      exact .inr (by simp [hu.int])
    · simp at hn
theorem extract_list (s : List UInt8) (l h : Nat) : (⟨s.toArray⟩ : ByteArray).extract l h = ⟨((s.take h).drop l).toArray⟩ := by
  have : ((⟨s.toArray⟩ : ByteArray).extract l h).data = ((s.take h).drop l).toArray := by
    rw [ByteArray.data_extract]
    simp [List.extract_toArray, List.extract_eq_take_drop, List.drop_take]
  cases hx : (⟨s.toArray⟩ : ByteArray).extract l h
  rw [hx] at this
  simp at this
  simp [this]
/-- A part of a text or of a slice. -/
theorem slice_run (hr : Rel H μ F st tm w) (hρ : Env ρ tm) {o : Oper} {t : TypeId} {x : Operand} {lo hi : Option Operand} (ho : o.op = .slice t x lo hi none) {ti : TI} (hti : TIok P t ti) {a v : V} {vl vh : Option V}
    (hra : RepS H μ a (ρ x)) (hl : (evOpt lo).run st = some vl) (hh : (evOpt hi).run st = some vh) (hv : sliceS ti a vl vh = some v) :
    ∃ u, (execOp ρ o).run P w = .ok (.value u) w ∧ RepS H μ v u ∧ v.isOwn = false ∧
      ∀ sz xs nl nh, a.elems = some (sz, xs) → bndS 0 vl = some nl → bndS xs.length vh = some nh → v = .slice sz ((xs.take nh.toNat).drop nl.toNat) ∧ 0 ≤ nl ∧ nl ≤ nh ∧ nh ≤ xs.length ∧ ti.esz.map (·.1) = some sz ∧
        ((ρ x = .slice none 0 0 ∧ u = .slice none 0 0) ∨ ∃ b off c, ρ x = .slice (some ⟨b, off, none⟩) xs.length c ∧ xs.length ≤ c ∧
          u = .slice (some ⟨b, if c = nl.toNat then off else off + nl.toNat * sz, none⟩) (nh.toNat - nl.toNat) (c - nl.toNat)) := by
  unfold sliceS at hv
  split at hv
  · rename_i s
    have es := hra.str
    split at hv
    · rename_i nl nh e1 e2
      split at hv
      · rename_i hb
        obtain ⟨b0, b1, b2, b3⟩ := hb
        injection hv with hv
        subst hv
        have k1 := fun w => bounds_run (P := P) false s.length s.length (lo.map ρ) (hi.map ρ) nl nh (by simpa using bndS_run hr hρ hl e1) (bndS_run hr hρ hh e2) b0 b1 b2 (Nat.le_refl _) w
        refine ⟨.string ⟨((s.take nh.toNat).drop nl.toNat).toArray⟩, ?_, rep_str, rfl, fun sz xs nl nh he => by simp [V.elems] at he⟩
        simp only [execOp, ho, Sem.run_bind, Instr.sliceAt, runUnder (hti.str b3), Result.andThen_ok, es, Option.map_none, Instr.slice, Option.isSome_none, Bool.false_eq_true, if_false, bytes_size, k1, Sem.run_pure, extract_list]
      · simp at hv
    · simp at hv
  · split at hv
    · rename_i sz xs he
      split at hv
      · rename_i nl nh e1 e2
        split at hv
        · rename_i hb
          obtain ⟨b0, b1, b2, b3⟩ := hb
          injection hv with hv
          subst hv
          obtain ⟨p, hp⟩ := esz_of b3
          obtain ⟨e, ie, z, g1, g2, g3, g4, g5⟩ := hti.esz _ _ hp
          have hlen : ((xs.take nh.toNat).drop nl.toNat).length = nh.toNat - nl.toNat := by rw [List.length_drop, List.length_take]; omega
          rcases hra.elems he with ⟨e3, e4⟩ | ⟨b, off, c, e3, hc, hrow⟩
          · subst e4
            have hl0 : nl = 0 := by simp at b2; omega
            have hh0 : nh = 0 := by simp at b2; omega
            subst hl0; subst hh0
            have k1 := fun w => bounds_run (P := P) true 0 0 (lo.map ρ) (hi.map ρ) 0 0 (by simpa using bndS_run hr hρ hl e1) (bndS_run hr hρ hh e2) (by omega) (by omega) (by omega) (Nat.le_refl _) w
            refine ⟨.slice none 0 0, ?_, .two _ _ (.one _ _ (.data _ _ (by simpa using RepD.slice0 sz))), rfl, fun sz' xs' nl nh he' h1 h2 => ?_⟩
            · simp only [execOp, ho, Sem.run_bind, Instr.sliceAt, runUnder g1, Result.andThen_ok, e3, Option.map_none, Instr.slice, k1, Sem.run_pure, runSize g2]
              simp
            · rw [he] at he'
              simp at he'
              obtain ⟨rfl, rfl⟩ := he'
              rw [e1] at h1
              rw [e2] at h2
              injection h1 with h1
              injection h2 with h2
              subst h1; subst h2
              exact ⟨rfl, by omega, by omega, by omega, b3, .inl ⟨e3, rfl⟩⟩
          · have k1 := fun w => bounds_run (P := P) true xs.length c (lo.map ρ) (hi.map ρ) nl nh (by simpa using bndS_run hr hρ hl e1) (bndS_run hr hρ hh e2) b0 b1 b2 hc w
            have hrow' : RepRow H sz b (off + nl.toNat * sz) ((xs.take nh.toNat).drop nl.toNat) := (hrow.take nh.toNat).drop nl.toNat (by rw [List.length_take]; omega)
            have hfin : ∀ u, u = Value.slice (some ⟨b, if c = nl.toNat then off else off + nl.toNat * sz, none⟩) (nh.toNat - nl.toNat) (c - nl.toNat) → ∀ sz' xs' nl' nh', a.elems = some (sz', xs') → bndS 0 vl = some nl' → bndS xs'.length vh = some nh' → V.slice sz ((xs.take nh.toNat).drop nl.toNat) = .slice sz' ((xs'.take nh'.toNat).drop nl'.toNat) ∧ 0 ≤ nl' ∧ nl' ≤ nh' ∧ nh' ≤ xs'.length ∧ ti.esz.map (·.1) = some sz' ∧
                ((ρ x = .slice none 0 0 ∧ u = .slice none 0 0) ∨ ∃ b off c, ρ x = .slice (some ⟨b, off, none⟩) xs'.length c ∧ xs'.length ≤ c ∧
                  u = .slice (some ⟨b, if c = nl'.toNat then off else off + nl'.toNat * sz', none⟩) (nh'.toNat - nl'.toNat) (c - nl'.toNat)) := by
              intro u hu sz' xs' nl' nh' he' h1 h2
              rw [he] at he'
              simp at he'
              obtain ⟨rfl, rfl⟩ := he'
              rw [e1] at h1
              rw [e2] at h2
              injection h1 with h1
              injection h2 with h2
              subst h1; subst h2
              exact ⟨rfl, b0, b1, b2, b3, .inr ⟨b, off, c, e3, hc, hu⟩⟩
            by_cases hcl : c = nl.toNat
            · -- nothing is left: the old address stays
              have hz : (xs.take nh.toNat).drop nl.toNat = [] := List.eq_nil_of_length_eq_zero (by rw [hlen]; omega)
              refine ⟨.slice (some ⟨b, off, none⟩) ([] : List V).length (c - nl.toNat), ?_, ?_, rfl, hfin _ ?_⟩
              · simp only [execOp, ho, Sem.run_bind, Instr.sliceAt, runUnder g1, Result.andThen_ok, e3, Option.map_none, Instr.slice, k1, Sem.run_pure, runSize g2]
                rw [← hz, hlen]
                simp [hcl]
              · rw [hz]
                exact .two _ _ (.one _ _ (.data _ _ (.slice _ _ _ _ _ (.nil _ _ _) (by simp))))
              · rw [if_pos hcl, ← hz, hlen]
            · refine ⟨.slice (some ⟨b, off + nl.toNat * sz, none⟩) ((xs.take nh.toNat).drop nl.toNat).length (c - nl.toNat), ?_, ?_, rfl, hfin _ ?_⟩
              · simp only [execOp, ho, Sem.run_bind, Instr.sliceAt, runUnder g1, Result.andThen_ok, e3, Option.map_none, Instr.slice, k1, Sem.run_pure, runSize g2, g3, hlen]
                rw [if_neg hcl]
                simp [addr_off]
              · exact .two _ _ (.one _ _ (.data _ _ (.slice _ _ _ _ _ hrow' (by rw [hlen]; omega))))
              · rw [if_neg hcl, hlen]
        · simp at hv
      · simp at hv
    · simp at hv
theorem fixT_own {ti : Option TI} {sz : Nat} {xs : List V} : fixT ti (.own sz xs) = .own sz xs := rfl
theorem good_slice (hT : TabOk P T) (hr : Rel H μ F st tm w) (hρ : Env ρ tm) {o : Oper} {t : TypeId} {x : Operand} {lo hi : Option Operand} (ho : o.op = .slice t x lo hi none) {l : List Wr}
    (h : (opS T M o).run st = some (.ws l)) : Good P H μ F tm w o.dst (st.app l) (execOp ρ o) := by
  unfold opS at h
  rw [ho] at h
  replace h := rd_bind _ _ _ h
  obtain ⟨a, ha, h⟩ := h
  have hra := ev_rep hr hρ ha
  replace h := rd_bind _ _ _ h
  obtain ⟨vl, hl, h⟩ := h
  replace h := rd_bind _ _ _ h
  obtain ⟨vh, hh, h⟩ := h
  replace h := rd_bind _ _ _ h
  obtain ⟨ti, hti, h⟩ := h
  have hti := hT _ _ (rd_rOpt hti)
  split at h
  · rename_i sz u n
    split at h
    · rename_i nl nh e1 e2
      split at h
      · rename_i hc
        obtain ⟨c0, c1, c2, c3⟩ := hc
        have := rd_pure h
        injection this with this
        subst this
        subst c0
        obtain ⟨p, hp⟩ := esz_of c3
        obtain ⟨e, ie, z, g1, g2, g3, g4, g5⟩ := hti.esz _ _ hp
        rcases hra.sl with ⟨n0, e3⟩ | ⟨b, c, e3, hb, hn, hs⟩
        · subst n0
          have hh0 : nh = 0 := by omega
          subst hh0
          have k1 := fun w => bounds_run (P := P) true 0 0 (lo.map ρ) (hi.map ρ) 0 0 (by simpa using bndS_run hr hρ hl e1) (by simpa using bndS_run hr hρ hh e2) (by omega) (by omega) (by omega) (Nat.le_refl _) w
          refine good_val (v := .slice none 0 0) hr ?_ (.two _ _ (.one _ _ (.sl0 _ _))) rfl
          simp only [execOp, ho, Sem.run_bind, Instr.sliceAt, runUnder g1, Result.andThen_ok, e3, Option.map_none, Instr.slice, k1, Sem.run_pure, runSize g2]
          simp
        · have k1 := fun w => bounds_run (P := P) true n c (lo.map ρ) (hi.map ρ) 0 nh (by simpa using bndS_run hr hρ hl e1) (bndS_run hr hρ hh e2) (by omega) c1 (by omega) hn w
          refine good_val (v := .slice (some ⟨b, 0, none⟩) nh.toNat c) hr ?_ (.two _ _ (.one _ _ (.sl _ _ _ _ _ hb (by omega) hs))) rfl
          simp only [execOp, ho, Sem.run_bind, Instr.sliceAt, runUnder g1, Result.andThen_ok, e3, Option.map_none, Instr.slice, k1, Sem.run_pure, runSize g2]
          simp [addr_off]
      · simp [Rd.run] at h
    · simp [Rd.run] at h
  · rename_i hnot
    replace h := rd_bind _ _ _ h
    obtain ⟨v, hv, h⟩ := h
    replace hv := rd_rOpt hv
    obtain ⟨u, h1, h2, h3, h4⟩ := slice_run (P := P) hr hρ ho hti hra hl hh hv
    split at h
    · rename_i sz xs _
      split at h
      · rename_i nl nh e1 e2
        split at h
        · rename_i hc
          have := rd_pure h
          injection this with this
          subst this
          obtain ⟨g1, g2, g3, g4, g5, g6⟩ := h4 sz xs nl nh rfl e1 e2
          rw [St.app_append]
          obtain ⟨k1, k2⟩ := giveUp_rel (ti := none) hr hρ ha rfl
          rw [fixT_own] at k1 k2
          have hnh : nh.toNat = xs.length := by omega
          rw [hnh, List.take_of_length_le (Nat.le_refl _)] at g1
          refine good_same h1 (out_rel k1 ?_ ?_)
          · rcases g6 with ⟨q1, q2⟩ | ⟨b, off, c, q1, q2, q3⟩
            · subst q2
              have : xs = [] := by
                rcases hra.elems (sz := sz) (xs := xs) rfl with ⟨_, q⟩ | ⟨b, off, c, q, _⟩
                · exact q
                · rw [q1] at q; simp at q
              subst this
              exact .two _ _ (.one _ _ (by simpa using Rep1.own0 sz))
            · rw [q3]
              rcases hra.elems (sz := sz) (xs := xs) rfl with ⟨q, _⟩ | ⟨b', off', c', q, hc', hrow⟩
              · rw [q1] at q; simp at q
              · rw [q1] at q
                simp only [Value.slice.injEq, Option.some.injEq, Addr.mk.injEq, true_and] at q
                obtain ⟨⟨rfl, rfl, _⟩, rfl⟩ := q
                have hl2 : nh.toNat - nl.toNat = (xs.drop nl.toNat).length := by rw [List.length_drop]; omega
                rw [hl2]
                refine .two _ _ (.one _ _ (.own _ _ _ _ _ ?_ (by rw [List.length_drop]; omega)))
                split
                · rw [List.drop_eq_nil_of_le (by omega)]; exact .nil _ _ _
                · exact hrow.drop nl.toNat (by omega)
          · intro sz' xs' b off n c q1 q2
            simp only [V.own.injEq] at q1
            obtain ⟨rfl, rfl⟩ := q1
            rcases g6 with ⟨_, q3⟩ | ⟨b', off', c', q3, q4, q5⟩
            · rw [q3] at q2; simp at q2
            · rw [q5] at q2
              simp only [Value.slice.injEq, Option.some.injEq, Addr.mk.injEq] at q2
              obtain ⟨⟨rfl, rfl, _⟩, rfl, rfl⟩ := q2
              obtain ⟨⟨r1, r2, r3, r4⟩, r5⟩ := k2 _ _ _ _ _ _ rfl q3
              refine ⟨?_, r5⟩
              by_cases hcl : c' = nl.toNat
              · rw [if_pos hcl]
                have hz : c' - nl.toNat = 0 := by omega
                obtain ⟨vs, ty, r6, r7⟩ := r1
                refine ⟨⟨vs, ty, r6, ?_⟩, fun k hk hk2 => ?_, r3, r4⟩
                · rw [hz]
                  have : off' ≤ off' + c' * sz := Nat.le_add_right _ _
                  omega
                · rw [hz] at hk2
                  have : off' ≤ off' + (nh.toNat - nl.toNat) * sz := Nat.le_add_right _ _
                  omega
              · rw [if_neg hcl]
                have a1 : off' + nl.toNat * sz + (nh.toNat - nl.toNat) * sz = off' + xs.length * sz := by
                  rw [Nat.add_assoc, ← Nat.add_mul]; congr 2; omega
                have a2 : off' + nl.toNat * sz + (c' - nl.toNat) * sz = off' + c' * sz := by
                  rw [Nat.add_assoc, ← Nat.add_mul]; congr 2; omega
                rw [a1, a2]
                exact ⟨r1, r2, r3, r4⟩
        · simp [Rd.run] at h
      · simp [Rd.run] at h
    · have := rd_pure h
      injection this with this
      subst this
      exact good_val hr h1 h2 h3
end
end Go.Ax
