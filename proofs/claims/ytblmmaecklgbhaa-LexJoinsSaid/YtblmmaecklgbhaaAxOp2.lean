/- A part of the proof of a law of this seat: no condition. -/
import Derived.Test.YtblmmaecklgbhaaAxOp
import Derived.Laws.Strings
import Derived.Laws.StructEq
set_option linter.unusedVariables false
set_option linter.unusedSimpArgs false
namespace Go.Ax
attribute [local simp] look_cons
section
variable {P : Program} {T : Nat → Option TI} {M : Mode} {H H' : Heap} {μ μ' : Oid → Option Nat} {F : Fr} {st st' : St} {tm tm' : Nat → Value} {w w' : World} {ρ : Operand → Value}

theorem runUnder {t : TypeId} {d : TypeDesc} (h : P.underlying t = some d) (w : World) : (underlying t).run P w = .ok d w := by simp [underlying, h]
theorem runInfo {t : TypeId} {i : TypeInfo} (h : P.info? t = some i) (w : World) : (typeInfo t).run P w = .ok i w := by simp [typeInfo, h]
theorem runSize {t : TypeId} {i : TypeInfo} (h : P.info? t = some i) (w : World) : (sizeOf t).run P w = .ok i.size w := by simp [sizeOf, runInfo h]
theorem runZero {t : TypeId} {i : TypeInfo} {z : Value} (h : P.info? t = some i) (hz : i.zero = some z) (w : World) : (zeroValue t).run P w = .ok z w := by
  simp [zeroValue, runInfo h, hz]
theorem runAgg {t : TypeId} {ti : TI} (h : TIok P t ti) (w : World) : (isAgg t).run P w = .ok ti.isAgg w := by
  obtain ⟨d, h1, h2⟩ := h.und
  rw [h2]
  simp only [isAgg, Sem.run_bind, runUnder h1, Result.andThen_ok]
  cases d <;> rfl

/-! #### a value without memory -/
theorem good_val (hr : Rel H μ F st tm w) {o : Oper} {x : V} {v : Value} (hs : (execOp ρ o).run P w = .ok (.value v) w) (hx : RepS H μ x v) (hno : x.isOwn = false) :
    Good P H μ F tm w o.dst (st.app (out o.dst x)) (execOp ρ o) := good_same hs (out_rel' hr hx hno)
theorem rep_int {k n} : RepS H μ (.int k n) (.int k n) := .two _ _ (.one _ _ (.data _ _ (.int k n)))
theorem rep_bool {b} : RepS H μ (.bool b) (.bool b) := .two _ _ (.one _ _ (.data _ _ (.bool b)))
theorem rep_str {s : List UInt8} : RepS H μ (.str s) (.string ⟨s.toArray⟩) := .two _ _ (.one _ _ (.data _ _ (.str s)))

theorem bytes_toList (s : List UInt8) : (⟨s.toArray⟩ : ByteArray).toList = s := by rw [ByteArray.toList_eq]
theorem bytes_size (s : List UInt8) : (⟨s.toArray⟩ : ByteArray).size = s.length := by simp [ByteArray.size]

theorem guard_int {op : BinOp} {t : TypeId} {x y : Operand} {k k' : IntKind} {a b : Int} : (eqGuard op t x y (.int k a) (.int k' b)).run P w = .ok () w := by
  unfold eqGuard
  split <;> simp
theorem guard_str {op : BinOp} {t : TypeId} {x y : Operand} {a b : ByteArray} : (eqGuard op t x y (.string a) (.string b)).run P w = .ok () w := by
  unfold eqGuard
  split <;> simp
theorem guard_bool {op : BinOp} {t : TypeId} {x y : Operand} {a b : Bool} : (eqGuard op t x y (.bool a) (.bool b)).run P w = .ok () w := by
  unfold eqGuard
  split <;> simp

theorem guard_ptr {op : BinOp} {t : TypeId} {x y : Operand} {a b : Option Addr} : (eqGuard op t x y (.pointer a) (.pointer b)).run P w = .ok () w := by
  unfold eqGuard
  split <;> simp
theorem _root_.Go.Ax.RepS.nilp {v : Value} (h : RepS H μ .nilp v) : v = .pointer none := by
  cases h with
  | two _ _ h => cases h with | one _ _ h => cases h with | data _ _ h => cases h; rfl
theorem eqNil {t e : TypeId} (h : P.underlying t = some (.pointer e)) (n : Nat) (a : Option Addr) (w : World) : (Op.equalIn (n + 1) t (.pointer a) (.pointer none)).run P w = .ok a.isNone w := by
  rw [Op.equalIn]
  cases a <;> simp only [Sem.run_bind, runUnder h, Result.andThen_ok, Sem.run_pure] <;> rfl
theorem eqBo {t : TypeId} (h : P.underlying t = some .bool) (n : Nat) (a b : Bool) (w : World) : (Op.equalIn (n + 1) t (.bool a) (.bool b)).run P w = .ok (a == b) w := by
  rw [Op.equalIn]
  simp only [Sem.run_bind, runUnder h, Result.andThen_ok, Sem.run_pure]
theorem RepS.agg_inv {cs : List V} {v : Value} (h : RepS H μ (.agg cs) v) : ∃ vs : List Value, v = .agg vs.toArray ∧ RepC H μ cs vs := by
  cases h with
  | two _ _ h => cases h with
    | agg _ vs h => exact ⟨vs, rfl, h⟩
    | one _ _ h => cases h with | data _ _ h => cases h with | agg _ vs h => exact ⟨vs, rfl, h.toC⟩
theorem eq1_run {x y : V} {u v : Value} {r : Bool} {k : Nat} {t : TypeId} {d : TypeDesc} (hx : Rep1 H μ x u) (hy : Rep1 H μ y v) (he : eq1 k x y = some r) (ht : P.underlying t = some d) (hd : basicD k d = true) (n : Nat) (w : World) :
    (Op.equalIn (n + 1) t u v).run P w = .ok r w := by
  have ex : RepS H μ x u := .two _ _ (.one _ _ hx)
  have ey : RepS H μ y v := .two _ _ (.one _ _ hy)
  unfold eq1 at he
  split at he
  · have e1 := ex.int
    have e2 := ey.int
    subst e1; subst e2
    split at he
    · rename_i hk
      subst hk
      injection he with he
      subst he
      cases d <;> simp [basicD] at hd
      simp [Op.equalIn, runUnder ht]
    · cases he
  · have e1 := ex.str
    have e2 := ey.str
    subst e1; subst e2
    injection he with he
    subst he
    cases d <;> simp [basicD] at hd
    simp [Op.equalIn, runUnder ht, beq_toListBytes, bytes_toList]
  · have e1 := ex.bool
    have e2 := ey.bool
    subst e1; subst e2
    injection he with he
    subst he
    cases d <;> simp [basicD] at hd
    simp [Op.equalIn, runUnder ht]
  · cases he
theorem isAgg_basic {t : TypeId} {d : TypeDesc} {k : Nat} (ht : P.underlying t = some d) (hd : basicD k d = true) (w : World) : (isAgg t).run P w = .ok false w := by
  unfold isAgg
  simp only [Sem.run_bind, runUnder ht, Result.andThen_ok]
  cases d <;> first | (simp; done) | (exfalso; revert hd; unfold basicD; split <;> simp_all)
theorem eqFields_run (n : Nat) {xs ys : List Value} (w : World) : ∀ (fs : List Field) (ks : List Nat) (cs ds : List V) (i : Nat) {r : Bool}, (∀ j fd k, fs[j]? = some fd → ks[j]? = some k → fd.name ≠ "_" ∧ fd.offset = i + j ∧ ∃ d, P.underlying fd.type = some d ∧ basicD k d = true) →
    fs.length = ks.length → RepC H μ cs (xs.drop i) → RepC H μ ds (ys.drop i) → eqCells ks cs ds = some r → (Op.eqFields (n + 1) xs.toArray ys.toArray fs).run P w = .ok r w := by
  intro fs
  induction fs with
  | nil =>
    intro ks cs ds i r _ hl _ _ h
    cases ks with
    | cons => simp at hl
    | nil =>
      cases cs <;> cases ds <;> simp [eqCells] at h
      subst h
      simp [Op.eqFields]
  | cons f fs ih =>
    intro ks cs ds i r hf hl hx hy h
    cases ks with
    | nil => simp at hl
    | cons k ks =>
      cases cs with
      | nil => simp [eqCells] at h
      | cons c cs =>
        cases ds with
        | nil => simp [eqCells] at h
        | cons e ds =>
          simp only [eqCells] at h
          split at h
          · rename_i a b h1 h2
            injection h with h
            subst h
            obtain ⟨g1, g2, d, g3, g4⟩ := hf 0 f k rfl rfl
            cases hdx : xs.drop i with
            | nil => rw [hdx] at hx; cases hx
            | cons u us =>
              cases hdy : ys.drop i with
              | nil => rw [hdy] at hy; cases hy
              | cons v vs =>
                rw [hdx] at hx
                rw [hdy] at hy
                cases hx with
                | cons _ _ _ _ _ _ hx1 hx2 =>
                cases hy with
                | cons _ _ _ _ _ _ hy1 hy2 =>
                have ex : xs[i]? = some u := by rw [← List.head?_drop, hdx]; rfl
                have ey : ys[i]? = some v := by rw [← List.head?_drop, hdy]; rfl
                have px : (part f.type xs.toArray f.offset).run P w = .ok u w := by
                  rw [g2]; simp [part, isAgg_basic g3 g4, ex]
                have py : (part f.type ys.toArray f.offset).run P w = .ok v w := by
                  rw [g2]; simp [part, isAgg_basic g3 g4, ey]
                have hrec := ih ks cs ds (i + 1) (fun j fd k hj hk => by
                    have := hf (j + 1) fd k (by simpa using hj) (by simpa using hk)
                    rw [Nat.add_assoc, Nat.add_comm 1 j]; exact this) (by simpa using hl)
                  (by rw [← List.drop_drop, hdx]; simpa using hx2) (by rw [← List.drop_drop, hdy]; simpa using hy2) h2
                simp only [Op.eqFields, if_pos g1, Sem.run_bind, px, py, Result.andThen_ok, eq1_run hx1 hy1 h1 g3 g4]
                cases a
                · simp
                · simpa using hrec
          · cases h
set_option maxHeartbeats 1000000 in
theorem binS_run {op : BinOp} {t : TypeId} {x y : Operand} {a b v : V} {va vb : Value} (hra : RepS H μ a va) (hrb : RepS H μ b vb) {kd : List Nat} (hv : binS kd op a b = some v)
    (hu : EqOk P t kd) :
    ∃ u, (do eqGuard op t x y va vb; binOp op t va vb : Sem Value).run P w = .ok u w ∧ RepS H μ v u ∧ v.isOwn = false := by
  have hmax : IntKind.i64.max = 9223372036854775807 := by decide
  unfold binS at hv
  split at hv
  case h_12 =>
    have e1 := hra.str
    have e2 := hrb.str
    subst e1; subst e2
    split at hv
    · injection hv with hv
      subst hv
      refine ⟨_, ?_, rep_str, rfl⟩
      rw [Sem.run_bind, guard_str]
      simp only [Result.andThen_ok, binOp, Op.stringOp, bytes_size]
      rw [if_neg (by rw [hmax]; omega)]
      simp only [Sem.run_pure]
      congr 2
    · simp at hv
  case h_19 =>
    have e1 := hra.bool
    have e2 := hrb.bool
    subst e1; subst e2
    split at hv
    · rename_i hB
      injection hv with hv
      subst hv
      refine ⟨_, ?_, rep_bool, rfl⟩
      rw [Sem.run_bind, guard_bool]
      simp only [Result.andThen_ok, binOp, Op.equal, Op.maxDepth, Sem.run_bind, eqBo (hu.1 hB), Sem.run_pure]
    · simp at hv
  case h_20 =>
    have e1 := hra.bool
    have e2 := hrb.bool
    subst e1; subst e2
    split at hv
    · rename_i hB
      injection hv with hv
      subst hv
      refine ⟨_, ?_, rep_bool, rfl⟩
      rw [Sem.run_bind, guard_bool]
      simp only [Result.andThen_ok, binOp, Op.equal, Op.maxDepth, Sem.run_bind, eqBo (hu.1 hB), Sem.run_pure]
    · simp at hv
  case h_21 =>
    obtain ⟨us, e1, r1⟩ := hra.agg_inv
    obtain ⟨vs, e2, r2⟩ := hrb.agg_inv
    subst e1; subst e2
    unfold eqAgg at hv
    split at hv
    · rename_i ks
      rw [Option.map_eq_some_iff] at hv
      obtain ⟨r, h1, rfl⟩ := hv
      obtain ⟨fs, g1, g2, g3, g4, g5⟩ := hu.2.2 ks rfl
      refine ⟨_, ?_, rep_bool, rfl⟩
      have hfo : P.fieldsOf t = fs := by simp [Program.fieldsOf, g1]
      rw [Sem.run_bind, run_eqGuard_agg _ _ _ _ _ _ _ g4]
      simp only [Result.andThen_ok]
      rw [run_eql_struct, run_equalIn_struct _ _ _ _ _ (by rw [hfo]; exact g1) g3, hfo, eqFields_run 9998 w fs.toList ks _ _ 0 (by simpa using g5) (by simpa using g2) (by simpa using r1) (by simpa using r2) h1]
      rfl
    · cases hv
  case h_22 =>
    obtain ⟨us, e1, r1⟩ := hra.agg_inv
    obtain ⟨vs, e2, r2⟩ := hrb.agg_inv
    subst e1; subst e2
    unfold eqAgg at hv
    split at hv
    · rename_i ks
      rw [Option.map_eq_some_iff] at hv
      obtain ⟨r, h1, rfl⟩ := hv
      obtain ⟨fs, g1, g2, g3, g4, g5⟩ := hu.2.2 ks rfl
      refine ⟨_, ?_, rep_bool, rfl⟩
      have hfo : P.fieldsOf t = fs := by simp [Program.fieldsOf, g1]
      rw [Sem.run_bind, run_eqGuard_agg _ _ _ _ _ _ _ g4]
      simp only [Result.andThen_ok]
      rw [run_neq_struct, run_equalIn_struct _ _ _ _ _ (by rw [hfo]; exact g1) g3, hfo, eqFields_run 9998 w fs.toList ks _ _ 0 (by simpa using g5) (by simpa using g2) (by simpa using r1) (by simpa using r2) h1]
      rfl
    · cases hv
  case h_23 =>
    have e1 := hra.nilp
    have e2 := hrb.nilp
    subst e1; subst e2
    split at hv
    · rename_i hk
      injection hv with hv
      subst hv
      obtain ⟨e, he⟩ := hu.2.1 hk
      refine ⟨_, ?_, rep_bool, rfl⟩
      rw [Sem.run_bind, guard_ptr]
      simp only [Result.andThen_ok, binOp, Op.equal, Op.maxDepth, Sem.run_bind, eqNil he, Sem.run_pure]
      rfl
    · cases hv
  case h_24 =>
    have e1 := hra.nilp
    have e2 := hrb.nilp
    subst e1; subst e2
    split at hv
    · rename_i hk
      injection hv with hv
      subst hv
      obtain ⟨e, he⟩ := hu.2.1 hk
      refine ⟨_, ?_, rep_bool, rfl⟩
      rw [Sem.run_bind, guard_ptr]
      simp only [Result.andThen_ok, binOp, Op.equal, Op.maxDepth, Sem.run_bind, eqNil he, Sem.run_pure]
      rfl
    · cases hv
  case h_25 =>
    obtain ⟨b, _, e1⟩ := hra.ref
    have e2 := hrb.nilp
    subst e1; subst e2
    split at hv
    · rename_i hk
      injection hv with hv
      subst hv
      obtain ⟨e, he⟩ := hu.2.1 hk
      refine ⟨_, ?_, rep_bool, rfl⟩
      rw [Sem.run_bind, guard_ptr]
      simp only [Result.andThen_ok, binOp, Op.equal, Op.maxDepth, Sem.run_bind, eqNil he, Sem.run_pure]
      rfl
    · cases hv
  case h_26 =>
    obtain ⟨b, _, e1⟩ := hra.ref
    have e2 := hrb.nilp
    subst e1; subst e2
    split at hv
    · rename_i hk
      injection hv with hv
      subst hv
      obtain ⟨e, he⟩ := hu.2.1 hk
      refine ⟨_, ?_, rep_bool, rfl⟩
      rw [Sem.run_bind, guard_ptr]
      simp only [Result.andThen_ok, binOp, Op.equal, Op.maxDepth, Sem.run_bind, eqNil he, Sem.run_pure]
      rfl
    · cases hv
  case h_27 => simp at hv
  all_goals first
    | (have e1 := hra.str
       have e2 := hrb.str
       subst e1; subst e2
       injection hv with hv
       subst hv
       refine ⟨_, ?_, rep_bool, rfl⟩
       rw [Sem.run_bind, guard_str]
       simp [binOp, Op.stringOp, bytes_toList]
       done)
    | (have e1 := hra.int
       have e2 := hrb.int
       subst e1; subst e2
       split at hv
       · rename_i hk
         obtain ⟨hk, h0⟩ := hk
         subst hk
         injection hv with hv
         subst hv
         refine ⟨_, ?_, rep_int, rfl⟩
         rw [Sem.run_bind, guard_int]
         simp [binOp, Op.intDiv, h0]
         done
       · simp at hv; done)
    | (have e1 := hra.int
       have e2 := hrb.int
       subst e1; subst e2
       split at hv
       · rename_i hk
         subst hk
         injection hv with hv
         subst hv
         first
         | (refine ⟨_, ?_, rep_int, rfl⟩
            rw [Sem.run_bind, guard_int]
            simp [binOp, Op.intArith]
            done)
         | (refine ⟨_, ?_, rep_bool, rfl⟩
            rw [Sem.run_bind, guard_int]
            simp [binOp, Op.intCmp]
            done)
       · simp at hv; done)

theorem good_binOp (hT : TabOk P T) (hr : Rel H μ F st tm w) (hρ : Env ρ tm) {o : Oper} {op : BinOp} {t t' : TypeId} {x y : Operand} (ho : o.op = .binOp op t x y t') {l : List Wr}
    (h : (opS T M o).run st = some (.ws l)) : Good P H μ F tm w o.dst (st.app l) (execOp ρ o) := by
  unfold opS at h
  rw [ho] at h
  obtain ⟨ti, hti, h⟩ := rd_bind _ _ _ h
  have hti := hT _ _ (rd_rOpt hti)
  obtain ⟨a, ha, h⟩ := rd_bind _ _ _ h
  obtain ⟨b, hb, h⟩ := rd_bind _ _ _ h
  obtain ⟨v, hv, h⟩ := rd_bind _ _ _ h
  have := rd_pure h
  injection this with this
  subst this
  obtain ⟨u, h1, h2, h3⟩ := binS_run (P := P) (w := w) (t := t) (x := x) (y := y) (ev_rep hr hρ ha) (ev_rep hr hρ hb) (rd_rOpt hv) hti.eq
  refine good_val hr ?_ h2 h3
  simp only [execOp, ho]
  rw [Sem.run_bind] at h1 ⊢
  rw [Sem.run_bind, h1]
  rfl
theorem good_unOp (hr : Rel H μ F st tm w) (hρ : Env ρ tm) {o : Oper} {op : UnOp} {t : TypeId} {x : Operand} (ho : o.op = .unOp op t x) {l : List Wr}
    (h : (opS T M o).run st = some (.ws l)) : Good P H μ F tm w o.dst (st.app l) (execOp ρ o) := by
  unfold opS at h
  rw [ho] at h
  obtain ⟨a, ha, h⟩ := rd_bind _ _ _ h
  obtain ⟨v, hv, h⟩ := rd_bind _ _ _ h
  have := rd_pure h
  injection this with this
  subst this
  have hv := rd_rOpt hv
  have hra := ev_rep hr hρ ha
  unfold unS at hv
  split at hv
  · have e := hra.bool
    injection hv with hv
    subst hv
    exact good_val hr (by simp [execOp, ho, e, Op.unary]) rep_bool rfl
  · have e := hra.int
    injection hv with hv
    subst hv
    exact good_val hr (by simp [execOp, ho, e, Op.unary, Op.intArith]) rep_int rfl
  · simp at hv
theorem good_nilCheck (hr : Rel H μ F st tm w) (hρ : Env ρ tm) {o : Oper} {x : Operand} (ho : o.op = .nilCheck x) {l : List Wr}
    (h : (opS T M o).run st = some (.ws l)) : Good P H μ F tm w o.dst (st.app l) (execOp ρ o) := by
  unfold opS at h
  rw [ho] at h
  obtain ⟨a, ha, h⟩ := rd_bind _ _ _ h
  have hra := ev_rep hr hρ ha
  split at h
  · have := rd_pure h
    injection this with this
    subst this
    obtain ⟨b, _, e⟩ := hra.ref
    exact good_val (v := ρ x) hr (by simp [execOp, ho, e]) hra rfl
  · have := rd_pure h
    injection this with this
    subst this
    obtain ⟨vs, b, o0, e, _⟩ := hra.eptr
    exact good_val (v := ρ x) hr (by simp [execOp, ho, e]) hra rfl
  · simp [Rd.run] at h
theorem run_fieldAt {s : TypeId} {ti : TI} (h : TIok P s ti) {f off n : Nat} (hf : ti.flds[f]? = some (off, n)) (b o : Nat) (w : World) :
    (Instr.fieldAt s (.pointer (some ⟨b, o, none⟩)) f).run P w = .ok (.pointer (some ⟨b, o + off, none⟩)) w := by
  obtain ⟨fs, fd, i, h1, h2, h3, h4, h5, h6⟩ := h.flds f off n hf
  simp only [Instr.fieldAt, Sem.run_bind, runUnder h1, Result.andThen_ok, h2, Instr.sureAddr, Sem.run_pure, fieldPlace, runSize h4, h5, h6, if_false, h3]
  simp only [Addr.add]
  split
  · rename_i h0; simp [h0]
  · rfl
theorem good_fieldAddr (hT : TabOk P T) (hr : Rel H μ F st tm w) (hρ : Env ρ tm) {o : Oper} {s : TypeId} {f : Nat} {x : Operand} (ho : o.op = .fieldAddr s x f) {l : List Wr}
    (h : (opS T M o).run st = some (.ws l)) : Good P H μ F tm w o.dst (st.app l) (execOp ρ o) := by
  unfold opS at h
  rw [ho] at h
  obtain ⟨ti, hti, h⟩ := rd_bind _ _ _ h
  have hti := hT _ _ (rd_rOpt hti)
  obtain ⟨a, ha, h⟩ := rd_bind _ _ _ h
  obtain ⟨⟨off, n⟩, hoff, h⟩ := rd_bind _ _ _ h
  have hoff := rd_rOpt hoff
  have hra := ev_rep hr hρ ha
  dsimp only at h
  split at h
  · have := rd_pure h
    injection this with this
    subst this
    obtain ⟨b, hb, e⟩ := hra.ref
    exact good_val hr (by simp only [execOp, ho, e, Sem.run_bind, run_fieldAt hti hoff]; rfl) (.two _ _ (.one _ _ (.ref _ _ _ hb))) rfl
  · have := rd_pure h
    injection this with this
    subst this
    obtain ⟨vs, b, o0, e, h1, h2⟩ := hra.eptr
    refine good_val (v := .pointer (some ⟨b, o0 + (_ + off), none⟩)) hr ?_ (.two _ _ (.one _ _ (.eptr _ _ _ _ _ h1 h2))) rfl
    simp only [execOp, ho, e, Sem.run_bind, run_fieldAt hti hoff, Nat.add_assoc]
    rfl
  · simp [Rd.run] at h
theorem RepS.tup_inv {vs : List V} {v : Value} (h : RepS H μ (.tup vs) v) : ∃ us : List Value, v = .tuple us.toArray ∧ RepT H μ vs us := by
  cases h with
  | tup _ us h => exact ⟨us, rfl, h⟩
  | two _ _ h => cases h with | one _ _ h => cases h with | data _ _ h => cases h
theorem good_extract (hr : Rel H μ F st tm w) (hρ : Env ρ tm) {o : Oper} {x : Operand} {i : Nat} (ho : o.op = .extract x i) {l : List Wr}
    (h : (opS T M o).run st = some (.ws l)) : Good P H μ F tm w o.dst (st.app l) (execOp ρ o) := by
  unfold opS at h
  rw [ho] at h
  obtain ⟨a, ha, h⟩ := rd_bind _ _ _ h
  have hra := ev_rep hr hρ ha
  split at h
  · rename_i vs
    obtain ⟨v, hv, h⟩ := rd_bind _ _ _ h
    have hv := rd_rOpt hv
    have := rd_pure h
    injection this with this
    subst this
    obtain ⟨us, e, ht⟩ := hra.tup_inv
    have key2 : ∀ (vs : List V) (us : List Value) (i : Nat), RepT H μ vs us → vs[i]? = some v → ∃ u, us[i]? = some u ∧ Rep2 H μ v u := by
      intro vs
      induction vs with
      | nil => intro us i _ h; simp at h
      | cons y ys ih =>
        intro us i ht h
        cases ht with
        | cons _ u _ us h1 h2 =>
          cases i with
          | zero => simp at h; subst h; exact ⟨u, by simp, h1⟩
          | succ i => simpa using ih us i h2 (by simpa using h)
    obtain ⟨u, h1, h2⟩ := key2 vs us i ht hv
    exact good_val (v := u) hr (by simp [execOp, ho, e, Instr.extract, h1]) (RepS.two _ _ h2).weak (weak_not_own _)
  · simp [Rd.run] at h
theorem good_index (hT : TabOk P T) (hr : Rel H μ F st tm w) (hρ : Env ρ tm) {o : Oper} {t : TypeId} {x i : Operand} (ho : o.op = .index t x i) {l : List Wr}
    (h : (opS T M o).run st = some (.ws l)) : Good P H μ F tm w o.dst (st.app l) (execOp ρ o) := by
  unfold opS at h
  rw [ho] at h
  obtain ⟨ti, hti, h⟩ := rd_bind _ _ _ h
  have hti := hT _ _ (rd_rOpt hti)
  obtain ⟨a, ha, h⟩ := rd_bind _ _ _ h
  obtain ⟨b, hb, h⟩ := rd_bind _ _ _ h
  have hra := ev_rep hr hρ ha
  have hrb := ev_rep hr hρ hb
  split at h
  · rename_i s k n _
    have e1 := hra.str
    have e2 := hrb.int
    obtain ⟨c, hc, h⟩ := rd_bind _ _ _ h
    have hc := rd_rOpt hc
    split at h
    · rename_i hs
      have := rd_pure h
      injection this with this
      subst this
      refine good_val (v := .int .u8 c.toNat) hr ?_ rep_int rfl
      unfold idxB at hc
      split at hc
      · rename_i h0
        have hg : (⟨s.toArray⟩ : ByteArray)[n.toNat]? = some c := by
          have hlt := (List.getElem?_eq_some_iff.1 hc).1
          rw [getElem?_pos _ _ (by rw [bytes_size]; exact hlt)]
          congr 1
          have := (List.getElem?_eq_some_iff.1 hc).2
          show s.toArray[n.toNat]'(by simpa using hlt) = c
          simpa using this
        simp [execOp, ho, e1, e2, Instr.index, asIntOf, runUnder (hti.str hs), h0, hg]
      · simp at hc
    · simp [Rd.run] at h
  · simp [Rd.run] at h
theorem addr_off (b off n : Nat) : (Addr.add ⟨b, off, none⟩ n) = ⟨b, off + n, none⟩ := by
  simp only [Addr.add]
  split
  · rename_i h0; simp [h0]
  · rfl
theorem esz_of {ti : TI} {sz : Nat} (hs : ti.esz.map (·.1) = some sz) : ∃ p, ti.esz = some (sz, p) := by
  cases hq : ti.esz with
  | none => rw [hq] at hs; simp at hs
  | some q => rw [hq] at hs; simp at hs; exact ⟨q.2, by rw [← hs]⟩
theorem good_indexAddr (hT : TabOk P T) (hr : Rel H μ F st tm w) (hρ : Env ρ tm) {o : Oper} {t : TypeId} {x i : Operand} (ho : o.op = .indexAddr t x i) {l : List Wr}
    (h : (opS T M o).run st = some (.ws l)) : Good P H μ F tm w o.dst (st.app l) (execOp ρ o) := by
  unfold opS at h
  rw [ho] at h
  obtain ⟨ti, hti, h⟩ := rd_bind _ _ _ h
  have hti := hT _ _ (rd_rOpt hti)
  obtain ⟨a, ha, h⟩ := rd_bind _ _ _ h
  obtain ⟨b, hb, h⟩ := rd_bind _ _ _ h
  have hra := ev_rep hr hρ ha
  have hrb := ev_rep hr hρ hb
  split at h
  · rename_i sz u n k i' _
    have e2 := hrb.int
    split at h
    · rename_i hc
      obtain ⟨c1, c2, c3⟩ := hc
      have := rd_pure h
      injection this with this
      subst this
      obtain ⟨p, hp⟩ := esz_of c3
      obtain ⟨e, ie, z, h1, h2, h3, h4, h5⟩ := hti.esz _ _ hp
      rcases hra.sl with ⟨e0, _⟩ | ⟨bb, c, e1, hbb, _, _⟩
      · omega
      · refine good_val (v := .pointer (some ⟨bb, i'.toNat * sz, none⟩)) hr ?_ (.two _ _ (.one _ _ (.ref _ _ _ hbb))) rfl
        simp [execOp, ho, e1, e2, Instr.indexAt, asIntOf, runUnder h1, c1, c2, runSize h2, h3, addr_off]
    · simp [Rd.run] at h
  · rename_i u off k i' _
    have e2 := hrb.int
    split at h
    · rename_i len sz harr
      split at h
      · rename_i hc
        obtain ⟨c1, c2⟩ := hc
        have := rd_pure h
        injection this with this
        subst this
        obtain ⟨e, ie, h1, h2, h3⟩ := hti.arr _ _ harr
        obtain ⟨bb, hbb, e1⟩ := hra.ref
        refine good_val (v := .pointer (some ⟨bb, off + i'.toNat * sz, none⟩)) hr ?_ (.two _ _ (.one _ _ (.ref _ _ _ hbb))) rfl
        simp [execOp, ho, e1, e2, Instr.indexAt, Instr.sureAddr, asIntOf, runUnder h1, c1, c2, runSize h2, h3, addr_off]
      · simp [Rd.run] at h
    · simp [Rd.run] at h
  · rename_i cs off k i' _
    have e2 := hrb.int
    split at h
    · rename_i len sz harr
      split at h
      · rename_i hc
        obtain ⟨c1, c2⟩ := hc
        have := rd_pure h
        injection this with this
        subst this
        obtain ⟨e, ie, h1, h2, h3⟩ := hti.arr _ _ harr
        obtain ⟨vs, bb, o0, e1, g1, g2⟩ := hra.eptr
        refine good_val (v := .pointer (some ⟨bb, o0 + (off + i'.toNat * sz), none⟩)) hr ?_ (.two _ _ (.one _ _ (.eptr _ _ _ _ _ g1 g2))) rfl
        simp [execOp, ho, e1, e2, Instr.indexAt, Instr.sureAddr, asIntOf, runUnder h1, c1, c2, runSize h2, h3, addr_off, Nat.add_assoc]
      · simp [Rd.run] at h
    · simp [Rd.run] at h
  · split at h
    · rename_i sz xs k n he _ _ _
      have e2 := hrb.int
      obtain ⟨y, hy, h⟩ := rd_bind _ _ _ h
      have hy := rd_rOpt hy
      split at h
      · rename_i hs
        have := rd_pure h
        injection this with this
        subst this
        unfold idx at hy
        split at hy
        · rename_i h0
          obtain ⟨hlt, hyy⟩ := List.getElem?_eq_some_iff.1 hy
          obtain ⟨p, hp⟩ := esz_of hs
          obtain ⟨e, ie, z, h1, h2, h3, h4, h5⟩ := hti.esz _ _ hp
          rcases hra.elems he with ⟨_, e0⟩ | ⟨bb, off, c, e1, hc, hrow⟩
          · subst e0; simp at hlt
          · obtain ⟨us, g1, g2, g3⟩ := hrow.get n.toNat hlt
            rw [hyy] at g2
            refine good_val (v := .pointer (some ⟨bb, (off + n.toNat * sz) + 0, none⟩)) hr ?_ (.two _ _ (.one _ _ (.eptr _ us _ _ _ g2 g3))) rfl
            have hn : n < (xs.length : Int) := by omega
            simp [execOp, ho, e1, e2, Instr.indexAt, asIntOf, runUnder h1, h0, hn, runSize h2, h3, addr_off]
        · simp at hy
      · simp [Rd.run] at h
    · simp [Rd.run] at h
end
end Go.Ax
