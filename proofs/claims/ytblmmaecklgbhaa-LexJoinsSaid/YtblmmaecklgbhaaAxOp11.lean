/- A part of the proof of a law of this seat: no condition. -/
import Derived.Test.YtblmmaecklgbhaaAxOp10
set_option linter.unusedVariables false
set_option linter.unusedSimpArgs false
namespace Go.Ax
attribute [local simp] look_cons
section
variable {P : Program} {T : Nat → Option TI} {M : Mode} {H H' : Heap} {μ μ' : Oid → Option Nat} {F : Fr} {st st' : St} {tm tm' : Nat → Value} {w w' : World} {ρ : Operand → Value}

theorem good_min (hr : Rel H μ F st tm w) (hρ : Env ρ tm) {o : Oper} {args : Array Operand} {at' : Array TypeId} (ho : o.op = .call { callee := .builtin .min, args := args, argTypes := at' }) {l : List Wr}
    (h : (opS T M o).run st = some (.ws l)) : Good P H μ F tm w o.dst (st.app l) (execOp ρ o) := by
  unfold opS at h
  rw [ho] at h
  replace h := rd_bind _ _ _ h
  obtain ⟨vs, hvs, h⟩ := h
  obtain ⟨h1, h2⟩ := evs_rep hr hρ hvs
  split at h
  · rename_i k a k' b
    obtain ⟨x, y, rfl⟩ := list2 (h1.symm)
    have e1 := (h2 0 (by simp) (by simp)).1.int
    have e2 := (h2 1 (by simp) (by simp)).1.int
    simp at e1 e2
    split at h
    · rename_i hk
      subst hk
      have := rd_pure h
      injection this with this
      subst this
      refine good_val (v := .int k (min a b)) hr ?_ rep_int rfl
      simp only [execOp, ho, resolve, Sem.run_bind, Sem.run_pure, Result.andThen_ok, invoke, builtin, List.map_toArray, List.map_cons, List.map_nil, Builtin.min_, List.foldlM_cons, List.foldlM_nil, e1, e2, Builtin.min2]
      congr 3
      by_cases hab : b < a
      · rw [if_pos hab]; congr 1; omega
      · rw [if_neg hab]; congr 1; omega
    · simp [Rd.run] at h
  · simp [Rd.run] at h
theorem good_max (hr : Rel H μ F st tm w) (hρ : Env ρ tm) {o : Oper} {args : Array Operand} {at' : Array TypeId} (ho : o.op = .call { callee := .builtin .max, args := args, argTypes := at' }) {l : List Wr}
    (h : (opS T M o).run st = some (.ws l)) : Good P H μ F tm w o.dst (st.app l) (execOp ρ o) := by
  unfold opS at h
  rw [ho] at h
  replace h := rd_bind _ _ _ h
  obtain ⟨vs, hvs, h⟩ := h
  obtain ⟨h1, h2⟩ := evs_rep hr hρ hvs
  split at h
  · rename_i k a k' b
    obtain ⟨x, y, rfl⟩ := list2 (h1.symm)
    have e1 := (h2 0 (by simp) (by simp)).1.int
    have e2 := (h2 1 (by simp) (by simp)).1.int
    simp at e1 e2
    split at h
    · rename_i hk
      subst hk
      have := rd_pure h
      injection this with this
      subst this
      refine good_val (v := .int k (max a b)) hr ?_ rep_int rfl
      simp only [execOp, ho, resolve, Sem.run_bind, Sem.run_pure, Result.andThen_ok, invoke, builtin, List.map_toArray, List.map_cons, List.map_nil, Builtin.max_, List.foldlM_cons, List.foldlM_nil, e1, e2, Builtin.max2]
      congr 3
      by_cases hab : b > a
      · rw [if_pos hab]; congr 1; omega
      · rw [if_neg hab]; congr 1; omega
    · simp [Rd.run] at h
  · simp [Rd.run] at h
theorem bytesOf_some {cs : List V} {s : List UInt8} (h : bytesOf cs = some s) : ∃ ns : List Int, cs = ns.map (.int .u8) ∧ s = ns.map fun n => UInt8.ofNat n.toNat := by
  induction cs generalizing s with
  | nil => simp [bytesOf] at h; subst h; exact ⟨[], rfl, rfl⟩
  | cons c cs ih =>
    unfold bytesOf at h
    split at h
    · rename_i e; cases e
    · rename_i n r e
      injection e with e1 e2
      subst e1; subst e2
      rw [Option.map_eq_some_iff] at h
      obtain ⟨s', h1, rfl⟩ := h
      obtain ⟨ns, h2, h3⟩ := ih h1
      exact ⟨n :: ns, by rw [h2]; rfl, by rw [h3]; rfl⟩
    · simp at h
theorem foldl_push (ns : List Int) : ∀ (a : ByteArray), (ns.foldl (fun r n => r.push (UInt8.ofNat n.toNat)) a).data.toList = a.data.toList ++ ns.map fun n => UInt8.ofNat n.toNat := by
  induction ns with
  | nil => intro a; simp
  | cons n ns ih =>
    intro a
    simp only [List.foldl_cons, ih, List.map_cons]
    simp [ByteArray.push]
theorem good_convert (hT : TabOk P T) (hr : Rel H μ F st tm w) (hρ : Env ρ tm) {o : Oper} {src dst : TypeId} {x : Operand} (ho : o.op = .convert src dst x) {l : List Wr}
    (h : (opS T M o).run st = some (.ws l)) : Good P H μ F tm w o.dst (st.app l) (execOp ρ o) := by
  unfold opS at h
  rw [ho] at h
  replace h := rd_bind _ _ _ h
  obtain ⟨ti, hti, h⟩ := h
  have hti := hT _ _ (rd_rOpt hti)
  replace h := rd_bind _ _ _ h
  obtain ⟨tj, htj, h⟩ := h
  have htj := hT _ _ (rd_rOpt htj)
  replace h := rd_bind _ _ _ h
  obtain ⟨v, hv, h⟩ := h
  have hrv := ev_rep hr hρ hv
  obtain ⟨dd, hdd, _⟩ := htj.und
  split at h
  · rename_i k' n
    replace h := rd_bind _ _ _ h
    obtain ⟨k, hk, h⟩ := h
    have hk := rd_rOpt hk
    have := rd_pure h
    injection this with this
    subst this
    have e := hrv.int
    refine good_val (v := .int k (k.wrap n)) hr ?_ rep_int rfl
    have hu := hti.ik k hk
    simp only [execOp, ho, e, convert, Sem.run_bind, runUnder hdd, runUnder hu, Result.andThen_ok, Conv.intToInt, Sem.run_pure]
  · rename_i sz u n
    simp only [Rd.run] at h
    split at h
    · rename_i cs hob
      replace h := rd_bind _ _ _ h
      obtain ⟨s, hs, h⟩ := h
      have hs := rd_rOpt hs
      split at h
      · rename_i hc
        obtain ⟨c1, c2, c3⟩ := hc
        have := rd_pure h
        injection this with this
        subst this
        have hd := hti.str c1
        obtain ⟨e, he, heu⟩ := htj.isB c2
        obtain ⟨ns, n1, n2⟩ := bytesOf_some hs
        rcases hrv.sl with ⟨h0, h1⟩ | ⟨b, c, h1, hb, hn, hsz⟩
        · subst h0
          have hs0 : s = [] := by
            simpa [bytesOf] using hs
          subst hs0
          refine good_val (v := .string ⟨([] : List UInt8).toArray⟩) hr ?_ rep_str rfl
          simp only [execOp, ho, h1]
          simp only [Sem.run_bind, run_convert_bytes_string w src dst e none 0 0 he heu hd, Conv.bytesToString, Sem.run_pure]
          rfl
        · obtain ⟨vs, ty, hblk, hrep, _⟩ := hr.cellsAt hob hb
          have hlenr := hrep.length
          rw [List.length_take] at hlenr
          have hlen2 : cs.length ≤ vs.size := by simp at hlenr; omega
          have hlc : ns.length = n := by
            have := congrArg List.length n1
            simp at this
            omega
          have hload : (loadCells ⟨b, 0, none⟩ n).run P w = .ok (ns.map (Value.int .u8)).toArray w := by
            refine loadCells_run (fun j hj => ?_) (by simp [hlc])
            rw [Nat.zero_add, cell?_of hblk]
            have hj' : j < ns.length := by simpa using hj
            have hjc : j < cs.length := by omega
            have hg := (hrep.get j hjc (by rw [List.length_take]; simp; omega)).2.2
            have hcj : cs[j] = .int .u8 ns[j] := by
              have := congrArg (fun l => l[j]?) n1
              simp only [List.getElem?_take, List.getElem?_map] at this
              rw [if_pos (by omega), List.getElem?_eq_getElem hjc, List.getElem?_eq_getElem hj'] at this
              simpa using this
            rw [hcj] at hg
            have := (RepS.two _ _ (.one _ _ hg)).int
            simp only [List.getElem_take, Array.getElem_toList] at this
            rw [Array.getElem?_eq_getElem (by omega), this]
            simp
          refine good_val (v := .string ⟨s.toArray⟩) hr ?_ rep_str rfl
          simp only [execOp, ho, h1]
          simp only [Sem.run_bind, run_convert_bytes_string w src dst e (some ⟨b, 0, none⟩) n c he heu hd, run_bytesToString w ⟨b, 0, none⟩ n c ns hload, Result.andThen_ok, Sem.run_pure]
          congr 3
          have := foldl_push ns ByteArray.empty
          rw [n2]
          cases hq : List.foldl (fun r n => r.push (UInt8.ofNat n.toNat)) ByteArray.empty ns with
          | mk d =>
            rw [hq] at this
            simp at this
            congr 1
            apply Array.ext'
            simp [this]
      · simp [Rd.run] at h
    · simp [Rd.run] at h
  · simp [Rd.run] at h
theorem wrap_small {n : Int} (h1 : 0 ≤ n) (h2 : n ≤ 140737488355328) : IntKind.i64.wrap n = n := by
  simp only [IntKind.wrap, IntKind.bits, IntKind.signed]
  have e : (2 : Int) ^ 64 = 18446744073709551616 := by decide
  have e' : (2 : Int) ^ 63 = 9223372036854775808 := by decide
  simp [e, e']
  omega
theorem zcs_len : ∀ {xs : List V} {vs : List Value}, zcs xs vs = true → xs.length = vs.length
  | [], [], _ => rfl
  | x :: xs, v :: vs, h => by simp [zcs] at h; simp [zcs_len h.2]
  | [], _ :: _, h => by simp [zcs] at h
  | _ :: _, [], h => by simp [zcs] at h
theorem flat_get {α : Type} (z : List α) (hz : 0 < z.length) : ∀ (n j : Nat), (List.replicate n z).flatten[j]? = if j < n * z.length then z[j % z.length]? else none := by
  intro n
  induction n with
  | zero => intro j; simp
  | succ n ih =>
    intro j
    rw [List.replicate_succ, List.flatten_cons, List.getElem?_append]
    split
    · rename_i h
      rw [Nat.mod_eq_of_lt h, if_pos (by rw [Nat.succ_mul]; omega)]
    · rename_i h
      rw [ih, Nat.succ_mul]
      by_cases hj : j - z.length < n * z.length
      · rw [if_pos hj, if_pos (by omega)]
        rw [show j % z.length = (j - z.length) % z.length from by rw [Nat.mod_eq_sub_mod (by omega)]]
      · rw [if_neg hj, if_neg (by omega)]
theorem good_makeSlice (hT : TabOk P T) (hr : Rel H μ F st tm w) (hρ : Env ρ tm) {o : Oper} {t : TypeId} {lo co : Operand} (ho : o.op = .makeSlice t lo co) {l : List Wr}
    (h : (opS T M o).run st = some (.ws l)) : Good P H μ F tm w o.dst (st.app l) (execOp ρ o) := by
  unfold opS at h
  rw [ho] at h
  dsimp only at h
  split at h
  · rename_i d hd
    replace h := rd_bind _ _ _ h
    obtain ⟨ti, hti, h⟩ := h
    have hti := hT _ _ (rd_rOpt hti)
    replace h := rd_bind _ _ _ h
    obtain ⟨vl, hl, h⟩ := h
    replace h := rd_bind _ _ _ h
    obtain ⟨vc, hc, h⟩ := h
    replace h := rd_bind _ _ _ h
    obtain ⟨⟨sz, bytes⟩, hsz, h⟩ := h
    have hsz := rd_rOpt hsz
    dsimp only at h
    replace h := rd_bind _ _ _ h
    obtain ⟨_, hf, h⟩ := h
    have ho' := fresh_run hf (.loc d) (by simp)
    have hrl := ev_rep hr hρ hl
    have hrc := ev_rep hr hρ hc
    split at h
    · rename_i k n k' m
      have e1 := hrl.int
      have e2 := hrc.int
      split at h
      · rename_i hcc
        obtain ⟨c1, c2, c3, c4, c5⟩ := hcc
        subst c1
        have := rd_pure h
        injection this with this
        subst this
        have c4' : sz = ti.ez.length := by rw [hsz] at c4; simpa using c4
        have hsz' : ti.esz = some (ti.ez.length, bytes) := by rw [hsz, c4']
        obtain ⟨e, ie, z, g1, g2, g3, g4, g5, g6, g7, g8⟩ := hti.esz _ _ hsz'
        obtain ⟨e', ie', z', q1, q2, q3, q4⟩ := hti.ez _ _ hsz' (by intro e; rw [e] at g7; simp at g7)
        rw [g1] at q1
        injection q1 with q1
        injection q1 with q1
        subst q1
        rw [g2] at q2
        injection q2 with q2
        subst q2
        rw [g5] at q3
        injection q3 with q3
        subst q3
        have hzr : ∀ {H : Heap} {μ : Oid → Option Nat}, RepC H μ ti.ez z.cells.toList := fun {H μ} => zcs_rep q4
        have hzl := zcs_len q4
        generalize hcells : ((Array.range (n.toNat * ti.ez.length)).map fun i => (if n.toNat * ti.ez.length = 0 then (#[] : Array Value) else z.cells)[i % (if n.toNat * ti.ez.length = 0 then (#[] : Array Value) else z.cells).size]!) = cells
        have hcs : cells.size = n.toNat * ti.ez.length := by rw [← hcells]; simp
        have hflen : (List.replicate n.toNat ti.ez).flatten.length = n.toNat * ti.ez.length := by simp
        have hget : ∀ j, j < n.toNat * ti.ez.length → ∃ h1 : j % ti.ez.length < z.cells.size, cells[j]? = some (z.cells[j % ti.ez.length]) := by
          intro j hj
          have hm := Nat.mod_lt j g7
          have hzs : z.cells.size = ti.ez.length := by simpa using hzl.symm
          refine ⟨by omega, ?_⟩
          rw [← hcells]
          have h0 : ¬ n.toNat * ti.ez.length = 0 := by omega
          simp only [if_neg h0, Array.getElem?_map, Array.getElem?_range, hj, if_true, Option.map_some, hzs]
          rw [getElem!_pos _ _ (by omega)]
        have hrep : RepC H μ (List.replicate n.toNat ti.ez).flatten cells.toList := by
          refine RepC.of_get (by rw [hflen]; simp [hcs]) fun j hj hj' => ?_
          rw [hflen] at hj
          obtain ⟨h1, h2⟩ := hget j hj
          have hm := Nat.mod_lt j g7
          have e1 : (List.replicate n.toNat ti.ez).flatten[j]? = some (ti.ez[j % ti.ez.length]) := by
            rw [flat_get _ g7, if_pos hj, List.getElem?_eq_getElem hm]
          have e2 := (List.getElem?_eq_some_iff.1 e1).2
          have e3 : cells.toList[j] = z.cells[j % ti.ez.length] := by
            rw [Array.getElem_toList]
            exact (Array.getElem?_eq_some_iff.1 h2).2
          rw [e2, e3]
          have := (hzr (H := H) (μ := μ)).get _ hm (by simpa using h1)
          simpa using this
        have hnoown : ∀ (j sz' : Nat) (ys : List V) (b off n' c' : Nat), (List.replicate n.toNat ti.ez).flatten[j]? = some (.own sz' ys) → cells[j]? = some (.slice (some ⟨b, off, none⟩) n' c') → False := by
          intro j sz' ys b off n' c' h1 h2
          have hj : j < n.toNat * ti.ez.length := by rw [← hflen]; exact (List.getElem?_eq_some_iff.1 h1).1
          rw [flat_get _ g7, if_pos hj] at h1
          obtain ⟨h3, h4⟩ := hget j hj
          rw [h4] at h2
          injection h2 with h2
          rcases zcs_own q4 _ _ (z.cells[j % ti.ez.length]) h1 (by rw [Array.getElem?_toList]; exact Array.getElem?_eq_getElem h3) with h5 | h5
          · simp [V.isOwn] at h5
          · exact h5 _ _ _ h2
        obtain ⟨n1, n2⟩ := (hr.world (w' := w) rfl).newRowOb (w' := { w with heap := w.heap.push (.cells cells e) }) (o := .loc d) (by simp) ho' (xs := (List.replicate n.toNat ti.ez).flatten) (vs := cells) (ty := e)
          (by rw [List.take_of_length_le (by rw [hflen]; simp [hcs])]; exact hrep)
          (rowOk_iff.2 fun y hy => by
            simp only [List.mem_flatten, List.mem_replicate] at hy
            obtain ⟨l, ⟨_, rfl⟩, hy⟩ := hy
            exact rowOk_iff.1 c5 y hy)
          (fun j j' sz1 ys1 off1 n1 c1 sz2 ys2 off2 n2 c2 b h1 h2 _ _ => (hnoown _ _ _ _ _ _ _ h1 h2).elim)
          (fun j sz' ys b off n' c' h1 h2 => (hnoown _ _ _ _ _ _ _ h1 h2).elim) rfl ⟨rfl, rfl, rfl⟩
        rw [hd]
        have hwr : IntKind.i64.wrap n = n := by
          have hb : (bytes : Int) ≥ 1 := by omega
          have : n * 1 ≤ n * bytes := Int.mul_le_mul_of_nonneg_left hb c2
          exact wrap_small (by omega) (by omega)
        have hbig : ¬ (ie.bytes : Int) * n > 2 ^ 48 := by
          rw [g4, Int.mul_comm]
          have : (2 : Int) ^ 48 = 281474976710656 := by decide
          omega
        refine ⟨_, updO μ (.loc d) (some w.heap.size), _, _, .slice (some ⟨w.heap.size, 0, none⟩) n.toNat n.toNat, ?_, .inl rfl, ?_, n2⟩
        · have hneg : ¬ n < 0 := by omega
          have hrun : ∀ w : World, (if n.toNat * ti.ez.length = 0 then (pure #[] : Sem (Array Value)) else do pure (← zeroValue e).cells).run P w = .ok (if n.toNat * ti.ez.length = 0 then (#[] : Array Value) else z.cells) w := by
            intro w
            split
            · rfl
            · simp only [Sem.run_bind, runZero g2 g5, Result.andThen_ok, Sem.run_pure]
          simp only [execOp, ho, e1, e2, Instr.makeSlice, asInt, asIntOf, Sem.run_bind, runUnder g1, runInfo g2, runSize g2, g3, Result.andThen_ok, Sem.run_pure, hwr, hneg, hbig, decide_false, Bool.or_false, Bool.false_or, Int.lt_irrefl, gt_iff_lt,
            Bool.false_eq_true, if_false, run_askRoom, newRow, run_newObj]
          split
          · rename_i h0
            simp only [if_pos h0] at hcells
            simp only [Sem.run_bind, Sem.run_pure, Result.andThen_ok, run_newObj, hcells]
          · rename_i h0
            simp only [if_neg h0] at hcells
            simp only [Sem.run_bind, Sem.run_pure, Result.andThen_ok, runZero g2 g5, run_newObj, hcells]
        · simp only [St.app]
          exact n1.put (.two _ _ (.one _ _ (.sl _ _ w.heap.size _ _ (by simp [updO]) (Nat.le_refl _) (by simp [Heap.put, hcs])))) (by simp)
      · simp [Rd.run] at h
    · simp [Rd.run] at h
  · simp [Rd.run] at h
end
end Go.Ax
