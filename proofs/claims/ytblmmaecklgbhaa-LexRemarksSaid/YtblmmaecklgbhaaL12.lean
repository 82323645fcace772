/- A part of the proof of a law of this seat: no condition. -/
import Derived.Test.YtblmmaecklgbhaaL11
set_option linter.unusedSimpArgs false
set_option linter.unusedVariables false
set_option maxRecDepth 20000
namespace Go.Proofs.Ytblmmaecklgbhaa
open Go.Ax
variable {m : Int}
def cyc : List UInt8 := [32, 9, 13, 10]
def blanksN : Nat → List UInt8
  | 0 => []
  | n + 1 => blanksN n ++ sub cyc (n % 4) (n % 4 + 1)
theorem blanks_blank : ∀ (n : Nat), ∀ c ∈ blanksN n, isBlank c = true := by
  intro n
  induction n with
  | zero => simp [blanksN]
  | succ n ih =>
    intro c hc
    rcases List.mem_append.1 hc with hc | hc
    · exact ih c hc
    · have h4 : n % 4 < 4 := Nat.mod_lt _ (by decide)
      have : ∀ k, k < 4 → ∀ c ∈ sub cyc k (k + 1), isBlank c = true := by decide
      exact this _ h4 c hc
theorem blanks_len : ∀ n, (blanksN n).length = n := by
  intro n
  induction n with
  | zero => rfl
  | succ n ih =>
    have h4 : n % 4 < 4 := Nat.mod_lt _ (by decide)
    have : ∀ k, k < 4 → (sub cyc k (k + 1)).length = 1 := by decide
    simp [blanksN, ih, this _ h4]
theorem law_remarks (s remark : List UInt8) (blanks : Int) (hb : blanks < 9223372036854775808) (hrem : remark.length ≤ 140737488351232) (hsl : s.length ≤ 140737488351232) : Ok (base m) 5 [.str s, .str remark, .int .i64 blanks] [] (.bool true) [] := by
  refine k5 (viaS sok10 ?_)
  have hp : True := trivial
  repeat' first
    | refine s_seq ?_
    | refine s_skip ?_
    | (refine s_reg fun K hK => ?_; simp +contextual [S10, sp9, sp10, encF, hp]; refine hK _ ?_; clear hK K)
    | (refine s_regD fun K hK => ?_; simp +contextual [S10, sp9, sp10, encF, hp]; refine finD rfl ?_; simp; refine hK _ ?_; clear hK K)
    | (refine c_reg fun K hK => ?_; simp +contextual [S10, sp9, sp10, encF, hp]; refine hK _ ?_; clear hK K)
    | (refine c_regD fun K hK => ?_; simp +contextual [S10, sp9, sp10, encF, hp]; refine finD rfl ?_; simp; refine hK _ ?_; clear hK K)
    | (refine c_cond rfl (fun h => ?_) (fun h => ?_) <;> (replace hp := And.intro h hp; clear h; try simp only [Bool.eq_false_iff, ne_eq, Bool.and_eq_true, Bool.or_eq_true, Bool.not_eq_true', decide_eq_true_eq, Bool.false_eq_true, Bool.true_eq_false, Decidable.not_not, not_true_eq_false, not_false_eq_true, false_and, true_and] at hp))
    | (refine s_cond rfl (fun h => ?_) (fun h => ?_) <;> (replace hp := And.intro h hp; clear h; try simp only [Bool.eq_false_iff, ne_eq, Bool.and_eq_true, Bool.or_eq_true, Bool.not_eq_true', decide_eq_true_eq, Bool.false_eq_true, Bool.true_eq_false, Decidable.not_not, not_true_eq_false, not_false_eq_true, false_and, true_and] at hp))
    | refine s_block ?_
    | refine c_block ?_
    | refine c_skip ?_
    | refine s_ret ?_
    | refine c_ret ?_
    | refine c_exit ?_
    | refine s_exit ?_
    | refine leave_r ?_
    | refine next_r ?_
    | refine leave_n ?_
    | refine next_n ?_
    | refine next_e ?_
    | refine leave_eq ?_
    | refine leave_ne (by decide) ?_
    | refine hleave .ret _ (by simp) ?_
    | refine hleave (.exit _) _ (by simp) ?_
    | refine c_seq ?_

  refine c_loopI (fun (n : Nat) => (⟨[(0, .str s), (1, .str remark), (2, .int .i64 blanks), (7, nV n)], []⟩ : St)) (fun n => n ≤ remark.length ∧ ∀ c ∈ remark.take n, (c.toNat : Int) ≠ 10) (fun n => remark.length - n) 0 (by simp [restrict]) ⟨by simp, by simp⟩ (fun n K' hn hnext hleave => ?_)
  obtain ⟨hn1, hn2⟩ := hn
  have hk1 : 2 + remark.length ≤ 1000000000000000000 := by omega
  have hk2 : remark.length + 1 + 1 + 1 ≤ 1000000000000000000 := by omega
  repeat' first
    | refine s_seq ?_
    | refine s_skip ?_
    | (refine s_reg fun K hK => ?_; simp +contextual [S10, sp9, sp10, encF, hk1, hk2, hp]; refine hK _ ?_; clear hK K)
    | (refine s_regD fun K hK => ?_; simp +contextual [S10, sp9, sp10, encF, hk1, hk2, hp]; refine finD rfl ?_; simp; refine hK _ ?_; clear hK K)
    | (refine c_reg fun K hK => ?_; simp +contextual [S10, sp9, sp10, encF, hk1, hk2, hp]; refine hK _ ?_; clear hK K)
    | (refine c_regD fun K hK => ?_; simp +contextual [S10, sp9, sp10, encF, hk1, hk2, hp]; refine finD rfl ?_; simp; refine hK _ ?_; clear hK K)
    | (refine c_cond rfl (fun h => ?_) (fun h => ?_) <;> (replace hp := And.intro h hp; clear h; try simp only [Bool.eq_false_iff, ne_eq, Bool.and_eq_true, Bool.or_eq_true, Bool.not_eq_true', decide_eq_true_eq, Bool.false_eq_true, Bool.true_eq_false, Decidable.not_not, not_true_eq_false, not_false_eq_true, false_and, true_and] at hp))
    | (refine s_cond rfl (fun h => ?_) (fun h => ?_) <;> (replace hp := And.intro h hp; clear h; try simp only [Bool.eq_false_iff, ne_eq, Bool.and_eq_true, Bool.or_eq_true, Bool.not_eq_true', decide_eq_true_eq, Bool.false_eq_true, Bool.true_eq_false, Decidable.not_not, not_true_eq_false, not_false_eq_true, false_and, true_and] at hp))
    | refine s_block ?_
    | refine c_block ?_
    | refine c_skip ?_
    | refine s_ret ?_
    | refine c_ret ?_
    | refine c_exit ?_
    | refine s_exit ?_
    | refine leave_r ?_
    | refine next_r ?_
    | refine leave_n ?_
    | refine next_n ?_
    | refine next_e ?_
    | refine leave_eq ?_
    | refine leave_ne (by decide) ?_
    | refine hleave .ret _ (by simp) ?_
    | refine hleave (.exit _) _ (by simp) ?_
    | refine c_seq ?_

  · simp [EndA]
  · refine hnext _ (n + 1) (by simp [restrict, wrapN (n := (n : Int) + 1) (m := n + 1) (by omega) (by omega)]) ⟨by have := hp.2.1; omega, ?_⟩ (by have := hp.2.1; omega)
    intro c hc
    have hlt := hp.2.1
    rw [List.take_succ_eq_append_getElem hlt] at hc
    rcases List.mem_append.1 hc with hc | hc
    · exact hn2 c hc
    · simp at hc
      subst hc
      have := hp.1
      simpa [byteAt, hlt] using this
  have hr : ∀ c ∈ remark, (c.toNat : Int) ≠ 10 := by
    intro c hc
    refine hn2 c ?_
    rw [List.take_of_length_le (by omega)]
    exact hc
  clear hnext hleave hn2
  obtain ⟨pre, hpre⟩ : ∃ pre, pre = [47, 47] ++ remark ++ [10] := ⟨_, rfl⟩
  have hprel : pre.length = 3 + remark.length := by rw [hpre]; simp; omega
  refine c_loopI (fun (n : Nat) => (⟨[(0, .str s), (2, .int .i64 blanks), (8, .str (pre ++ blanksN n)), (9, nV n)], []⟩ : St)) (fun n => n ≤ 20) (fun n => 20 - n) 0 (by simp [restrict, hpre, blanksN]) (by simp) (fun n K' hn hnext hleave => ?_)
  have hm4 : n % 4 < 4 := Nat.mod_lt _ (by decide)
  obtain ⟨q, hq⟩ : ∃ q, q = n % 4 := ⟨_, rfl⟩
  have hmod : Int.tmod (n : Int) 4 = (q : Int) := by rw [hq]; exact (Int.ofNat_tmod n 4).symm
  obtain ⟨q', hq'⟩ : ∃ q', q' = q + 1 := ⟨_, rfl⟩
  have hw4 : IntKind.wrap .i64 ((q : Int) + 1) = (q' : Int) := wrapN (by omega) (by omega)
  have hq1 : q ≤ q' := by omega
  have hq2 : (q' : Int) ≤ 4 := by omega
  have hbl := blanks_len n
  have hcap : pre.length + n + (sub [32, 9, 13, 10] q q').length ≤ 1000000000000000000 := by
    have : (sub [32, 9, 13, 10] q q').length ≤ 4 := by simp [sub]; omega
    omega
  have hsum : IntKind.wrap .i64 ((s.length : Int) + ((pre.length : Int) + (n : Int))) = ((s.length + (pre.length + n) : Nat) : Int) := wrapN (by omega) (by omega)
  repeat' first
    | refine s_seq ?_
    | refine s_skip ?_
    | (refine s_reg fun K hK => ?_; simp +contextual [S10, sp9, sp10, encF, hmod, hw4, hq1, hq2, hbl, hcap, hsum, sub_eq, hp]; refine hK _ ?_; clear hK K)
    | (refine s_regD fun K hK => ?_; simp +contextual [S10, sp9, sp10, encF, hmod, hw4, hq1, hq2, hbl, hcap, hsum, sub_eq, hp]; refine finD rfl ?_; simp; refine hK _ ?_; clear hK K)
    | (refine c_reg fun K hK => ?_; simp +contextual [S10, sp9, sp10, encF, hmod, hw4, hq1, hq2, hbl, hcap, hsum, sub_eq, hp]; refine hK _ ?_; clear hK K)
    | (refine c_regD fun K hK => ?_; simp +contextual [S10, sp9, sp10, encF, hmod, hw4, hq1, hq2, hbl, hcap, hsum, sub_eq, hp]; refine finD rfl ?_; simp; refine hK _ ?_; clear hK K)
    | (refine c_cond rfl (fun h => ?_) (fun h => ?_) <;> (replace hp := And.intro h hp; clear h; try simp only [Bool.eq_false_iff, ne_eq, Bool.and_eq_true, Bool.or_eq_true, Bool.not_eq_true', decide_eq_true_eq, Bool.false_eq_true, Bool.true_eq_false, Decidable.not_not, not_true_eq_false, not_false_eq_true, false_and, true_and] at hp))
    | (refine s_cond rfl (fun h => ?_) (fun h => ?_) <;> (replace hp := And.intro h hp; clear h; try simp only [Bool.eq_false_iff, ne_eq, Bool.and_eq_true, Bool.or_eq_true, Bool.not_eq_true', decide_eq_true_eq, Bool.false_eq_true, Bool.true_eq_false, Decidable.not_not, not_true_eq_false, not_false_eq_true, false_and, true_and] at hp))
    | refine s_block ?_
    | refine c_block ?_
    | refine c_skip ?_
    | refine s_ret ?_
    | refine c_ret ?_
    | refine c_exit ?_
    | refine s_exit ?_
    | refine leave_r ?_
    | refine next_r ?_
    | refine leave_n ?_
    | refine next_n ?_
    | refine next_e ?_
    | refine leave_eq ?_
    | refine leave_ne (by decide) ?_
    | refine hleave .ret _ (by simp) ?_
    | refine hleave (.exit _) _ (by simp) ?_
    | refine c_seq ?_

  · refine hnext _ (n + 1) ?_ (by omega) (by omega)
    simp [restrict, blanksN, cyc, wrapN (n := (n : Int) + 1) (m := n + 1) (by omega) (by omega), hq', hq]
  · simp [EndA]
  have hlen : ([47, 47] ++ remark ++ [10] ++ blanksN n ++ s).length ≤ 65536 := by
    rw [← hpre]
    simp only [List.length_append, hbl]
    have := hp.1
    omega
  have e2 := lex_remark hr (blanks_blank n) hlen
  rw [← hpre] at e2
  obtain ⟨l, c, p, e1⟩ : ∃ l c p, lexP s = (l, c, p) := ⟨_, _, _, rfl⟩
  rw [e1] at e2
  have hll : l.length ≤ 65536 := by have := lexP_len s; rw [e1] at this; exact this
  have hbnd := lexP_bound s
  rw [e1] at hbnd
  obtain ⟨hp16, ht16⟩ := hbnd
  simp only at hp16 ht16
  have hk : (pre ++ blanksN n).length = pre.length + n := by rw [List.length_append, hbl]
  rw [hk, List.append_assoc] at e2
  have hcap2 : pre.length + n + s.length ≤ 1000000000000000000 := by omega
  obtain ⟨P, hP⟩ : ∃ P, P = if c = 0 then p else pre.length + n + p := ⟨_, rfl⟩
  have e3 : lexP (pre ++ (blanksN n ++ s)) = (l.map (shT (pre.length + n)), c, P) := by rw [e2, hP]; rfl
  have hwp : IntKind.wrap .i64 ((p : Int) + ((pre.length : Int) + (n : Int))) = ((pre.length + n + p : Nat) : Int) := wrapN (by omega) (by have := hp.1; omega)
  have hP2 : (c = 0) = False → P = pre.length + n + p := fun h => by rw [hP, if_neg (by simpa using h)]
  clear hnext hleave
  repeat' first
    | refine s_seq ?_
    | refine s_skip ?_
    | (refine s_reg fun K hK => ?_; simp +contextual [S10, sp9, sp10, encF, e1, e3, hcap2, hbl, hwp, hp]; refine hK _ ?_; clear hK K)
    | (refine s_regD fun K hK => ?_; simp +contextual [S10, sp9, sp10, encF, e1, e3, hcap2, hbl, hwp, hp]; refine finD rfl ?_; simp; refine hK _ ?_; clear hK K)
    | (refine c_reg fun K hK => ?_; simp +contextual [S10, sp9, sp10, encF, e1, e3, hcap2, hbl, hwp, hp]; refine hK _ ?_; clear hK K)
    | (refine c_regD fun K hK => ?_; simp +contextual [S10, sp9, sp10, encF, e1, e3, hcap2, hbl, hwp, hp]; refine finD rfl ?_; simp; refine hK _ ?_; clear hK K)
    | (refine c_cond rfl (fun h => ?_) (fun h => ?_) <;> (replace hp := And.intro h hp; clear h; try simp only [Bool.eq_false_iff, ne_eq, Bool.and_eq_true, Bool.or_eq_true, Bool.not_eq_true', decide_eq_true_eq, Bool.false_eq_true, Bool.true_eq_false, Decidable.not_not, not_true_eq_false, not_false_eq_true, false_and, true_and] at hp))
    | (refine s_cond rfl (fun h => ?_) (fun h => ?_) <;> (replace hp := And.intro h hp; clear h; try simp only [Bool.eq_false_iff, ne_eq, Bool.and_eq_true, Bool.or_eq_true, Bool.not_eq_true', decide_eq_true_eq, Bool.false_eq_true, Bool.true_eq_false, Decidable.not_not, not_true_eq_false, not_false_eq_true, false_and, true_and] at hp))
    | refine s_block ?_
    | refine c_block ?_
    | refine c_skip ?_
    | refine s_ret ?_
    | refine c_ret ?_
    | refine c_exit ?_
    | refine s_exit ?_
    | refine leave_r ?_
    | refine next_r ?_
    | refine leave_n ?_
    | refine next_n ?_
    | refine next_e ?_
    | refine leave_eq ?_
    | refine leave_ne (by decide) ?_
    | refine hleave .ret _ (by simp) ?_
    | refine hleave (.exit _) _ (by simp) ?_
    | refine c_seq ?_

  · exfalso
    have h1 := hp.1.1
    rw [if_neg h1] at hP
    exact hp.1.2 (by omega)
  have hkk : 0 ≤ pre.length + n := by omega
  refine c_loopI (fun (j : Nat) => (⟨[(8, .str (pre ++ blanksN n)), (10, .slice 3 (l.map encT)), (12, .slice 3 ((l.map (shT (pre.length + n))).map encT)), (14, nV j)], []⟩ : St)) (fun j => j ≤ l.length) (fun j => l.length - j) 0 (by simp [restrict]) (by simp) (fun j K' hj hnext hleave => ?_)
  have hwj : j < l.length → IntKind.wrap .i64 ((nth l j).pos + ((pre.length : Int) + (n : Int))) = ((pre.length + n + (nth l j).pos : Nat) : Int) := fun h => by
    have hm : nth l j ∈ l := by
      have : nth l j = l[j] := by simp [nth, h]
      rw [this]; exact List.getElem_mem _
    have := ht16 _ hm
    exact wrapN (by omega) (by have := hp.2.1; omega)
  repeat' first
    | refine s_seq ?_
    | refine s_skip ?_
    | (refine s_reg fun K hK => ?_; simp +contextual [S10, sp9, sp10, encF, hbl, hwj, encT, shT, Function.comp_def, hp]; refine hK _ ?_; clear hK K)
    | (refine s_regD fun K hK => ?_; simp +contextual [S10, sp9, sp10, encF, hbl, hwj, encT, shT, Function.comp_def, hp]; refine finD rfl ?_; simp; refine hK _ ?_; clear hK K)
    | (refine c_reg fun K hK => ?_; simp +contextual [S10, sp9, sp10, encF, hbl, hwj, encT, shT, Function.comp_def, hp]; refine hK _ ?_; clear hK K)
    | (refine c_regD fun K hK => ?_; simp +contextual [S10, sp9, sp10, encF, hbl, hwj, encT, shT, Function.comp_def, hp]; refine finD rfl ?_; simp; refine hK _ ?_; clear hK K)
    | (refine c_cond rfl (fun h => ?_) (fun h => ?_) <;> (replace hp := And.intro h hp; clear h; try simp only [Bool.eq_false_iff, ne_eq, Bool.and_eq_true, Bool.or_eq_true, Bool.not_eq_true', decide_eq_true_eq, Bool.false_eq_true, Bool.true_eq_false, Decidable.not_not, not_true_eq_false, not_false_eq_true, false_and, true_and] at hp))
    | (refine s_cond rfl (fun h => ?_) (fun h => ?_) <;> (replace hp := And.intro h hp; clear h; try simp only [Bool.eq_false_iff, ne_eq, Bool.and_eq_true, Bool.or_eq_true, Bool.not_eq_true', decide_eq_true_eq, Bool.false_eq_true, Bool.true_eq_false, Decidable.not_not, not_true_eq_false, not_false_eq_true, false_and, true_and] at hp))
    | refine s_block ?_
    | refine c_block ?_
    | refine c_skip ?_
    | refine s_ret ?_
    | refine c_ret ?_
    | refine c_exit ?_
    | refine s_exit ?_
    | refine leave_r ?_
    | refine next_r ?_
    | refine leave_n ?_
    | refine next_n ?_
    | refine next_e ?_
    | refine leave_eq ?_
    | refine leave_ne (by decide) ?_
    | refine hleave .ret _ (by simp) ?_
    | refine hleave (.exit _) _ (by simp) ?_
    | refine c_seq ?_

  · refine hnext _ (j + 1) ?_ (by have := hp.1; omega) (by have := hp.1; omega)
    simp [restrict, encT, shT, Function.comp_def, wrapN (n := (j : Int) + 1) (m := j + 1) (by omega) (by omega)]
  · simp [EndA]
end Go.Proofs.Ytblmmaecklgbhaa
